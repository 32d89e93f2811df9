/- What is proved here: parts of the proofs of this seat's statements (a verified evaluator for calls over pure values, its laws, and contracts of functions). No condition. -/
import Derived.Test.YtmkoabmapmehdaaGreatDoorKzj
import Derived.Test.YtmkoabmapmehdaaGreatDoorKzg
import Derived.Test.YtmkoabmapmehdaaGreatDoorKzd
import Derived.Test.YtmkoabmapmehdaaGreatDoorKzi
set_option linter.all false
open List renaming length_append→z00,replicate→z01,mem_of_mem_drop→z02,append_assoc→z03,length_drop→z04,mem_singleton→z05,mem_of_mem_take→z06,length_cons→z07,mem_cons_of_mem→z08,drop_left→z09,mem_flatten→z11,length_take→z12,mem_map→z13,mem_append→z14,length_nil→z15,take_left→z16,length_map→z18,take_append_drop→z20,length_singleton→z21,getElem?_drop→z22,flatten_cons→z24,any_eq_true→z25,append_nil→z26,map_nil→z27
open Nat renaming le_refl→z10,zero_le→z17,zero_add→z19,add_sub_cancel→z23,le_trans→z28
set_option maxRecDepth 100000
set_option maxHeartbeats 400000
namespace Go.Ck
open Go.Proofs
theorem ah4(b:List Nat)(hl:b.length≤2^38)(hb:∀x∈b,x<256):Fn Tryz.prog 33 (i4 b) [.ptr 1000 0] (fun rs H'=>rs=[.pv (Ak (yf b).1),.pv (.int .i64 (yf b).2)]∧H'=i4 (blk b 268435456).2.2):=by
 refine Fn.ob Tryz.f33 28 [.cell 2 27,.tmp 3] fun C=> ?_
 have hr:aw=140737488355328:=rfl;obtain⟨hbb,hrb,hbl,hrl⟩:=j8 (m:=268435456) hb;have hbf:=za b 268435456 (by decide) (by omega) hb
 unfold yf;unfold i4 at hbf⊢;generalize blk b 268435456=B at*;obtain⟨s,e,q0⟩:=B;simp only at hbb hrb hrl hbf hbl⊢;refine aa ?_;refine av (args:=[.ptr 1000 0,.pv (.int .i64 ((268435456:Nat):Int))]) (fun _=>1000) hbf (.ptr rfl (.pv _ .nil)) ?_
 by_cases he:e=0
 rotate_left
 ·have d1:(e !=0)=true:=by rw[bne_iff_ne];exact he
  rw[if_pos he];refine aa ?_ (by simp only[go_sem,↓reduceIte,d1]<;>rfl)
  refine am rfl ?_;refine aa ?_;refine ar (.cell 2 1) 5 ?_;refine bj (.cell 2 1) ?_;refine ar (.cell 2 2) 55 ?_;refine bj (.cell 2 2) ?_;refine ar (.cell 2 3) 5 ?_;refine bj (.cell 2 3) ?_;refine ac (.pv _ (.pv _ .nil)) rfl
 have d1:(e !=0)=false:=by rw[he];rfl
 rw[if_neg (not_not_intro he)];have w32:IntKind.i64.wrap ((s.length:Int)-32)=(s.length:Int)-32:=an (by omega) (by omega)
 refine aa ?_ (by simp only[go_sem,↓reduceIte,d1]<;>rfl)
 refine ae rfl ?_;by_cases h32:s.length<32
 ·have d2:decide ((s.length:Int)-32<0)=true:=decide_eq_true (by omega)
  rw[if_pos h32];refine aa ?_ (by simp only[go_sem,↓reduceIte,w32,d2]<;>rfl)
  refine am rfl ?_;refine aa ?_;refine ar (.cell 2 1) 5 ?_;refine bj (.cell 2 1) ?_;refine ar (.cell 2 2) 55 ?_;refine bj (.cell 2 2) ?_;refine ar (.cell 2 3) 5 ?_;refine bj (.cell 2 3) ?_;refine ac (.pv _ (.pv _ .nil)) rfl
 have w32':(s.length:Int)-32=((s.length-32:Nat):Int):=by omega
 have w32b:IntKind.i64.wrap ((s.length:Int)-32)=((s.length-32:Nat):Int):=by rw[w32,w32']
 have d2:decide (((s.length-32:Nat):Int)<0)=false:=decide_eq_false (by omega)
 rw[if_neg h32];refine aa ?_ (by simp only[go_sem,↓reduceIte,w32b,d2]<;>rfl)
 refine ae rfl ?_;refine bj (.slot 4) ?_;have hmb:∀x∈s.take (s.length-32),x<256:=fun x hx=>hbb x (z06 hx)
 have hdf:=Ms (s.take (s.length-32)) (by rw[z12];omega) hmb
 generalize kz (s.take (s.length-32))=D at*;obtain⟨⟨v,p,es,r⟩,de⟩:=D;simp only at hdf⊢;have hm:=vz v p es r;rw[hm]at hdf⊢;have hk1:(s.length-32≤s.length)=True:=eq_true (by omega)
 have htk:=dz s (s.length-32);refine aa ?_ (by simp only[go_sem,↓reduceIte,hk1,htk]<;>rfl)
 refine ap hdf (.pv _ .nil) ?_;refine aa ?_;refine ac (.pv _ (.pv _ .nil)) rfl
theorem Wn(q:List Nat)(n:Nat)(hn:n<2^62)(hl:q.length≤aw)(hb:∀x∈q,x<256):Fn Tryz.prog 34 (i4 q) [.ptr 1000 0,.pv (.int .i64 (n:Int))] (fun rs H'=>rs=[.pv (.int .i64 ((fw q n).1:Nat)),.pv (.int .i64 ((fw q n).2.1:Nat)),.pv (.int .i64 (fw q n).2.2.1)]∧H'=i4 (fw q n).2.2.2):=by
 refine Fn.ob Tryz.f34 42 [.tmp 4,.tmp 5,.tmp 6] fun C=> ?_
 have hv1:=nx q hl hb;have hv2:=nx (q.drop (a6 q).2.1) (by rw[z04];omega) (fun x hx=>hb x (z02 hx))
 have hlt1:=sj hb;have hlt2:=sj (b:=q.drop (a6 q).2.1) (fun x hx=>hb x (z02 hx))
 unfold fw;generalize a6 (q.drop (a6 q).2.1)=R2 at*;generalize a6 q=R1 at*;obtain⟨a,k1,e1⟩:=R1;obtain⟨c,k2,e2⟩:=R2;simp only at hv1 hv2 hlt1 hlt2⊢;unfold i4 at hv1 hv2⊢;refine aa ?_;refine av (fun _=>1000) hv1 (.ptr rfl .nil) ?_
 by_cases h1:e1=0
 rotate_left
 ·have d1:(e1 !=0)=true:=by rw[bne_iff_ne];exact h1
  simp only[if_pos h1];refine aa ?_ (by simp only[go_sem,↓reduceIte,d1]<;>rfl)
  refine am rfl ?_;refine aa ?_;refine ac (.pv _ (.pv _ (.pv _ .nil))) rfl
 have d1:(e1 !=0)=false:=by rw[h1];rfl
 simp only[if_neg (not_not_intro h1)];refine aa ?_ (by simp only[go_sem,↓reduceIte,d1]<;>rfl)
 refine ae rfl ?_;refine aa ?_;refine av (fun _=>1000) hv2 (.ptr rfl .nil) ?_
 by_cases h2:e2=0
 rotate_left
 ·have d2:(e2 !=0)=true:=by rw[bne_iff_ne];exact h2
  simp only[if_pos h2];refine aa ?_ (by simp only[go_sem,↓reduceIte,d2]<;>rfl)
  refine am rfl ?_;refine aa ?_;refine ac (.pv _ (.pv _ (.pv _ .nil))) rfl
 have d2:(e2 !=0)=false:=by rw[h2];rfl
 simp only[if_neg (not_not_intro h2)];have wn:IntKind.u64.wrap (n:Int)=(n:Int):=ay (by omega)
 refine aa ?_ (by simp only[go_sem,↓reduceIte,d2]<;>rfl)
 refine ae rfl ?_;by_cases h3:n≤a
 ·have f1:decide ((a:Int)≥(n:Int))=true:=decide_eq_true (by omega)
  have f1':decide (n≤a)=true:=decide_eq_true h3;simp only[if_pos (Or.inl h3:n≤a∨n-a≤c)];refine ak ?_ (by simp only[go_sem,↓reduceIte,wn,f1,f1']<;>rfl)
  refine am rfl ?_;refine aa ?_;refine ac (.pv _ (.pv _ (.pv _ .nil))) rfl
 have f1:decide ((a:Int)≥(n:Int))=false:=decide_eq_false (by omega)
 have f1':decide (n≤a)=false:=decide_eq_false h3;have wna:IntKind.u64.wrap ((n:Int)-(a:Int))=((n-a:Nat):Int):=by rw[show(n:Int)-(a:Int)=((n-a:Nat):Int)by omega];exact ay (by omega)
 by_cases h4:n-a≤c
 ·have f2:decide ((c:Int)≥((n-a:Nat):Int))=true:=decide_eq_true (by omega)
  have f2':decide (n-a≤c)=true:=decide_eq_true h4;simp only[if_pos (Or.inr h4:n≤a∨n-a≤c)];refine ak ?_ (by simp only[go_sem,↓reduceIte,wn,f1,f1',wna,f2,f2']<;>rfl)
  refine am rfl ?_;refine aa ?_;refine ac (.pv _ (.pv _ (.pv _ .nil))) rfl
 have f2:decide ((c:Int)≥((n-a:Nat):Int))=false:=decide_eq_false (by omega)
 have f2':decide (n-a≤c)=false:=decide_eq_false h4;have wa:IntKind.i64.wrap (a:Int)=(a:Int):=au (by omega)
 have wc:IntKind.i64.wrap (c:Int)=(c:Int):=au (by omega)
 simp only[if_neg (show¬(n≤a∨n-a≤c)by omega)]
 refine ak ?_ (by simp only[go_sem,↓reduceIte,wn,f1,f1',wna,f2,f2']<;>rfl)
 refine ae rfl ?_;refine aa ?_ (by simp only[go_sem,↓reduceIte,wa,wc]<;>rfl)
 refine ac (.pv _ (.pv _ (.pv _ .nil))) rfl
theorem ah3(q:List Nat)(hl:q.length≤aw)(hb:∀x∈q,x<256):Fn Tryz.prog 37 (i4 q) [.ptr 1000 0] (fun rs H'=>rs=[.own 22 (az (Ap q).1),.pv (.int .i64 (Ap q).2.1)]∧H'=i4 (Ap q).2.2):=by
 refine Fn.ob Tryz.f37 38 [.tmp 2,.tmp 3] fun C=> ?_
 have hr:aw=140737488355328:=rfl;have m1:(1≤maxLen)=True:=eq_true (by unfold maxLen;decide)
 have hv1:=nx q hl hb;have hlt1:=sj hb;unfold Ap;generalize a6 q=R1 at*;obtain⟨n,k1,e1⟩:=R1;simp only at hv1 hlt1⊢;have hq1l:(q.drop k1).length≤aw:=by rw[z04];omega
 generalize q.drop k1=q1 at*;unfold i4 at hv1⊢;refine aa ?_;refine av (fun _=>1000) hv1 (.ptr rfl .nil) ?_
 by_cases h1:e1=0
 rotate_left
 ·have d1:(e1 !=0)=true:=by rw[bne_iff_ne];exact h1
  simp only[if_pos h1];refine aa ?_ (by simp only[go_sem,↓reduceIte,d1]<;>rfl)
  refine am rfl ?_;refine aa ?_;refine ac (.move rfl (.pv _ .nil)) rfl
 have d1:(e1 !=0)=false:=by rw[h1];rfl
 simp only[if_neg (not_not_intro h1)];refine aa ?_ (by simp only[go_sem,↓reduceIte,d1]<;>rfl)
 refine ae rfl ?_;by_cases h2:64<n
 ·have f1:decide ((n:Int)>64)=true:=decide_eq_true (by omega)
  have f1':decide (64<n)=true:=decide_eq_true h2;simp only[if_pos h2];refine aa ?_ (by simp only[go_sem,↓reduceIte,f1,f1']<;>rfl)
  refine am rfl ?_;refine aa ?_;refine ac (.move rfl (.pv _ .nil)) rfl
 have f1:decide ((n:Int)>64)=false:=decide_eq_false (by omega)
 have f1':decide (64<n)=false:=decide_eq_false h2;simp only[if_neg h2];refine aa ?_ (by simp only[go_sem,↓reduceIte,f1,f1']<;>rfl)
 refine ae rfl ?_;refine aa ?_;refine aq (fun a:Nat×List (List Nat)×List Nat=>⟨38,[(20,.pv (.int .u64 a.1)),(19,.pv (.int .u64 n)),(0,.ptr 1000 0),(6,.own 22 (az a.2.1)),(2,.own 22 []),(3,.pv (.int .i64 0))],[(1000,.cells 110 [.pv (.sl 1 (bytes a.2.2))])]⟩)
  (fun a=>a.1≤n∧rx (n-a.1) a.2.1 a.2.2=rx n [] q1∧a.2.1.length=a.1∧a.2.2.length≤aw) (fun a=>n-a.1) [20,19,0,6,2,3] [1000] (0,[],q1) ⟨z17 _,rfl,rfl,hq1l⟩ ?_
 rintro⟨i,bc,q⟩ ⟨hi,hcut,hal,hql⟩ K hK;simp only at hi hcut hal hql;rw[←hcut];refine aa ?_;refine AW.cond rfl (fun hc=> ?_) (fun hc=> ?_)
 ·have hlt:i<n:=by have:=of_decide_eq_true hc;omega
  have hn1:n-i=(n-(i+1))+1:=by omega
  have ei:IntKind.u64.wrap ((i:Int)+1)=((i+1:Nat):Int):=by rw[show(i:Int)+1=((i+1:Nat):Int)by omega];exact ay (by omega)
  rw[hn1]at hcut⊢;have hstep:rx ((n-(i+1))+1) bc q=if 32≤q.length then rx (n-(i+1)) (bc++[q.take 32]) (q.drop 32)else([],q,2):=rfl
  rw[hstep]at hcut⊢;have hbf2:=pq q 32 hql;unfold i4 at hbf2;refine aa ?_;refine av (args:=[.ptr 1000 0,.pv (.int .i64 ((32:Nat):Int))]) (fun _=>1000) hbf2 (.ptr rfl (.pv _ .nil)) ?_
  by_cases hq:32≤q.length
  ·rw[if_pos hq]at hcut⊢;simp only[if_pos hq];have hs:az bc++[.sl 1 (bytes (q.take 32))]=az (bc++[q.take 32]):=by rw[←ia];rfl
   have r1:((i+1)*24≤aw)=True:=eq_true (by omega)
   have r2:(i+1≤aw)=True:=eq_true (by omega)
   refine aa ?_;refine ae rfl ?_;refine bj (.slot 7) ?_;refine aa ?_ (by simp only[go_sem,↓reduceIte,m1,hs,bf,hal,z07,z15,z19,r1,r2,ei]<;>rfl)
   exact ah hK (i+1,bc++[q.take 32],q.drop 32) ⟨by simp only;omega,hcut,by simp only[z00,z21];omega,by simp only[z04];omega⟩ (by simp only;omega)
  ·rw[if_neg hq];simp only[if_neg hq];refine aa ?_;refine am rfl ?_;refine aa ?_;refine ac (.move rfl (.pv _ .nil)) rfl
 have hge:i=n:=by have:=of_decide_eq_false hc;omega
 subst hge;rw[Nat.sub_self];have hend:rx 0 bc q=(bc,q,0):=rfl;rw[hend];rw[if_neg (not_not_intro rfl)];refine aa ?_;refine av (fun _=>1000) (E9 q) (.ptr rfl .nil) ?_
 refine aa ?_;refine ac (.move rfl (.pv _ .nil)) rfl
theorem Uj{b:List Nat}(hb:∀x∈b,x<256):(yf b).1.es.length≤1048576:=by
 obtain⟨hbb,hrb,hbl,hrl⟩:=j8 (m:=268435456) hb;unfold yf;split
 ·exact z17 _
 split
 ·exact z17 _
 ·exact(wx (fun x hx=>hbb x (z06 hx))).1
theorem Wl(b:List Nat)(hl:b.length≤2^38)(hb:∀x∈b,x<256):Fn Tryz.prog 10 [] [.pv (.sl 1 (bytes b))] (fun rs H'=>rs=[.pv (arx (Ll b).1),.pv (.int .i64 (Ll b).2)]∧H'=[]):=by
 refine Fn.ob Tryz.f10 85 [.cell 2 45,.tmp 3] fun C=> ?_
 have hr:aw=140737488355328:=rfl;have m1:(1≤maxLen)=True:=eq_true (by unfold maxLen;decide)
 have hr0:∀e:Int,[SV.pv (.agg [.int .u64 0,.sl 1 [],.sl 2 [],.sl 1 [],.int .i64 0,.sl 1 [],.sl 1 []]),.pv (.int .i64 e)]=[SV.pv (arx (aav,e).1),.pv (.int .i64 (aav,e).2)]:=fun e=>rfl
 obtain⟨hbb,hrb,hbl,hrl⟩:=j8 (m:=268435456) hb;have hcn:=E8 b (by omega)
 have hhf:=ah4 b (by omega) hb
 have hhs:=Uj hb;unfold Ll;generalize(blk b 268435456).2.2=q0 at*;generalize yf b=D at*;obtain⟨⟨v,p,es,r⟩,de⟩:=D;have hm:=vz v p es r;simp only at hhf hhs⊢;rw[hm]at hhf;unfold i4 at hhf;refine aa ?_;refine av (fun o=>if o=7 then 15 else 0) hcn (.pv _ .nil) ?_
 refine aa ?_;refine av (fun _=>15) hhf (.ptr rfl .nil) ?_
 by_cases hde:de=0
 rotate_left
 ·have d3:(de !=0)=true:=by rw[bne_iff_ne];exact hde
  rw[if_pos hde];refine aa ?_ (by simp only[go_sem,↓reduceIte,d3]<;>rfl)
  refine am rfl ?_;refine aa ?_;refine ar (.cell 2 1) 5 ?_;refine bj (.cell 2 1) ?_;refine ar (.cell 2 2) 55 ?_;refine bj (.cell 2 2) ?_;refine ar (.cell 2 3) 5 ?_;refine bj (.cell 2 3) ?_;refine ar (.cell 2 5) 22 ?_;refine bj (.cell 2 5) ?_;refine ar (.cell 2 6) 22 ?_;refine bj (.cell 2 6) ?_;refine ac (.pv _ (.pv _ .nil)) rfl
 have d3:(de !=0)=false:=by rw[hde];rfl
 rw[if_neg (not_not_intro hde)];refine aa ?_ (by simp only[go_sem,↓reduceIte,d3]<;>rfl)
 refine ae rfl ?_;have hel:(b9 es).length=es.length:=by simp[b9]
 have hpf:=Wn q0 es.length (by omega) (by omega) hrb
 have hps:=T8 (n:=es.length) hrb;have hpo:=Wq (q:=q0) (n:=es.length);unfold i4 at hpf;unfold Vn;simp only;generalize fw q0 es.length=PL at*;obtain⟨i,k,e1,q1⟩:=PL;simp only at hpf hps hpo⊢;refine aa ?_ (by simp only[go_sem,↓reduceIte,hel]<;>rfl)
 refine av (fun _=>15) hpf (.ptr rfl (.pv _ .nil)) ?_
 by_cases he1:e1=0
 rotate_left
 ·have d1:(e1 !=0)=true:=by rw[bne_iff_ne];exact he1
  rw[if_pos he1];refine aa ?_ (by simp only[go_sem,↓reduceIte,d1]<;>rfl)
  refine am rfl ?_;refine aa ?_;refine ar (.cell 2 1) 5 ?_;refine bj (.cell 2 1) ?_;refine ar (.cell 2 2) 55 ?_;refine bj (.cell 2 2) ?_;refine ar (.cell 2 3) 5 ?_;refine bj (.cell 2 3) ?_;refine ar (.cell 2 5) 22 ?_;refine bj (.cell 2 5) ?_;refine ar (.cell 2 6) 22 ?_;refine bj (.cell 2 6) ?_;refine ac (.pv _ (.pv _ .nil)) rfl
 have d1:(e1 !=0)=false:=by rw[he1];rfl
 rw[if_neg (not_not_intro he1)];have hik:=hpo he1;refine aa ?_ (by simp only[go_sem,↓reduceIte,d1]<;>rfl)
 refine ae rfl ?_;have w1:IntKind.i64.wrap ((i:Int)+(k:Int))=((i+k:Nat):Int):=au (n:=i+k) (by omega)
 have w2:IntKind.i64.wrap (((i+k:Nat):Int)+1)=((i+k+1:Nat):Int):=ai (by omega)
 have k1:(i≤i+k+1)=True:=eq_true (by omega)
 have k2:(i+k+1≤es.length)=True:=eq_true (by omega)
 have hsub:(((i+k+1:Nat):Int)-(i:Int)).toNat=k+1:=by omega
 have hsl:((b9 es).drop i).take (k+1)=b9 ((es.drop i).take (k+1)):=by unfold b9;rw[List.map_take,List.map_drop]
 have hEl:((es.drop i).take (k+1)).length=k+1:=by rw[z12,z04];omega
 have hEl2:(b9 ((es.drop i).take (k+1))).length=k+1:=by rw[z8,hEl]
 generalize hE:(es.drop i).take (k+1)=E at*;refine aa ?_ (by simp only[go_sem,↓reduceIte,hel,w1,w2,k1,k2,hsub,hsl,hEl2]<;>rfl)
 refine ar (.cell 9 5) 22 ?_;refine aq (fun a:Nat×List (List Nat)×List Nat=>⟨85,[(50,.pv (.int .i64 a.1)),(49,.pv (.int .i64 ((k+1:Nat):Int))),(48,.pv (.sl 2 (b9 E))),(4,.ptr 15 0),(9,.ptr 9 0),(2,.ptr 2 0),(3,.pv (.int .i64 0))],[(9,.cells 45 [.pv (.int .u64 v),.pv (.sl 1 (bytes p)),.pv (.sl 2 (b9 es)),.pv (.sl 1 (bytes r)),.pv (.int .i64 i),.own 22 (az a.2.1),.nils]),(15,.cells 110 [.pv (.sl 1 (bytes a.2.2))]),(2,.cells 45 [.pv (.int .u64 0),.nils,.nils,.nils,.pv (.int .i64 0),.nils,.nils])]⟩)
  (fun a=>a.1≤k+1∧ir (E.drop a.1) a.2.1 a.2.2=ir E [] q1∧a.2.1.length=a.1∧a.2.2.length≤b.length∧∀x∈a.2.2,x<256) (fun a=>k+1-a.1) [50,49,48,4,9,2,3] [9,15,2] (0,[],q1) ⟨z17 _,rfl,rfl,z28 hps.2 hrl,hps.1⟩ ?_ (hs:=by simp only[go_sem,↓reduceIte,hEl2]<;>rfl)
 rintro⟨j,bc,q⟩ ⟨hj,hcut,hal,hql,hqb⟩ K hK;simp only at hj hcut hal hql hqb;unfold Vm;rw[←hcut];refine aa ?_;refine AW.cond rfl (fun hc=> ?_) (fun hc=> ?_)
 ·have hlt:j<k+1:=by have:=of_decide_eq_true hc;omega
  obtain⟨⟨en,ek⟩,hen⟩:∃x,E[j]?=some x:=⟨E[j],List.getElem?_eq_getElem (by omega)⟩
  have hg:(b9 E)[j]?=some (.agg [.str en,.int .i64 ek]):=by unfold b9;rw[List.getElem?_map,hen];rfl
  have ei:IntKind.i64.wrap ((j:Int)+1)=((j+1:Nat):Int):=ai (by omega)
  have hdrop:E.drop j=(en,ek)::E.drop (j+1):=by
   obtain⟨h,he'⟩:=List.getElem?_eq_some_iff.1 hen;rw[←he',List.drop_eq_getElem_cons h]
  have hsz:=yt ek;have w16:IntKind.i64.wrap ((c9 ek:Int)+16)=((c9 ek+16:Nat):Int):=au (n:=c9 ek+16) (by omega)
  rw[hdrop]at hcut⊢;have hstep:ir ((en,ek)::E.drop (j+1)) bc q=if c9 ek+16≤q.length then ir (E.drop (j+1)) (bc++[q.take (c9 ek+16)]) (q.drop (c9 ek+16))else([],[],2):=rfl
  rw[hstep]at hcut⊢;have hbf2:=pq q (c9 ek+16) (by omega)
  unfold i4 at hbf2;generalize c9 ek+16=n at*;refine aa ?_ (by simp only[go_sem,↓reduceIte,hg]<;>rfl)
  refine ap (Ou ek) (.pv _ .nil) ?_;refine aa ?_ (by simp only[go_sem,↓reduceIte,w16]<;>rfl)
  refine av (fun _=>15) hbf2 (.ptr rfl (.pv _ .nil)) ?_
  by_cases hq:n≤q.length
  ·rw[if_pos hq]at hcut⊢;simp only[if_pos hq];have hs:az bc++[.sl 1 (bytes (q.take n))]=az (bc++[q.take n]):=by rw[←ia];rfl
   have hbal:(az bc).length=j:=by rw[bf,hal]
   have r1:((j+1)*24≤aw)=True:=eq_true (by omega)
   have r2:(j+1≤aw)=True:=eq_true (by omega)
   refine aa ?_;refine ae rfl ?_;refine bj (.slot 12) ?_;generalize hLA:az bc=LA at*;refine aa ?_ (by simp only[go_sem,↓reduceIte,m1,hs,hbal,z07,z15,z19,r1,r2,ei]<;>rfl)
   exact ah hK (j+1,bc++[q.take n],q.drop n) ⟨by simp only;omega,hcut,by simp only[z00,z21];omega,by simp only[z04];omega,fun x hx=>hqb x (z02 hx)⟩ (by simp only;omega)
  ·rw[if_neg hq];simp only[if_neg hq];refine aa ?_;refine am rfl ?_;refine aa ?_;refine ar (.cell 2 1) 5 ?_;refine bj (.cell 2 1) ?_;refine ar (.cell 2 2) 55 ?_;refine bj (.cell 2 2) ?_;refine ar (.cell 2 3) 5 ?_;refine bj (.cell 2 3) ?_;refine ar (.cell 2 5) 22 ?_;refine bj (.cell 2 5) ?_;refine ar (.cell 2 6) 22 ?_;refine bj (.cell 2 6) ?_;refine ac (.pv _ (.pv _ .nil)) rfl
 have hge:j=k+1:=by have:=of_decide_eq_false hc;omega
 subst hge;have hdn:E.drop (k+1)=[]:=List.drop_eq_nil_of_le (by omega)
 rw[hdn];have hend:ir [] bc q=(bc,q,0):=rfl;rw[hend];rw[if_neg (not_not_intro rfl)];have hsf:=ah3 q (by omega) hqb
 unfold i4 at hsf;simp only;generalize Ap q=S at*;obtain⟨pr,e5,q5⟩:=S;simp only at hsf⊢;refine aa ?_;refine av (fun _=>15) hsf (.ptr rfl .nil) ?_
 by_cases he5:e5=0
 rotate_left
 ·have d5:(e5 !=0)=true:=by rw[bne_iff_ne];exact he5
  rw[if_pos he5];refine aa ?_ (by simp only[go_sem,↓reduceIte,d5]<;>rfl)
  refine am rfl ?_;refine aa ?_;refine ar (.cell 2 1) 5 ?_;refine bj (.cell 2 1) ?_;refine ar (.cell 2 2) 55 ?_;refine bj (.cell 2 2) ?_;refine ar (.cell 2 3) 5 ?_;refine bj (.cell 2 3) ?_;refine ar (.cell 2 5) 22 ?_;refine bj (.cell 2 5) ?_;refine ar (.cell 2 6) 22 ?_;refine bj (.cell 2 6) ?_;refine ac (.pv _ (.pv _ .nil)) rfl
 have d5:(e5 !=0)=false:=by rw[he5];rfl
 rw[if_neg (not_not_intro he5)];refine aa ?_ (by simp only[go_sem,↓reduceIte,d5]<;>rfl)
 refine ae rfl ?_;refine bj (.cell 9 5) ?_;refine bj (.cell 9 6) ?_;refine aa ?_;refine ac (.pv _ (.pv _ .nil)) rfl
theorem Qe(root:List Nat)(n i:Int)(se ps:List (List Nat))(hll:se.length≤2^38)(hx:∀x∈se,x.length≤2^27)(hps:BN (2^27) ps)(hpl:ps.length≤2^40)(hn:n≤2^62)(hi: -(2^62)≤i∧i≤2^62)(hr:∀x∈root,x<256)(hrb:∀x∈(gm n i (se.map br) ps).1,x<256)(hrl:(gm n i (se.map br) ps).1.length<2^62):
  Fn Tryz.prog 11 [] [.pv (.sl 1 (bytes root)),.pv (.int .i64 n),.pv (.int .i64 i),.pv (.sl 1 (az se)),.pv (.sl 1 (az ps))] (fun rs H'=>rs=[.pv (.bool (Ch root n i (se.map br) ps))]∧H'=[]):=by
 refine Fn.ob Tryz.f11 18 [.tmp 10] fun C=> ?_
 have hv:=V1 root n i (se.map br) ps (by rw[z18];exact hll) (aak se) hps hpl hn hi hr hrb hrl
 refine aa ?_;refine ap (J0 se (by omega) hx) (.pv _ .nil) ?_
 refine bj (.slot 15) ?_;refine aa ?_;refine ap hv (.pv _ (.pv _ (.pv _ (.pv _ (.pv _ .nil))))) ?_;refine aa ?_;refine ac (.pv _ .nil) rfl
theorem zc(m:Man)(h:fm m=0)(hv:m.v<2^64):(dc m).length≤2^27:=by
 obtain⟨w1,w2,w3,w4,w5,w6⟩:=jt h;have hnl:(iw m.es).length≤m.es.length:=by rw[yw];exact vv _
 have hn64:∀s∈iw m.es,s.length≤64:=by
  intro s hs;obtain⟨e,he,rfl⟩:=(nr m.es s).1 hs;exact w6 e he
 have h1:=jz jr 74 (iw m.es) (fun s hs=>ut s (hn64 s hs))
 have h2:=jz (n7 (iw m.es)) 11 m.es (fun s hs=>Dg _ s (by omega))
 have l1:=bn (v:=(iw m.es).length) (by omega)
 have l2:=bn (v:=m.es.length) (by omega)
 have hb:=gv m.v 8;simp only[dc,Hw,z00,z07,z15];omega
theorem Bu:∀(es:List je) (ss bc:List (List Nat)) (q:List Nat),SOK ss es→ir es bc (ss.flatten++q)=(bc++ss,q,0)
 |[],ss,bc,q,h=>by
  have:ss=[]:=List.eq_nil_of_length_eq_zero h.len;subst this;simp[ir]
 |e::es,[],bc,q,h=>by have:=h.len;simp at this
 |e::es,s::ss,bc,q,h=>by
  have hsz:=h.sz 0 s e rfl rfl;have hs:SOK ss es:=⟨by have:=h.len;simpa using this,fun x hx=>h.b x (z08 _ hx),fun j x e' hj he=>h.sz (j+1) x e' (by simpa using hj) (by simpa using he)⟩
  unfold ir;rw[z24,z03,if_pos (by rw[z00];omega),←hsz,z16,z09,Bu es ss _ q hs,z03]
  rfl
theorem SOK.sub{ss:List (List Nat)}{es:List je}(h:SOK ss es)(a n:Nat):SOK ((ss.drop a).take n) ((es.drop a).take n):=by
 refine⟨by rw[z12,z12,z04,z04,h.len],fun x hx=>h.b x (z02 (z06 hx)),fun j x e hj he=> ?_⟩
 rw[List.getElem?_take]at hj he;split at hj
 ·rename_i hlt;rw[if_pos hlt,z22]at he;rw[z22]at hj;exact h.sz _ x e hj he
 ·cases hj
theorem Tq{m:Man}{mac:List Nat}{ss:List (List Nat)}(hw:fm m=0)(hv:m.v<2^64)(hm:mac.length=32)(hs:SOK ss m.es):
  fp (cg (dc m++mac).length++(dc m++mac)++ss.flatten)=⟨m,dc m++mac,ss,0⟩:=by
 have hl:=zc m hw hv;have hsl:(dc m++mac).length=(dc m).length+32:=by rw[z00,hm]
 unfold fp;rw[Pr (by omega) (by omega)]
 simp only;rw[if_neg (not_not_intro rfl),if_neg (by omega),hsl,z23,z16,J9 hw hv,if_neg (not_not_intro rfl)]
 unfold Cl;have:=Bu m.es ss [] [] hs;rw[z26]at this;simp only;rw[this];simp
theorem Ka:∀(ss bc:List (List Nat)) (q:List Nat),(∀x∈ss,x.length=32)→rx ss.length bc (ss.flatten++q)=(bc++ss,q,0)
 |[],bc,q,h=>by simp[rx]
 |s::ss,bc,q,h=>by
  have hs:=h s (by simp)
  rw[z07];unfold rx;rw[z24,z03,if_pos (by rw[z00];omega),←hs,z16,z09,Ka ss _ q (fun x hx=>h x (z08 _ hx)),z03]
  rfl
theorem Xe{m:Man}{mac:List Nat}(hw:fm m=0)(hv:m.v<2^64)(hm:mac.length=32)(r:List Nat):
  yf (cg (dc m++mac).length++(dc m++mac)++r)=(m,0)∧(blk (cg (dc m++mac).length++(dc m++mac)++r) 268435456).2.2=r:=by
 have hl:=zc m hw hv;have hsl:(dc m++mac).length=(dc m).length+32:=by rw[z00,hm]
 unfold yf;rw[Pr (by omega) (by omega)]
 simp only;rw[if_neg (not_not_intro rfl),if_neg (by omega),hsl,z23,z16,J9 hw hv]
 exact⟨rfl,trivial⟩
theorem P3{i k n:Nat}(h:i+k<n)(hn:n<2^62)(r:List Nat):fw (cg i++cg k++r) n=(i,k,0,r):=by
 have e1:a6 (cg i++cg k++r)=(i,(cg i).length,0):=by rw[z03];exact rf (by omega) _
 have e2:(cg i++cg k++r).drop (cg i).length=cg k++r:=by rw[z03,z09]
 unfold fw;rw[e1];simp only;rw[e2,rf (v:=k) (by omega)]
 simp only;rw[if_neg (not_not_intro rfl),if_neg (not_not_intro rfl),if_neg (by omega),z09]
theorem V9{ss:List (List Nat)}(h:∀x∈ss,x.length=32)(hl:ss.length≤64):Ap (cg ss.length++ss.flatten)=(ss,0,[]):=by
 have e1:=rf (v:=ss.length) (by omega) ss.flatten
 have e2:=Ka ss [] [] h;rw[z26]at e2;unfold Ap;rw[e1];simp only;rw[if_neg (not_not_intro rfl),if_neg (by omega),z09,e2]
 simp
theorem Wm{m:Man}{mac:List Nat}{ss ps:List (List Nat)}{i j:Nat}(hw:fm m=0)(hv:m.v<2^64)(hm:mac.length=32)(hs:SOK ss m.es)(hij:i≤j)(hj:j<m.es.length)(hp:∀x∈ps,x.length=32)(hpl:ps.length≤64):
  Ll (cg (dc m++mac).length++(dc m++mac)++cg i++cg (j-i)++((ss.drop i).take (j+1-i)).flatten++cg ps.length++ps.flatten)=(⟨m,i,(ss.drop i).take (j+1-i),ps⟩,0):=by
 obtain⟨w1,w2,w3,w4,w5,w6⟩:=jt hw;have e0:cg (dc m++mac).length++(dc m++mac)++cg i++cg (j-i)++((ss.drop i).take (j+1-i)).flatten++cg ps.length++ps.flatten=cg (dc m++mac).length++(dc m++mac)++(cg i++cg (j-i)++(((ss.drop i).take (j+1-i)).flatten++(cg ps.length++ps.flatten))):=by simp only[z03]
 rw[e0];obtain⟨h1,h2⟩:=Xe hw hv hm (cg i++cg (j-i)++(((ss.drop i).take (j+1-i)).flatten++(cg ps.length++ps.flatten)));unfold Ll;rw[h1,h2];simp only;rw[if_neg (not_not_intro rfl)];unfold Vn;rw[P3 (by omega) (by omega)]
 simp only;rw[if_neg (not_not_intro rfl),show j-i+1=j+1-i by omega,Bu _ _ _ _ (hs.sub i (j+1-i))]
 unfold Vm;simp only;rw[if_neg (not_not_intro rfl),V9 hp hpl];simp
theorem abw{key:List Nat}{m:Man}(h:(rv key m).2=0):fm m=0∧(rv key m).1=dc m++pz (dk key 4 []).1 (dc m)∧(dk key 4 []).2=0:=by
 unfold rv at h⊢;split at h
 ·simp only at h;omega
 ·rename_i h1;split at h
  ·simp only at h;omega
  ·rename_i h2;obtain⟨h3,h4⟩:=aqa (m:=m) (by omega)
   rw[if_neg h1,if_neg h2,h4];exact⟨h3,rfl,by omega⟩
theorem ahp{key:List Nat}{m:Man}(hk:key.length=32)(hw:fm m=0):(rv key m).2=0:=by
 have h1:(dk key 4 []).2=0:=by unfold dk;rw[if_neg (by omega),if_neg (by simp)]
 have h2:(tw m).2=0:=by unfold tw;rw[if_neg (by omega)]
 unfold rv;rw[if_neg (by omega),if_neg (by omega)]
theorem Kh{master:List Nat}{prev:Sta}{v:Nat}{l:List Yp}(hlx:∀c∈l,vb c.2)(hv:v<2^64)(h:(fu master prev v l).2.2=0):
  ∃(ss:List (List Nat)) (es:List je),ga master v 0 l [] []=(ss,es,0)∧SOK ss es∧ss.length=l.length∧fm (n6 v prev.2 ss es)=0∧
   (fu master prev v l).1=cg (dc (n6 v prev.2 ss es)++pz (dk master 4 []).1 (dc (n6 v prev.2 ss es))).length++(dc (n6 v prev.2 ss es)++pz (dk master 4 []).1 (dc (n6 v prev.2 ss es)))++ss.flatten∧
   (fu master prev v l).2.1=(v,mroot (ss.map br))∧fp (fu master prev v l).1=⟨n6 v prev.2 ss es,dc (n6 v prev.2 ss es)++pz (dk master 4 []).1 (dc (n6 v prev.2 ss es)),ss,0⟩∧master.length=32:=by
 unfold fu at h⊢;split at h
 ·exact absurd h (by decide)
 rename_i h1;split at h
 ·exact absurd h (by decide)
 rename_i h2;split at h
 ·exact absurd h (by decide)
 rename_i h3;split at h
 ·rename_i h4;exact absurd h h4
 rename_i h4;rw[if_neg h1,if_neg h2,if_neg h3,if_neg h4];obtain⟨k1,k2,k3⟩:=Eu (master:=master) (v:=v) l 0 [] [] hlx SOK.nil;generalize ga master v 0 l [] []=S at*;obtain⟨ss,es,e⟩:=S;simp only at k1 k2 k3 h h4⊢;have he:e=0:=Classical.not_not.1 h4;subst he;unfold Ij at h⊢;split at h
 ·rename_i h5;exact absurd h h5
 rename_i h5;rw[if_neg h5];obtain⟨h6,h7,h8⟩:=abw (Classical.not_not.1 h5);refine⟨ss,es,rfl,k1,by have:=k3 rfl;simpa using this,h6,by rw[h7],rfl, ?_,by omega⟩
 simp only;rw[h7];exact Tq h6 hv (kl _ _) k1
theorem afp{key:List Nat}{p:Nat}{name:List UInt8}(hk:key.length=32)(hn:name.length≤64):(dk key p name).2=0∧(dk key p name).1.length=32:=by
 unfold dk;rw[if_neg (by omega),if_neg (by omega)]
 exact⟨rfl,kl _ _⟩
theorem We{key:List Nat}{v:Nat}{i:Nat}{t:List UInt8}{xs:List Sm}(hk:key.length=32)(hi:i<1048576)(ht:t.length≤64)(hxl:xs.length≤65536):(gu key v (i:Int) t xs).2.2=0:=by
 have h1:=afp (key:=key) (p:=2) (name:=[]) hk (by simp)
 have h2:=afp (key:=key) (p:=3) (name:=[]) hk (by simp)
 have h3:(sd key v (i:Int)).2=0:=by unfold sd;rw[if_neg (by omega),if_neg (by omega)]
 have h4:(m0 key v (i:Int)).2.2=0:=by unfold m0;rw[if_neg (by omega),if_neg (by omega)]
 have h5:(lv t xs).2=0:=by rw[aqd ht hxl]
 have h6:=M9 (t:=t) (xs:=xs);have h7:(vd (lv t xs).1).2=0:=by unfold vd;rw[if_neg (by omega)]
 unfold gu;rw[if_neg (by omega),if_neg (by omega),if_neg (by omega)]
theorem Fz{master:List Nat}{v:Nat}(hk:master.length=32):∀(l:List Yp) (i:Nat) (bc:List (List Nat)) (es:List je),i+l.length≤1048576→(∀c∈l,c.1.length≤64∧c.2.length≤65536)→(ga master v i l bc es).2.2=0
 |[],i,bc,es,hi,h=>rfl
 |c::r,i,bc,es,hi,h=>by
  obtain⟨h1,h2⟩:=h c (by simp)
  have h3:=afp (key:=master) (p:=1) (name:=c.1) hk h1;rw[z07]at hi;have h4:=We (key:=(dk master 1 c.1).1) (v:=v) (i:=i) (t:=c.1) (xs:=c.2) h3.2 (by omega) h1 h2
  unfold ga;rw[if_neg (by omega),if_neg (by omega)]
  exact Fz hk r (i+1) _ _ (by omega) (fun c hc=>h c (z08 _ hc))
theorem Dq{master:List Nat}{v:Nat}:∀(l:List Yp) (i:Nat) (bc:List (List Nat)) (es:List je),(ga master v i l bc es).2.2=0→(ga master v i l bc es).2.1.map Prod.fst=es.map Prod.fst++l.map Prod.fst∧((∀e∈es,0≤e.2∧e.2≤8)→(∀c∈l,vb c.2)→∀e∈(ga master v i l bc es).2.1,0≤e.2∧e.2≤8)
 |[],i,bc,es,h=>⟨by simp[ga],fun h _=>h⟩
 |c::r,i,bc,es,h=>by
  unfold ga at h⊢;split at h
  ·rename_i hz;simp only at h;omega
  rename_i h1;split at h
  ·rename_i hz;exact absurd h hz
  rename_i h2;rw[if_neg h1,if_neg h2];obtain⟨k1,k2⟩:=Dq r (i+1) _ _ h;refine⟨by rw[k1];simp,fun he hc=>k2 (fun e he'=> ?_) (fun c hc'=>hc c (z08 _ hc'))⟩
  rcases z14.1 he' with he'|he'
  ·exact he e he'
  ·rw[z05]at he';subst he';have:=(Ev (key:=(dk master 1 c.1).1) (v:=v) (i:=(i:Int)) (t:=c.1) (hc c (by simp))).2.2.1
   simp only;omega
theorem Ut{master:List Nat}{prev:Sta}{v:Nat}{l:List Yp}(hk:master.length=32)(hp:prev.2.length=0∨prev.2.length=32)(hv:v≠18446744073709551615)(hv2:v<2^64)(hr:¬(0<prev.2.length∧v≤prev.1))(hl:l.length≤1048576)(hlx:∀c∈l,vb c.2∧c.1.length≤64∧c.2.length≤65536):(fu master prev v l).2.2=0:=by
 have h1:=Fz (v:=v) hk l 0 [] [] (by omega) (fun c hc=>(hlx c hc).2)
 have h2:=Dq (master:=master) (v:=v) l 0 [] [] h1;obtain⟨k1,k2,k3⟩:=Eu (master:=master) (v:=v) l 0 [] [] (fun c hc=>(hlx c hc).1) SOK.nil
 unfold fu;rw[if_neg (by omega),if_neg hr,if_neg (by omega),if_neg (by omega)]
 generalize ga master v 0 l [] []=S at*;obtain⟨ss,es,e⟩:=S;simp only at h1 h2 k1 k2 k3⊢;have hesl:es.length≤1048576:=by rw[←k1.len];simp only[z15,z19]at k2;omega
 have hpl:(ta prev.2).length=32:=by
  unfold ta;split
  ·simp
  ·omega
 have hrl:(mroot (ss.map br)).length=32:=by
  match ss with
  |[]=>rw[z27,rj,qo]
  |[x]=>rw[List.map_singleton,og,le]
  |x::y::r=>rw[oh (by simp),zy]
 have hn64:∀e∈es,e.1.length≤64:=by
  intro e he;have:e.1∈es.map Prod.fst:=List.mem_map_of_mem he;rw[h2.1]at this;simp only[z27,List.nil_append]at this;obtain⟨c,hc,hce⟩:=z13.1 this;rw[←hce];exact(hlx c hc).2.1
 have hb8:=h2.2 (by simp) (fun c hc=>(hlx c hc).1)
 have hw:fm (n6 v prev.2 ss es)=0:=by
  unfold fm n6;simp only;rw[if_neg (by omega),if_neg,if_neg]
  ·rintro(h|h)
   ·omega
   ·obtain⟨e,he,hb⟩:=z25.1 h;have:=hn64 e he;simp[uf]at hb;omega
  ·intro h;obtain⟨e,he,hb⟩:=z25.1 h;obtain⟨q1,q2⟩:=hb8 e he;obtain⟨kk,hkk⟩:∃kk:Nat,e.2=(kk:Int):=⟨e.2.toNat,by omega⟩
   have:=zx (k:=kk) (by omega)
   have h3:=az2 kk;simp[Hi]at hb;rw[hkk,this]at hb;omega
 have hs:=ahp hk hw;unfold Ij;rw[if_neg (by omega)]
theorem Bd{l:List (List Nat)}(hx:∀x∈l,∀y∈x,y<256){i j:Nat}:∀(n lo hi:Nat),hi-lo≤n→∀x∈gt l i j lo hi,∀y∈x,y<256
 |n,lo,hi,h=>by
  unfold gt;split
  ·simp
  ·split
   ·intro x hx';rw[z05]at hx';subst hx';exact Bk (fun x hx'=>hx x (z02 (z06 hx')))
   ·split
    ·simp
    ·rename_i h3;have k1:=iv (n:=hi-lo) (by omega)
     have k2:=fq (hi-lo)
     match n,h with
     |0,h=>omega
     |n+1,h=>
      intro x hx';rcases z14.1 hx' with hx'|hx'
      ·exact Bd hx n lo _ (by omega) x hx'
      ·exact Bd hx n _ hi (by omega) x hx'
theorem y6(l:List (List Nat)):∀x∈l.map br,∀y∈x,y<256:=fun x hx=>by
 obtain⟨z,_,rfl⟩:=z13.1 hx;exact W4 z
theorem aci(se:List (List Nat))(i j:Int):(cu (se.map br) i j).1.length≤se.length∧(∀x∈(cu (se.map br) i j).1,x.length≤32)∧∀x∈(cu (se.map br) i j).1,∀y∈x,y<256:=by
 unfold cu;split
 ·exact⟨z17 _,by simp,by simp⟩
 ·rename_i hnb;have h0:0<(se.map br).length:=by omega
  have h1:=m3 (se.map br) i.toNat j.toNat _ 0 (se.map br).length (z10 _) h0;rw[z18]at h1;refine⟨by simpa using h1, ?_,Bd (y6 se) _ _ _ (z10 _)⟩
  exact pj (N:=32) (by decide) (fun x hx=>by
   obtain⟨y,_,rfl⟩:=z13.1 hx;rw[le];decide) _ _ _ (z10 _)
theorem Si{b:List Nat}(hb:∀x∈b,x<256)(hbl:b.length≤2^40)(i j:Int):(∀x∈(xx b i j).1,x<256)∧(xx b i j).1.length≤2*b.length+2^26:=by
 have hok:=Er hb;unfold xx;generalize fp b=A at*;split
 ·exact⟨by simp,by simp⟩
 split
 ·exact⟨by simp,by simp⟩
 rename_i hpe0;have hpe:0≤i∧i≤j∧j<(A.sealed.length:Int):=by
  have h:=Classical.not_not.1 hpe0;unfold cu at h;split at h
  ·exact absurd h (by decide)
  ·rename_i hnb;rw[z18]at hnb;omega
 have hp:=aci A.sealed (i.toNat:Int) (j.toNat:Int);have hf:=sy hp.2.1;have hse:=hok.se;have hsg:=hok.sg;have l1:=bn (v:=A.signed.length) (by omega)
 have l2:=bn (v:=i.toNat) (by omega)
 have l3:=bn (v:=j.toNat-i.toNat) (by omega)
 have l4:=bn (v:=(cu (A.sealed.map br) (i.toNat:Int) (j.toNat:Int)).1.length) (by omega)
 have hfl:((A.sealed.drop i.toNat).take (j.toNat+1-i.toNat)).flatten.length≤b.length:=by
  have e1:A.sealed=A.sealed.take i.toNat++((A.sealed.drop i.toNat).take (j.toNat+1-i.toNat)++(A.sealed.drop i.toNat).drop (j.toNat+1-i.toNat)):=by rw[z20,z20]
  have e2:=congrArg (fun z=>z.flatten.length) e1
  simp only[List.flatten_append,z00]at e2;have:=hok.fl;omega
 have hfb:∀x∈((A.sealed.drop i.toNat).take (j.toNat+1-i.toNat)).flatten,x<256:=fun x hx=>by
  obtain⟨y,hy,hxy⟩:=z11.1 hx;exact hok.flb x (z11.2 ⟨y,z02 (z06 hy),hxy⟩)
 unfold aaz;constructor
 ·intro x hx;simp only[z14]at hx;rcases hx with(((((hx|hx)|hx)|hx)|hx)|hx)|hx
  ·exact fe _ x hx
  ·exact hok.sgb x hx
  ·exact fe _ x hx
  ·exact fe _ x hx
  ·exact hfb x hx
  ·exact fe _ x hx
  ·obtain⟨y,hy,hxy⟩:=z11.1 hx;exact hp.2.2 y hy x hxy
 ·simp only[z00];have:=hp.1;omega
theorem Uu{m:Man}(hw:fm m=0)(hp:∀x∈m.prev,x<256)(hr:∀x∈m.root,x<256):∀x∈dc m,x<256:=by
 have h:=ad2 hp hr;unfold tw at h;rw[if_neg (not_not_intro hw)]at h;exact h
theorem Xz{master:List Nat}{prev:Sta}{v:Nat}{l:List Yp}(hlx:∀c∈l,vb c.2)(hv:v<2^64)(hpb:∀x∈prev.2,x<256):(∀x∈(fu master prev v l).1,x<256)∧(fu master prev v l).1.length≤2^28+2^25*l.length∧(∀x∈(fu master prev v l).2.1.2,x<256)∧(fu master prev v l).2.1.2.length≤32∧(fu master prev v l).2.1.1<2^64:=by
 by_cases h:(fu master prev v l).2.2=0
 ·obtain⟨ss,es,h1,h2,h3,h4,h5,h6,h7,h8⟩:=Kh hlx hv h;have hbl:=zc (n6 v prev.2 ss es) h4 hv;have hpb2:∀x∈ta prev.2,x<256:=by
   unfold ta;split
   ·intro x hx;rw[List.eq_of_mem_replicate hx];decide
   ·exact hpb
  have hrb:∀x∈mroot (ss.map br),x<256:=Bk (y6 ss)
  have hbb:=Uu h4 hpb2 hrb;have hml:=kl (dk master 4 []).1 (dc (n6 v prev.2 ss es));have hmb:=Pa (dk master 4 []).1 (dc (n6 v prev.2 ss es));have hfl:=sy (l:=ss) (N:=2^25) (fun x hx=>(h2.b x hx).1)
  rw[h3]at hfl;have hrl:=pm (N:=32) (by decide) _ (z10 (ss.map br).length) (fun x hx=>by
   obtain⟨y,_,rfl⟩:=z13.1 hx;rw[le];decide)
  rw[h5,h6];generalize dc (n6 v prev.2 ss es)=bd at*;generalize pz (dk master 4 []).1 bd=mc at*;have l1:=bn (v:=(bd++mc).length) (by rw[z00];omega)
  refine⟨fun x hx=> ?_, ?_,hrb,hrl,hv⟩
  ·simp only[z14]at hx;rcases hx with(hx|hx|hx)|hx
   ·exact fe _ x hx
   ·exact hbb x hx
   ·exact hmb x hx
   ·obtain⟨y,hy,hxy⟩:=z11.1 hx;exact(h2.b y hy).2 x hxy
  ·simp only[z00]at l1⊢;omega
 ·have:(fu master prev v l).1=[]∧(fu master prev v l).2.1=(0,[]):=by
   unfold fu at h⊢;split
   ·exact⟨rfl,rfl⟩
   rename_i h1;rw[if_neg h1]at h
   split
   ·exact⟨rfl,rfl⟩
   rename_i h2;rw[if_neg h2]at h
   split
   ·exact⟨rfl,rfl⟩
   rename_i h3;rw[if_neg h3]at h
   split
   ·exact⟨rfl,rfl⟩
   rename_i h4;rw[if_neg h4]at h
   unfold Ij at h⊢;split
   ·exact⟨rfl,rfl⟩
   rename_i h5;rw[if_neg h5]at h
   exact absurd rfl h
  rw[this.1,this.2];exact⟨by simp,by simp,by simp,by simp,by decide⟩
theorem aCe:∃(m:Man) (s:List Nat),(fu (z01 32 0) (0,[]) 1 [([97],[])]).2.2=0∧(xx (fu (z01 32 0) (0,[]) 1 [([97],[])]).1 0 0).2=0∧
  Ll (xx (fu (z01 32 0) (0,[]) 1 [([97],[])]).1 0 0).1=(⟨m,0,[s],[]⟩,0)∧s.length≤2^25∧(xx (fu (z01 32 0) (0,[]) 1 [([97],[])]).1 1 0).2=1∧Ch (fu (z01 32 0) (0,[]) 1 [([97],[])]).2.1.2 1 0 ([s].map br) []=true:=by
 have hlx:∀c∈[(([97],[]):Yp)],vb c.2∧c.1.length≤64∧c.2.length≤65536:=by
  intro c hc;rw[z05]at hc;subst hc;exact⟨fun x hx=>by simp at hx,by decide,by decide⟩
 have h0:=Ut (master:=z01 32 0) (prev:=(0,[])) (v:=1) (l:=[([97],[])]) (by simp) (.inl rfl) (by decide) (by decide) (by simp) (by simp) hlx
 obtain⟨ss,es,h1,h2,h3,h4,h5,h6,h7,h8⟩:=Kh (fun c hc=>(hlx c hc).1) (by decide) h0
 generalize fu (z01 32 0) (0,[]) 1 [([97],[])]=B at*;obtain⟨bb,bs,be⟩:=B;simp only at h0 h5 h6 h7⊢;obtain⟨s,rfl⟩:∃s,ss=[s]:=List.length_eq_one_iff.1 h3
 have hel:es.length=1:=by rw[←h2.len];rfl
 have hpr:cu ([s].map br) 0 0=([],0):=by
  unfold cu;rw[if_neg (by simp)]
  have:gt ([s].map br) (0:Int).toNat (0:Int).toNat 0 ([s].map br).length=[]:=by
   unfold gt;rw[if_pos (by simp)]
  rw[this]
 have hpr2:cu ([s].map br) ((0:Int).toNat:Int) ((0:Int).toNat:Int)=([],0):=hpr;have hpr1:(cu ([s].map br) 1 0).2=1:=by
  unfold cu;rw[if_pos (by simp)]
 have hx:xx bb 0 0=(aaz ⟨n6 1 [] [s] es,dc (n6 1 [] [s] es)++pz (dk (z01 32 0) 4 []).1 (dc (n6 1 [] [s] es)),[s],0⟩ 0 0,0):=by
  unfold xx;rw[h7];simp only;rw[if_neg (not_not_intro rfl),hpr,if_neg (not_not_intro rfl)];rfl
 refine⟨n6 1 [] [s] es,s,h0,by rw[hx], ?_,(h2.b s (by simp)).1, ?_, ?_⟩
 ·rw[hx];have:=Wm (m:=n6 1 [] [s] es) (mac:=pz (dk (z01 32 0) 4 []).1 (dc (n6 1 [] [s] es))) (ss:=[s]) (ps:=[]) (i:=0) (j:=0) h4 (by show 1<2^64;decide) (kl _ _) h2 (z10 _) (by show 0<es.length;omega) (by simp) (by simp)
  unfold aaz;simp only;rw[show cu ([s].map br) ((0:Nat):Int) ((0:Nat):Int)=([],0)from hpr]
  exact this
 ·unfold xx;rw[h7];simp only;rw[if_neg (not_not_intro rfl),if_pos (by rw[hpr1];decide)]
  exact hpr1
 ·rw[h6];unfold Ch gm;rw[if_neg (by simp)]
  have:lt ([s].map br) (0:Int).toNat ((0:Int).toNat+([s].map br).length-1) 0 (1:Int).toNat []=some (mroot ([s].map br),[]):=by
   unfold lt;rw[if_neg (by simp),if_pos (by simp)]
   simp
  rw[this];simp
set_option maxHeartbeats 4000000
theorem F3(s:List Nat):gm 1 0 ([s].map br) []=(mroot ([s].map br),0):=by
 unfold gm;rw[if_neg (by simp)]
 have:lt ([s].map br) (0:Int).toNat ((0:Int).toNat+([s].map br).length-1) 0 (1:Int).toNat []=some (mroot ([s].map br),[]):=by
  unfold lt;rw[if_neg (by simp),if_pos (by simp)]
  simp
 rw[this]
theorem X8:Fn Tryz.prog 4 [] [] (fun rs H'=>rs=[.pv (.bool true)]∧H'=[]):=by
 obtain⟨m,s,h1,h2,h3,h4,h5,h6⟩:=aCe;have hzr:z01 32 0=z32:=rfl;rw[hzr]at h1 h2 h3 h5 h6;have hzl:z32.length=32:=rfl;have hzb:∀x∈z32,x<256:=by decide
 have hB:=X2 z32 (0,[]) 1 [([97],[])] (by rw[hzl];decide) hzb (by decide) (by decide) (by decide) (by decide) (by
  intro c hc;rw[z05]at hc;subst hc;exact⟨fun x hx=>by simp at hx,by unfold maxLen;decide⟩)
 have hall:=Xz (master:=z32) (prev:=(0,[])) (v:=1) (l:=[([97],[])]) (by
  intro c hc;rw[z05]at hc;subst hc;exact fun x hx=>by simp at hx) (by decide) (by simp)
 obtain⟨hbb,hbl,hrb,hrl,hv⟩:=hall;have hl1:[(([97]:List UInt8),([]:List Sm))].length=1:=rfl;rw[hl1]at hbl;have hcs:Ea [([97],[])]=[.agg [.str [97],.sl 2 []]]:=rfl;have hst:Vc (0,[])= .agg [.int .u64 0,.sl 1 []]:=rfl;rw[hcs,hst]at hB;generalize fu z32 (0,[]) 1 [([97],[])]=B at*;obtain⟨bb,⟨sv,sr⟩,be⟩:=B;have hst2:Vc (sv,sr)= .agg [.int .u64 (sv:Int),.sl 1 (bytes sr)]:=rfl;simp only at h1 h2 h3 h5 h6 hbb hbl hrb hrl hv hB;subst h1;have hX:=y9 bb 0 0 (by omega) hbb
 have hY:=y9 bb 1 0 (by omega) hbb
 obtain⟨hxb,hxl⟩:=Si hbb (by omega) 0 0
 generalize xx bb 0 0=X at*;generalize xx bb 1 0=Y at*;obtain⟨xb,xe⟩:=X;obtain⟨yb,ye⟩:=Y;simp only at h2 h3 h5 hxb hxl hX hY;subst h2 h5;have hR:=Wl xb (by omega) hxb
 rw[h3]at hR;have hrp:arx ⟨m,0,[s],[]⟩= .agg [.int .u64 (m.v:Int),.sl 1 (bytes m.prev),.sl 2 (b9 m.es),.sl 1 (bytes m.root),.int .i64 0,.sl 1 (az [s]),.sl 1 (az [])]:=rfl;simp only at hR;have hV:=Qe sr 1 0 [s] [] (by simp) (by
  intro x hx;rw[z05]at hx;subst hx;exact z28 h4 (by decide)) (by intro x hx;simp at hx) (by decide) (by decide) (by decide) hrb (by
   rw[F3];exact Bk (y6 [s])) (by
   rw[F3];have:=pm (N:=32) (by decide) _ (z10 ([s].map br).length) (fun x hx=>by
    obtain⟨y,_,rfl⟩:=z13.1 hx;rw[le];decide)
   simp only;omega)
 rw[h6]at hV;obtain⟨S1,hS1⟩:∃S1,S1=az [s]:=⟨_,rfl⟩
 obtain⟨P1,hP1⟩:∃P1,P1=az []:=⟨_,rfl⟩
 rw[←hS1,←hP1]at hV hrp;have l1:(S1.length:Int)=1:=by rw[hS1];rfl
 have l0:(P1.length:Int)=0:=by rw[hP1];rfl
 clear hS1 hP1;refine Fn.ob Tryz.f4 71 [.tmp 0] fun C=> ?_
 refine Io 18 ?_;refine bj (.slot 1) ?_;refine bq [0,1] [] (s':=⟨71,[(0,.pv (.bool false)),(1,.pv (.sl 1 (bytes z32)))],[]⟩) ?_;generalize z32=z at*;refine Io 10 ?_;refine aam (d:=15) (ps:=[.str [97],.sl 2 []]) rfl ⟨rfl,rfl,⟨2,rfl⟩,trivial⟩ (by simp only[go_sem]<;>decide) ?_
 refine aam (d:=14) (ps:=[.int .u64 0,.sl 1 []]) rfl ⟨rfl,rfl,⟨1,rfl⟩,trivial⟩ (by simp only[go_sem]<;>decide) ?_
 refine aa ?_;refine bj (.slot 16) ?_;refine ap hB (.pv _ (.pv _ (.pv _ (.pv _ .nil)))) ?_;refine bj (.part 17 0) ?_;refine aa ?_ (by simp only[go_sem,↓reduceIte,hst2]<;>rfl)
 refine ap hX (.pv _ (.pv _ (.pv _ .nil))) ?_;refine bj (.part 23 0) ?_;refine aa ?_;refine ap hR (.pv _ .nil) ?_;refine aa ?_ (by simp only[go_sem,↓reduceIte,hrp]<;>rfl)
 refine ap hY (.pv _ (.pv _ (.pv _ .nil))) ?_;refine ak ?_ (by simp only[go_sem,↓reduceIte,l1,l0,beq_self_eq_true]<;>rfl)
 refine iq rfl rfl ?_;refine ap hV (.pv _ (.pv _ (.pv _ (.pv _ (.pv _ .nil))))) ?_;refine ak ?_;exact ac (.pv _ .nil) rfl
theorem ab3(a b:List Nat)(hl:a.length≤aw):Fn Tryz.prog 8 [] [.pv (.sl 1 (bytes a)),.pv (.sl 1 (bytes b))] (fun rs H'=>rs=[.pv (.bool (decide (a=b)))]∧H'=[]):=by
 refine Fn.ob Tryz.f8 8 [.tmp 4] fun C=> ?_
 refine aa ?_;refine ap (Ds a b hl) (.pv _ (.pv _ .nil)) ?_;refine aa ?_;exact ac (.pv _ .nil) rfl
theorem K7(b:List Nat)(i j:Int)(hb:∀x∈b,x<256):Fn Tryz.prog 3 [] [.pv (.sl 1 (bytes b)),.pv (.int .i64 i),.pv (.int .i64 j)] (fun rs H'=>rs=[.pv (.bool true)]∧H'=[]):=by
 refine Fn.ob Tryz.f3 62 [.tmp 6] fun C=> ?_
 have hr:aw=140737488355328:=rfl;refine aa ?_;refine ap X8 .nil ?_;refine aa ?_;refine AW.cond rfl (fun hc=> ?_) (fun hc=> ?_)
 ·refine aa ?_;exact ac (.pv _ .nil) rfl
 have hl:b.length≤8000:=by simp at hc;omega
 refine aa ?_;have hsp:=Jo b (by omega) hb
 have hok:=Er hb;have hX:=y9 b i j (by omega) hb
 have hY:=Qd b i j (by omega) hb hok.sg hok.se hok.sb hok.fl
 obtain⟨hxb,hxl⟩:=Si hb (by omega) i j
 generalize xx b i j=X at*;obtain⟨xb,xe⟩:=X;simp only at hxb hxl hX hY;have hS:=ab3 xb xb (by omega)
 rw[decide_eq_true rfl]at hS;generalize fp b=A at*;obtain⟨⟨v,p,es,r⟩,sg,se,e⟩:=A;simp only at hsp;rw[vz]at hsp;have hel:((b9 es).length:Int)=(es.length:Int):=by rw[z8]
 generalize b9 es=E1 at*;generalize az se=S1 at*;refine ap hsp (.pv _ .nil) ?_;by_cases hg:e=0∧30<es.length
 ·have d1:decide ((es.length:Int)>30)=true:=decide_eq_true (by omega)
  obtain⟨rfl,_⟩:=hg;refine ak ?_ (by simp only[go_sem,↓reduceIte,hel,d1]<;>rfl)
  refine am rfl ?_;refine aa ?_;exact ac (.pv _ .nil) rfl
 by_cases he:e=0
 ·subst he;have d1:decide ((es.length:Int)>30)=false:=decide_eq_false (by omega)
  refine ak ?_ (by simp only[go_sem,↓reduceIte,hel,d1]<;>rfl)
  refine ae rfl ?_;refine aa ?_;refine ap hX (.pv _ (.pv _ (.pv _ .nil))) ?_;refine aa ?_;refine ap hY (.pv _ (.pv _ (.pv _ .nil))) ?_;refine bj (.slot 12) ?_;refine ak ?_ (by simp only[go_sem,↓reduceIte,beq_self_eq_true]<;>rfl)
  refine iq rfl rfl ?_;refine ap hS (.pv _ (.lend rfl c7 .nil)) ?_;refine ak ?_;exact ac (.pv _ .nil) rfl
 ·have d1:(e==0)=false:=by rw[beq_eq_false_iff_ne];exact he
  refine ak ?_ (by simp only[go_sem,↓reduceIte,d1]<;>rfl)
  refine ae rfl ?_;refine aa ?_;refine ap hX (.pv _ (.pv _ (.pv _ .nil))) ?_;refine aa ?_;refine ap hY (.pv _ (.pv _ (.pv _ .nil))) ?_;refine bj (.slot 12) ?_;refine ak ?_ (by simp only[go_sem,↓reduceIte,beq_self_eq_true]<;>rfl)
  refine iq rfl rfl ?_;refine ap hS (.pv _ (.lend rfl c7 .nil)) ?_;refine ak ?_;exact ac (.pv _ .nil) rfl
end Go.Ck
