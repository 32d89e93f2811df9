/- What is proved here: parts of the proofs of this seat's statements (a verified evaluator for calls over pure values, its laws, and contracts of functions). No condition. -/
import Derived.Test.YtmkoabmapmehdaaGreatDoorKzi
import Derived.Test.YtmkoabmapmehdaaGreatDoorKzg
import Derived.Test.YtmkoabmapmehdaaGreatDoorKzc
import Derived.Test.YtmkoabmapmehdaaGreatDoorKzh
import Derived.Test.YtmkoabmapmehdaaGreatDoorKza
set_option linter.all false
open List renaming length_append→z00,mem_append→z02,length_drop→z03,length_cons→z04,length_nil→z05,getElem?_eq_getElem→z06,replicate→z07,mem_of_mem_drop→z08,length_take→z09,length_map→z10,getElem?_append_right→z11,getElem?_eq_some_iff→z12,getElem?_append_left→z13,drop_eq_getElem_cons→z14,take_append_drop→z16,length_singleton→z17,mem_of_mem_take→z18,mem_of_getElem?→z19,mem_singleton→z21,getElem?_map→z23,flatten_nil→z24,drop_length→z25,append_nil→z27,mem_map→z33
open Nat renaming zero_le→z01,zero_add→z15,le_refl→z20,reduceMul→z30,le_trans→z34
open Int renaming toNat_of_nonneg→z22,toNat_natCast→z26
open Bool renaming eq_iff_iff→z28,not_true→z29
set_option maxRecDepth 100000
set_option maxHeartbeats 400000
namespace Go.Ck
open Go.Proofs
theorem abu(b:List Nat)(hl:b.length≤2^38)(hb:∀x∈b,x<256):Fn Tryz.prog 16 [] [.pv (.sl 1 (bytes b))]
  (fun rs H'=>rs=[.pv (Ak (fp b).m),.pv (.sl 1 (bytes (fp b).signed)),.pv (.sl 1 (az (fp b).sealed)),.pv (.int .i64 (fp b).e)]∧H'=[]):=by
 refine Fn.ob Tryz.f16 83 [.cell 2 27,.tmp 3,.tmp 4,.tmp 5] fun C=> ?_
 have hr:aw=140737488355328:=rfl;have m1:(1≤maxLen)=True:=eq_true (by unfold maxLen;decide)
 have hno:∀e,[SV.pv (.agg [.int .u64 0,.sl 1 [],.sl 2 [],.sl 1 []]),.pv (.sl 1 []),.pv (.sl 1 []),.pv (.int .i64 e)]=[SV.pv (Ak (pa e).m),.pv (.sl 1 (bytes (pa e).signed)),.pv (.sl 1 (az (pa e).sealed)),.pv (.int .i64 (pa e).e)]:=fun e=>rfl
 obtain⟨hbb,hrb,hbl,hrl⟩:=j8 (m:=268435456) hb;have hbf:=za b 268435456 (by decide) (by omega) hb
 have hcn:=E8 b (by omega)
 unfold fp;unfold i4 at hbf;generalize blk b 268435456=B at*;obtain⟨s,e,q0⟩:=B;simp only at hbb hrb hrl hbf hbl⊢;refine aa ?_;refine av (fun o=>if o=7 then 19 else 0) hcn (.pv _ .nil) ?_
 refine aa ?_;refine av (args:=[.ptr 1000 0,.pv (.int .i64 ((268435456:Nat):Int))]) (fun _=>19) hbf (.ptr rfl (.pv _ .nil)) ?_
 by_cases he:e=0
 rotate_left
 ·have d1:(e !=0)=true:=by rw[bne_iff_ne];exact he
  rw[if_pos he];refine aa ?_ (by simp only[go_sem,↓reduceIte,d1]<;>rfl)
  refine am rfl ?_;refine aa ?_;refine ar (.cell 2 1) 5 ?_;refine bj (.cell 2 1) ?_;refine ar (.cell 2 2) 55 ?_;refine bj (.cell 2 2) ?_;refine ar (.cell 2 3) 5 ?_;refine bj (.cell 2 3) ?_;refine ac (.pv _ (.lend rfl c7 (.lend rfl ry (.pv _ .nil)))) rfl
 have d1:(e !=0)=false:=by rw[he];rfl
 rw[if_neg (not_not_intro he)];have w32:IntKind.i64.wrap ((s.length:Int)-32)=(s.length:Int)-32:=an (by omega) (by omega)
 refine aa ?_ (by simp only[go_sem,↓reduceIte,d1]<;>rfl)
 refine ae rfl ?_;by_cases h32:s.length<32
 ·have d2:decide ((s.length:Int)-32<0)=true:=decide_eq_true (by omega)
  rw[if_pos h32];refine aa ?_ (by simp only[go_sem,↓reduceIte,w32,d2]<;>rfl)
  refine am rfl ?_;refine aa ?_;refine ar (.cell 2 1) 5 ?_;refine bj (.cell 2 1) ?_;refine ar (.cell 2 2) 55 ?_;refine bj (.cell 2 2) ?_;refine ar (.cell 2 3) 5 ?_;refine bj (.cell 2 3) ?_;refine ac (.pv _ (.lend rfl c7 (.lend rfl ry (.pv _ .nil)))) rfl
 have w32':(s.length:Int)-32=((s.length-32:Nat):Int):=by omega
 have w32b:IntKind.i64.wrap ((s.length:Int)-32)=((s.length-32:Nat):Int):=by rw[w32,w32']
 have d2:decide (((s.length-32:Nat):Int)<0)=false:=decide_eq_false (by omega)
 rw[if_neg h32];refine aa ?_ (by simp only[go_sem,↓reduceIte,w32b,d2]<;>rfl)
 refine ae rfl ?_;refine bj (.slot 7) ?_;have hmb:∀x∈s.take (s.length-32),x<256:=fun x hx=>hbb x (z18 hx)
 have hdf:=Ms (s.take (s.length-32)) (by rw[z09];omega) hmb
 obtain⟨hs1,hs2,hs3⟩:=wx hmb;have hbad:=Jb (b:=s.take (s.length-32));generalize kz (s.take (s.length-32))=D at*;obtain⟨⟨v,p,es,r⟩,de⟩:=D;simp only at hdf hs1 hs2 hs3 hbad⊢;have hm:=vz v p es r;rw[hm]at hdf;have hk1:s.length-32≤s.length:=by omega
 have htk:=dz s (s.length-32);refine vn 4 ?_ (by simp only[go_sem,↓reduceIte,z30]<;>rfl)
 refine aeu (m:=s.length-32) rfl rfl rfl (by rw[ba];exact hk1) s9 (by decide) ?_
 rw[htk];refine aa ?_;refine ap hdf (.pv _ .nil) ?_;by_cases hde:de=0
 rotate_left
 ·have d3:(de !=0)=true:=by rw[bne_iff_ne];exact hde
  rw[if_pos hde];refine aa ?_ (by simp only[go_sem,↓reduceIte,d3]<;>rfl)
  refine am rfl ?_;refine aa ?_;refine ar (.cell 2 1) 5 ?_;refine bj (.cell 2 1) ?_;refine ar (.cell 2 2) 55 ?_;refine bj (.cell 2 2) ?_;refine ar (.cell 2 3) 5 ?_;refine bj (.cell 2 3) ?_;refine ac (.pv _ (.lend rfl c7 (.lend rfl ry (.pv _ .nil)))) rfl
 have d3:(de !=0)=false:=by rw[hde];rfl
 rw[if_neg (not_not_intro hde)];refine aa ?_ (by simp only[go_sem,↓reduceIte,d3]<;>rfl)
 refine ae rfl ?_;have hel:(b9 es).length=es.length:=by simp[b9]
 refine vn 2 ?_ (by simp only[go_sem,↓reduceIte,z30]<;>rfl)
 refine aex rfl ⟨_,rfl⟩ ?_;refine aa ?_;refine aq (fun a:Nat×List (List Nat)×List Nat=>⟨83,[(52,.pv (.int .i64 a.1)),(51,.pv (.int .i64 es.length)),(50,.pv (.sl 2 (b9 es))),(6,.ptr 19 0),(7,.pv (.sl 1 (bytes s))),(10,.ptr 10 0),(11,.bm 35 19),(12,.own 22 (az a.2.1)),(2,.ptr 2 0),(3,.own 5 []),(4,.own 22 [])],[(10,.cells 27 [.pv (.int .u64 v),.pv (.sl 1 (bytes p)),.pv (.sl 2 (b9 es)),.pv (.sl 1 (bytes r))]),(19,.cells 110 [.pv (.sl 1 (bytes a.2.2))]),(2,.cells 27 [.pv (.int .u64 0),.nils,.nils,.nils])]⟩)
  (fun a=>a.1≤es.length∧ir (es.drop a.1) a.2.1 a.2.2=ir es [] q0∧a.2.1.length=a.1∧a.2.2.length≤b.length∧∀x∈a.2.2,x<256) (fun a=>es.length-a.1) [52,51,50,6,7,10,11,12,2,3,4] [10,19,2] (0,[],q0) ⟨z01 _,rfl,rfl,hrl,hrb⟩ ?_ (hs:=by simp only[go_sem,↓reduceIte,hel]<;>rfl)
 rintro⟨i,bc,q⟩ ⟨hi,hcut,hal,hql,hqb⟩ K hK;simp only at hi hcut hal hql hqb;unfold Cl;rw[←hcut];refine aa ?_;refine AW.cond rfl (fun hc=> ?_) (fun hc=> ?_)
 ·have hlt:i<es.length:=by have:=of_decide_eq_true hc;omega
  obtain⟨⟨en,ek⟩,hen⟩:∃x,es[i]?=some x:=⟨es[i],z06 hlt⟩
  have hg:(b9 es)[i]?=some (.agg [.str en,.int .i64 ek]):=by unfold b9;rw[z23,hen];rfl
  have ei:IntKind.i64.wrap ((i:Int)+1)=((i+1:Nat):Int):=ai (by omega)
  have hdrop:es.drop i=(en,ek)::es.drop (i+1):=by
   obtain⟨h,he'⟩:=z12.1 hen;rw[←he',z14 h]
  have hsz:=yt ek;have w16:IntKind.i64.wrap ((c9 ek:Int)+16)=((c9 ek+16:Nat):Int):=au (n:=c9 ek+16) (by omega)
  rw[hdrop]at hcut⊢;have hstep:ir ((en,ek)::es.drop (i+1)) bc q=if c9 ek+16≤q.length then ir (es.drop (i+1)) (bc++[q.take (c9 ek+16)]) (q.drop (c9 ek+16))else([],[],2):=rfl
  rw[hstep]at hcut⊢;have hbf2:=pq q (c9 ek+16) (by omega)
  unfold i4 at hbf2;generalize c9 ek+16=n at*;refine aa ?_ (by simp only[go_sem,↓reduceIte,hg]<;>rfl)
  refine ap (Ou ek) (.pv _ .nil) ?_;refine aa ?_ (by simp only[go_sem,↓reduceIte,w16]<;>rfl)
  refine akl (fun _=>19) hbf2 (.ptr rfl (.pv _ .nil)) ?_
  by_cases hq:n≤q.length
  ·rw[if_pos hq]at hcut⊢;simp only[if_pos hq];have hs:az bc++[.sl 1 (bytes (q.take n))]=az (bc++[q.take n]):=by rw[←ia];rfl
   have r1:((i+1)*24≤aw)=True:=eq_true (by omega)
   have r2:(i+1≤aw)=True:=eq_true (by omega)
   refine aa ?_;refine ae rfl ?_;refine bj (.slot 15) ?_;refine aa ?_ (by simp only[go_sem,↓reduceIte,m1,hs,bf,hal,z04,z05,z15,r1,r2,ei]<;>rfl)
   exact ah hK (i+1,bc++[q.take n],q.drop n) ⟨by simp only;omega,hcut,by simp only[z00,z17];omega,by simp only[z03];omega,fun x hx=>hqb x (z08 hx)⟩ (by simp only;omega)
  ·rw[if_neg hq];simp only[if_neg hq];refine aa ?_;refine am rfl ?_;refine aa ?_;refine ar (.cell 2 1) 5 ?_;refine bj (.cell 2 1) ?_;refine ar (.cell 2 2) 55 ?_;refine bj (.cell 2 2) ?_;refine ar (.cell 2 3) 5 ?_;refine bj (.cell 2 3) ?_;refine ac (.pv _ (.lend rfl c7 (.lend rfl ry (.pv _ .nil)))) rfl
 have hge:i=es.length:=by have:=of_decide_eq_false hc;omega
 subst hge;rw[z25];have hend:ir [] bc q=(bc,q,0):=rfl;rw[hend];rw[if_neg (not_not_intro rfl)];refine aa ?_;refine av (fun _=>19) (E9 q) (.ptr rfl .nil) ?_
 by_cases hq:q=[]
 ·rw[if_neg (not_not_intro hq),if_pos hq];simp only;rw[hm];refine aa ?_;refine ae rfl ?_;refine aa ?_;refine ac (.pv _ (.pv _ (.lend rfl ry (.pv _ .nil)))) rfl
 ·rw[if_pos hq,if_neg hq];refine aa ?_;refine am rfl ?_;refine aa ?_;refine ar (.cell 2 1) 5 ?_;refine bj (.cell 2 1) ?_;refine ar (.cell 2 2) 55 ?_;refine bj (.cell 2 2) ?_;refine ar (.cell 2 3) 5 ?_;refine bj (.cell 2 3) ?_;refine ac (.pv _ (.lend rfl c7 (.lend rfl ry (.pv _ .nil)))) rfl
theorem Nb:∀(es:List je) (bc:List (List Nat)) (q:List Nat),(ir es bc q).2.2=0→(ir es bc q).1.length=bc.length+es.length∧((∀x∈bc,x.length≤2^25)→∀x∈(ir es bc q).1,x.length≤2^25)∧(ir es bc q).1.flatten++(ir es bc q).2.1=bc.flatten++q
 |[],bc,q,h=>⟨rfl,fun h=>h,rfl⟩
 |e::es,bc,q,h=>by
  unfold ir at h⊢;by_cases hq:c9 e.2+16≤q.length
  ·rw[if_pos hq]at h⊢;obtain⟨h1,h2,h3⟩:=Nb es (bc++[q.take (c9 e.2+16)]) (q.drop (c9 e.2+16)) h;refine⟨by rw[h1];simp;omega,fun ha=>h2 (fun x hx=> ?_),by rw[h3];simp⟩
   rcases z02.1 hx with hx|hx
   ·exact ha x hx
   ·rw[z21]at hx;subst hx;have:=yt e.2;rw[z09];omega
  ·rw[if_neg hq]at h;exact absurd h (by decide)
structure ArcOK (b:List Nat) (a:Arc):Prop where
 sg:a.signed.length≤b.length
 sgb:∀x∈a.signed,x<256
 se:a.sealed.length≤1048576
 sb:∀x∈a.sealed,x.length≤2^25
 fl:a.sealed.flatten.length≤b.length
 flb:∀x∈a.sealed.flatten,x<256
 ml:a.m.es.length≤1048576
 mp:a.m.prev.length≤32
 mr:a.m.root.length≤32
 eq:a.e=0→a.sealed.length=a.m.es.length
theorem yu(b:List Nat)(e:Int)(h:e≠0):ArcOK b (pa e):=⟨z01 _,by simp[pa],z01 _,by simp[pa],z01 _,by simp[pa],z01 _,z01 _,z01 _,fun h'=>absurd h' h⟩
theorem Er{b:List Nat}(hb:∀x∈b,x<256):ArcOK b (fp b):=by
 obtain⟨hbb,hrb,hbl,hrl⟩:=j8 (m:=268435456) hb;unfold fp;generalize blk b 268435456=B at*;obtain⟨s,e,q0⟩:=B;simp only at hbb hrb hbl hrl⊢;split
 ·exact yu b _ (by assumption)
 split
 ·exact yu b _ (by decide)
 have hmb:∀x∈s.take (s.length-32),x<256:=fun x hx=>hbb x (z18 hx)
 obtain⟨hs1,hs2,hs3⟩:=wx hmb;split
 ·exact yu b _ (by assumption)
 generalize kz (s.take (s.length-32))=D at*;obtain⟨m,de⟩:=D;simp only at hs1 hs2 hs3⊢;unfold Cl;by_cases h1:(ir m.es [] q0).2.2=0
 ·rw[if_neg (not_not_intro h1)];obtain⟨h2,h3,h4⟩:=Nb m.es [] q0 h1;split
  ·exact yu b _ (by decide)
  have h5:(ir m.es [] q0).2.1=[]:=by rename_i h;exact Classical.not_not.1 h
  rw[h5,z27]at h4;rw[z24,List.nil_append]at h4;refine⟨hbl,hbb, ?_,h3 (by simp), ?_, ?_,hs1,hs2,hs3,fun _=> ?_⟩
  ·simp only;rw[h2];simp;exact hs1
  ·simp only;rw[h4];exact hrl
  ·simp only;rw[h4];exact hrb
  ·simp only;rw[h2];simp
 ·rw[if_pos h1];exact yu b _ (by decide)
theorem aak(l:List (List Nat)):BN (2^27) (l.map br):=fun x hx=>by
 obtain⟨y,_,rfl⟩:=z33.1 hx;rw[le];decide
theorem y9(b:List Nat)(i j:Int)(hl:b.length≤2^30)(hb:∀x∈b,x<256):
  Fn Tryz.prog 6 [] [.pv (.sl 1 (bytes b)),.pv (.int .i64 i),.pv (.int .i64 j)] (fun rs H'=>rs=[.own 5 (bytes (xx b i j).1),.pv (.int .i64 (xx b i j).2)]∧H'=[]):=by
 refine Fn.ob Tryz.f6 63 [.tmp 6,.tmp 7] fun C=> ?_
 have hr:aw=140737488355328:=rfl;have hsf:=abu b (by omega) hb
 obtain⟨hsl,_,hse,hsb,hfl,_,_,_,_,_⟩:=Er hb;unfold xx;generalize fp b=A at*;obtain⟨⟨v,p,es,r⟩,sg,se,e⟩:=A;simp only at hsf hsl hse hsb hfl⊢;have hm:=vz v p es r;rw[hm]at hsf;refine aa ?_;refine ap hsf (.pv _ .nil) ?_;by_cases he:e=0
 rotate_left
 ·have d1:(e !=0)=true:=by rw[bne_iff_ne];exact he
  rw[if_pos he];refine aa ?_ (by simp only[go_sem,↓reduceIte,d1]<;>rfl)
  refine am rfl ?_;refine aa ?_;refine ac (.move rfl (.pv _ .nil)) rfl
 have d1:(e !=0)=false:=by rw[he];rfl
 rw[if_neg (not_not_intro he)];refine aa ?_ (by simp only[go_sem,↓reduceIte,d1]<;>rfl)
 refine ae rfl ?_;refine aa ?_;refine ap (J0 se (by omega) (fun x hx=>z34 (hsb x hx) (by decide))) (.pv _ .nil) ?_
 have hpf:=ach (se.map br) i j (by rw[z10];omega) (aak se)
 have hext:∀a c,aaz ⟨⟨v,p,es,r⟩,sg,se,e⟩ a c=cg sg.length++sg++cg a++cg (c-a)++((se.drop a).take (c+1-a)).flatten++cg (cu (se.map br) a c).1.length++(cu (se.map br) a c).1.flatten:=fun a c=>rfl
 have hpl:(cu (se.map br) i j).1.length≤se.length∧∀x∈(cu (se.map br) i j).1,x.length≤32:=by
  unfold cu;split
  ·exact⟨z01 _,by simp⟩
  ·rename_i hnb;have h0:0<(se.map br).length:=by omega
   have h1:=m3 (se.map br) i.toNat j.toNat _ 0 (se.map br).length (z20 _) h0;rw[z10]at h1;refine⟨by simpa using h1, ?_⟩
   exact pj (N:=32) (by decide) (fun x hx=>by
    obtain⟨y,_,rfl⟩:=z33.1 hx;rw[le];decide) _ _ _ (z20 _)
 have hpe:(cu (se.map br) i j).2=0→0≤i∧i≤j∧j<(se.length:Int):=fun h=>by
  unfold cu at h;split at h
  ·exact absurd h (by decide)
  ·rename_i hnb;rw[z10]at hnb;omega
 have hPE:∀P,cu (se.map br) i j=P→0≤i→0≤j→cu (se.map br) (i.toNat:Int) (j.toNat:Int)=P:=fun P h h1 h2=>by rw[z22 h1,z22 h2];exact h
 generalize hP:cu (se.map br) i j=P at*;obtain⟨pr,pe⟩:=P;simp only at hpf hpl hpe⊢;refine bj (.slot 26) ?_;refine aa ?_;refine ap hpf (.pv _ (.pv _ (.pv _ .nil))) ?_;by_cases hpe0:pe=0
 rotate_left
 ·have d2:(pe !=0)=true:=by rw[bne_iff_ne];exact hpe0
  rw[if_pos hpe0];refine aa ?_ (by simp only[go_sem,↓reduceIte,d2]<;>rfl)
  refine am rfl ?_;refine aa ?_;refine ac (.move rfl (.pv _ .nil)) rfl
 have d2:(pe !=0)=false:=by rw[hpe0];rfl
 rw[if_neg (not_not_intro hpe0)];obtain⟨h0,h1,h2⟩:=hpe hpe0;have hPQ:=hPE (pr,pe) rfl h0 (by omega)
 obtain⟨a,rfl⟩:∃a:Nat,i=(a:Int):=⟨i.toNat,by omega⟩
 obtain⟨c,rfl⟩:∃c:Nat,j=(c:Int):=⟨j.toNat,by omega⟩
 rw[z26,z26]at*;rw[hext,hPQ];simp only;have ea:IntKind.u64.wrap (a:Int)=(a:Int):=ay (by omega)
 have ws:IntKind.i64.wrap ((c:Int)-(a:Int))=((c-a:Nat):Int):=by rw[an (by omega) (by omega)];omega
 have es2:IntKind.u64.wrap ((c-a:Nat):Int)=((c-a:Nat):Int):=ay (by omega)
 have ec1:IntKind.i64.wrap ((c:Int)+1)=((c+1:Nat):Int):=ai (by omega)
 have l10:=bn (v:=sg.length) (by omega)
 have l11:=bn (v:=a) (by omega)
 have l12:=bn (v:=c-a) (by omega)
 have hbl1:(cg sg.length++sg).length≤2^31:=by rw[z00];omega
 have hbl2:(cg sg.length++sg++cg a).length≤2^31+10:=by rw[z00];omega
 refine aa ?_ (by simp only[go_sem,↓reduceIte,d2]<;>rfl)
 refine ae rfl ?_;refine bj (.slot 12) ?_;refine aa ?_;refine ap (aj4 sg (by omega)) (.pv _ .nil) ?_
 refine aa ?_ (by simp only[go_sem,↓reduceIte,ea]<;>rfl)
 refine av (args:=[.pv (.sl 1 (bytes (cg sg.length++sg))),.pv (.int .u64 a)]) (fun _=>0) (Ai (cg sg.length++sg) a (by omega) (by omega)) (.lend rfl c7 (.pv _ .nil)) ?_
 refine aa ?_ (by simp only[go_sem,↓reduceIte,ws,es2]<;>rfl)
 refine av (args:=[.pv (.sl 1 (bytes (cg sg.length++sg++cg a))),.pv (.int .u64 ((c-a:Nat):Int))]) (fun _=>0) (Ai (cg sg.length++sg++cg a) (c-a) (by omega) (by omega)) (.lend rfl c7 (.pv _ .nil)) ?_
 have hbl3:(cg sg.length++sg++cg a++cg (c-a)).length≤2^31+20:=by rw[z00];omega
 generalize cg sg.length++sg++cg a++cg (c-a)=base at*;have hfl2:∀k,((se.drop a).take k).flatten.length≤b.length:=fun k=>by
  have e1:se=se.take a++((se.drop a).take k++(se.drop a).drop k):=by rw[z16,z16]
  have e2:=congrArg (fun z=>z.flatten.length) e1
  simp only[List.flatten_append,z00]at e2;omega
 have k1:(a≤c+1)=True:=eq_true (by omega)
 have k2:(c+1≤se.length)=True:=eq_true (by omega)
 have hdr:=pt se a;have hsub:(((c+1:Nat):Int)-(a:Int)).toNat=c+1-a:=by omega
 have htk:=ng (se.drop a) (c+1-a);have hf:=hfl2 (c+1-a);have htl:((se.drop a).take (c+1-a)).length≤2^40:=by rw[z09,z03];omega
 generalize hG:(se.drop a).take (c+1-a)=G at*;have r1:(base.length+G.flatten.length≤aw)=True:=eq_true (by omega)
 have hs1:bytes base++bytes G.flatten=bytes (base++G.flatten):=bx _ _;refine aa ?_ (by simp only[go_sem,↓reduceIte,bf,ec1,k1,k2,hdr,hsub,htk]<;>rfl)
 refine ap (Kc G htl (by omega)) (.pv _ .nil) ?_
 have ep:IntKind.u64.wrap (pr.length:Int)=(pr.length:Int):=ay (by omega)
 refine aa ?_ (by simp only[go_sem,↓reduceIte,ba,r1,hs1,bf,ep]<;>rfl)
 have hcl:(base++G.flatten).length≤2^33:=by rw[z00];omega
 generalize base++G.flatten=cur at*;refine av (args:=[.pv (.sl 1 (bytes cur)),.pv (.int .u64 pr.length)]) (fun _=>0) (Ai cur pr.length (by omega) (by omega)) (.lend rfl c7 (.pv _ .nil)) ?_
 have hbl4:(cur++cg pr.length).length≤2^33+10:=by
  have:=bn (v:=pr.length) (by omega)
  rw[z00];omega
 generalize cur++cg pr.length=cur2 at*;have hprl:pr.flatten.length≤32*pr.length:=sy hpl.2;have r2:(cur2.length+pr.flatten.length≤aw)=True:=eq_true (by omega)
 have hs2:bytes cur2++bytes pr.flatten=bytes (cur2++pr.flatten):=bx _ _;refine aa ?_;refine ap (Kc pr (by omega) (by omega)) (.pv _ .nil) ?_
 refine aa ?_ (by simp only[go_sem,↓reduceIte,ba,r2,hs2]<;>rfl)
 refine ac (.move rfl (.pv _ .nil)) rfl
theorem aqa{m:Man}(h:(tw m).2=0):fm m=0∧(tw m).1=dc m:=by
 unfold tw at h⊢;split at h
 ·rename_i h1;exact absurd h h1
 ·rename_i h1;rw[if_neg h1];exact⟨by simpa using h1,rfl⟩
theorem X3{m:Man}(h:fm m=0)(hp:∀x∈m.prev,x<256)(hr:∀x∈m.root,x<256):∀x∈dc m,x<256:=by
 obtain⟨w1,w2,w3,w4,w5,w6⟩:=jt h;intro x hx;unfold dc Hw at hx;simp only[z02,List.mem_flatMap]at hx;rcases hx with(((((((hx|hx)|hx)|hx)|⟨s,_,hx⟩)|hx)|⟨e,he,hx⟩)|hx)
 ·revert x;decide
 ·exact nt _ _ x hx
 ·exact hp x hx
 ·exact fe _ x hx
 ·unfold jr at hx;rcases z02.1 hx with hx|hx
  ·exact fe _ x hx
  ·exact O3 s x hx
 ·exact fe _ x hx
 ·unfold n7 at hx;rcases z02.1 hx with hx|hx
  ·exact fe _ x hx
  ·have h8:=w4 e he;have:x=e.2.toNat:=by simpa using hx
   omega
 ·exact hr x hx
theorem ad2{m:Man}(hp:∀x∈m.prev,x<256)(hr:∀x∈m.root,x<256):∀x∈(tw m).1,x<256:=by
 unfold tw;split
 ·simp
 ·rename_i h;exact X3 (by simpa using h) hp hr
theorem abv(key:List Nat)(m:Man)(hv:m.v<2^64):(rv key m).1.length≤2^28+32:=by
 have:=So m hv;unfold rv;split
 ·simp
 ·split
  ·simp
  ·rw[z00,kl];omega
theorem Wh(key:List Nat)(m:Man)(hv:m.v<2^64)(hl:m.es.length<2^29)(hkb:∀x∈key,x<256):Fn Tryz.prog 31 [] [.pv (.sl 1 (bytes key)),.pv (Ak m)] (fun rs H'=>rs=[.own 5 (bytes (rv key m).1),.pv (.int .i64 (rv key m).2)]∧H'=[]):=by
 refine Fn.ob Tryz.f31 30 [.tmp 4,.tmp 5] fun C=> ?_
 have hroom:aw=140737488355328:=rfl;have hm:Ak m= .agg [.int .u64 (m.v:Int),.sl 1 (bytes m.prev),.sl 2 (b9 m.es),.sl 1 (bytes m.root)]:=rfl;have hef:=Ty m hv hl;have hel:=So m hv;have hkb2:=Y0 key 4 [];have hkl2:=agq key 4 [];rw[hm]at hef⊢;unfold rv;generalize tw m=E at*;obtain⟨en,ee⟩:=E;simp only at hef hel;refine aa ?_;refine ap (adh key hkb) (.pv _ .nil) ?_;generalize dk key 4 []=D at*;obtain⟨k,ke⟩:=D;simp only at hkb2 hkl2;simp only;refine aa ?_;refine AW.cond rfl (fun hc=> ?_) (fun hc=> ?_)
 ·have hk0:ke≠0:=by rintro rfl;exact absurd hc (by decide)
  rw[if_pos hk0];refine aa ?_;refine ac (.move rfl (.pv _ .nil)) rfl
 have hk0:ke=0:=by
  have h2:((ke:Int)==0)=true:=by simpa[bne]using hc
  have:=eq_of_beq h2;omega
 rw[if_neg (by simp[hk0])]
 refine aa ?_;refine ap hef (.pv _ .nil) ?_;refine aa ?_;refine AW.cond rfl (fun hc=> ?_) (fun hc=> ?_)
 ·have he0:ee≠0:=by rintro rfl;exact absurd hc (by decide)
  rw[if_pos he0];refine aa ?_;refine ac (.move rfl (.pv _ .nil)) rfl
 have he0:ee=0:=by
  have h2:((ee:Int)==0)=true:=by simpa[bne]using hc
  have:=eq_of_beq h2;omega
 rw[if_neg (by simp[he0])]
 refine aa ?_;refine av (args:=[.pv (.sl 1 (bytes k)),.pv (.sl 1 (bytes en))]) (fun _=>0) (I4 k en hkb2 (by omega) (by omega)) (.pv _ (.lend rfl c7 .nil)) ?_
 have hml:=kl k en;have r1:(en.length+(pz k en).length≤aw)=True:=eq_true (by omega)
 refine aa ?_ (by simp only[go_sem,↓reduceIte,r1]<;>rfl)
 refine ac (.move rfl (.pv _ .nil)) rfl
abbrev Yp:=List UInt8×List Sm
def Ea(l:List Yp):List PV:=l.map chP
theorem Je(l:List Yp):(Ea l).length=l.length:=by simp[Ea]
theorem ajz{l:List Yp}{i:Nat}{c:Yp}(h:l[i]?=some c):(Ea l)[i]?=some (chP c):=by unfold Ea;rw[z23,h];rfl
abbrev Sta:=Nat×List Nat
def Vc(s:Sta):PV:= .agg [.int .u64 (s.1:Int),.sl 1 (bytes s.2)]
def ga(master:List Nat)(v:Nat):Nat→List Yp→List (List Nat)→List je→List (List Nat)×List je×Int
 |_,[],bc,es=>(bc,es,0)
 |i,c::r,bc,es=>
  if(dk master 1 c.1).2≠0 then([],[],((dk master 1 c.1).2:Int))
  else if(gu (dk master 1 c.1).1 v (i:Int) c.1 c.2).2.2≠0 then([],[],(gu (dk master 1 c.1).1 v (i:Int) c.1 c.2).2.2)
  else ga master v (i+1) r (bc++[(gu (dk master 1 c.1).1 v (i:Int) c.1 c.2).1]) (es++[(c.1,((gu (dk master 1 c.1).1 v (i:Int) c.1 c.2).2.1:Int))])
def noS(e:Int):List Nat×Sta×Int:=([],(0,[]),e)
def ta(pr:List Nat):List Nat:=if pr.length=0 then z07 32 0 else pr
def n6(v:Nat)(pr:List Nat)(sealed:List (List Nat))(es:List je):Man:=⟨v,ta pr,es,mroot (sealed.map br)⟩
def Ij(master:List Nat)(v:Nat)(pr:List Nat)(sealed:List (List Nat))(es:List je):List Nat×Sta×Int:=
 if(rv master (n6 v pr sealed es)).2≠0 then noS (rv master (n6 v pr sealed es)).2
 else(cg (rv master (n6 v pr sealed es)).1.length++(rv master (n6 v pr sealed es)).1++sealed.flatten,(v,mroot (sealed.map br)),0)
def fu(master:List Nat)(prev:Sta)(v:Nat)(l:List Yp):List Nat×Sta×Int:=
 if master.length≠32∨¬(prev.2.length=0∨prev.2.length=32)∨v=18446744073709551615 then noS 1
 else if 0<prev.2.length∧v≤prev.1 then noS 6
 else if 1048576<l.length then noS 4
 else if(ga master v 0 l [] []).2.2≠0 then noS (ga master v 0 l [] []).2.2
 else Ij master v prev.2 (ga master v 0 l [] []).1 (ga master v 0 l [] []).2.1
theorem ahr{key:List Nat}{v:Nat}{i:Int}{t:List UInt8}{xs:List Sm}(hx:vb xs)(h:(gu key v i t xs).2.2=0):
  (gu key v i t xs).1=Hl (m0 key v i).1 (m0 key v i).2.1 (N3 v i.toNat t) (N0 (lv t xs).1)∧(gu key v i t xs).2.1=Qy (lv t xs).1.length∧(m0 key v i).2.2=0∧(lv t xs).2=0∧(lv t xs).1.length≤4194300:=by
 unfold gu at h⊢;split at h
 ·rename_i h1;simp only at h;omega
 ·rename_i h1;split at h
  ·rename_i h2;simp only at h;exact absurd h h2
  ·rename_i h2;split at h
   ·rename_i h3;simp only at h;omega
   ·rename_i h3;have h4:¬4194300<(lv t xs).1.length:=fun h=>h3 (by unfold vd;rw[if_pos h];decide)
    have h5:vd (lv t xs).1=(N0 (lv t xs).1,0):=by unfold vd;rw[if_neg h4]
    rw[if_neg h1,if_neg h2,h5,if_neg (by simp)]
    exact⟨rfl,rfl,by omega,Classical.not_not.1 h2,by omega⟩
theorem acp{b:List Nat}(h:∀x∈b,x<256):∀x∈N0 b,x<256:=by
 intro x hx;unfold N0 at hx;rcases z02.1 hx with hx|hx
 ·rcases z02.1 hx with hx|hx
  ·exact nt _ _ x hx
  ·exact h x hx
 ·rw[List.eq_of_mem_replicate hx];decide
theorem Ev{key:List Nat}{v:Nat}{i:Int}{t:List UInt8}{xs:List Sm}(hx:vb xs):(gu key v i t xs).1.length≤2^25∧(∀x∈(gu key v i t xs).1,x<256)∧(gu key v i t xs).2.1≤8∧
  ((gu key v i t xs).2.2=0→(gu key v i t xs).1.length=c9 ((gu key v i t xs).2.1:Int)+16):=by
 by_cases h:(gu key v i t xs).2.2=0
 ·obtain⟨h1,h2,h3,h4,h5⟩:=ahr hx h;have hk:=Vw (lv t xs).1.length;have hp:=zx hk;have hle:=yt (Qy (lv t xs).1.length:Int);have hl:(gu key v i t xs).1.length=c9 ((gu key v i t xs).2.1:Int)+16:=by rw[h1,h2,abz,Rt h5,hp]
  refine⟨?_, ?_,by rw[h2];exact hk,fun _=>hl⟩
  ·rw[hl,h2];omega
  ·rw[h1];exact Wf (acp (Na hx))
 ·have:(gu key v i t xs).1=[]∧(gu key v i t xs).2.1=0:=by
   unfold gu at h⊢;split
   ·exact⟨rfl,rfl⟩
   ·rename_i h1;rw[if_neg h1]at h;split
    ·exact⟨rfl,rfl⟩
    ·rename_i h2;rw[if_neg h2]at h;split
     ·exact⟨rfl,rfl⟩
     ·rename_i h3;rw[if_neg h3]at h;exact absurd rfl h
  rw[this.1,this.2];exact⟨by simp,by simp,by decide,fun h'=>absurd h' h⟩
structure SOK (bc:List (List Nat)) (es:List je):Prop where
 len:bc.length=es.length
 b:∀x∈bc,x.length≤2^25∧∀y∈x,y<256
 sz:∀(j:Nat) (x:List Nat) (e:je),bc[j]?=some x→es[j]?=some e→x.length=c9 e.2+16
theorem SOK.nil:SOK [] []:=⟨rfl,by simp,by simp⟩
theorem SOK.snoc{bc:List (List Nat)}{es:List je}(h:SOK bc es){key:List Nat}{v:Nat}{i:Int}{t:List UInt8}{xs:List Sm}(hx:vb xs)(h0:(gu key v i t xs).2.2=0):SOK (bc++[(gu key v i t xs).1]) (es++[(t,((gu key v i t xs).2.1:Int))]):=by
 obtain⟨h1,h2,h3,h4⟩:=Ev (key:=key) (v:=v) (i:=i) (t:=t) hx;refine⟨by rw[z00,z00,h.len];rfl,fun x hx'=> ?_,fun j x e hj he=> ?_⟩
 ·rcases z02.1 hx' with hx'|hx'
  ·exact h.b x hx'
  ·rw[z21]at hx';subst hx';exact⟨h1,h2⟩
 ·by_cases hlt:j<bc.length
  ·rw[z13 hlt]at hj;rw[z13 (by rw[←h.len];exact hlt)]at he
   exact h.sz j x e hj he
  ·rw[z11 (by omega)]at hj
   rw[z11 (by rw[←h.len];omega),←h.len]at he
   match hk:j-bc.length with
   |0=>
    rw[hk]at hj he;simp at hj he;subst hj;subst he
    exact h4 h0
   |n+1=>rw[hk]at hj;simp at hj
theorem Eu{master:List Nat}{v:Nat}:∀(l:List Yp) (i:Nat) (bc:List (List Nat)) (es:List je),(∀c∈l,vb c.2)→SOK bc es→SOK (ga master v i l bc es).1 (ga master v i l bc es).2.1∧(ga master v i l bc es).1.length≤bc.length+l.length∧((ga master v i l bc es).2.2=0→(ga master v i l bc es).1.length=bc.length+l.length)
 |[],i,bc,es,hl,h=>⟨h,z20 _,fun _=>rfl⟩
 |c::r,i,bc,es,hl,h=>by
  unfold ga;split
  ·rename_i hz;exact⟨SOK.nil,z01 _,fun h'=>by simp only at h';omega⟩
  split
  ·rename_i hz;exact⟨SOK.nil,z01 _,fun h'=>absurd h' hz⟩
  ·rename_i h1 h2;obtain⟨k1,k2,k3⟩:=Eu (master:=master) (v:=v) r (i+1) _ _ (fun c hc=>hl c (List.mem_cons_of_mem _ hc)) (h.snoc (t:=c.1) (hl c (by simp)) (Classical.not_not.1 h2))
   refine⟨k1, ?_,fun h'=> ?_⟩
   ·rw[z00]at k2;simp only[z04,z05]at k2⊢;omega
   ·have:=k3 h';rw[z00]at this;simp only[z04,z05]at this⊢;omega
theorem Wg(s:Sta)(hl:s.2.length<2^62):Fn Tryz.prog 27 [] [.pv (Vc s)] (fun rs H'=>rs=[.pv (.bool (decide (s.2.length=0∨s.2.length=32)))]∧H'=[]):=by
 refine Fn.ob Tryz.f27 13 [.tmp 2] fun C=> ?_
 obtain⟨v,r⟩:=s;simp only at hl;unfold Vc;simp only;by_cases h:r.length=0
 ·have d1:((r.length:Int)==0)=true:=by rw[beq_iff_eq];omega
  have d1':(r.length==0)=true:=by rw[beq_iff_eq];omega
  rw[decide_eq_true (.inl h)];refine ak ?_ (by simp only[go_sem,↓reduceIte,ba,d1,d1']<;>rfl)
  refine ac (.pv _ .nil) rfl
 ·have d1:((r.length:Int)==0)=false:=by rw[beq_eq_false_iff_ne];omega
  have d1':(r.length==0)=false:=by rw[beq_eq_false_iff_ne];omega
  have d2:((r.length:Int)==32)=decide (r.length=0∨r.length=32):=by rw[z28];simp only[beq_iff_eq,decide_eq_true_eq];omega
  have d2':(r.length==32)=decide (r.length=0∨r.length=32):=by rw[z28];simp only[beq_iff_eq,decide_eq_true_eq];omega
  refine ak ?_ (by simp only[go_sem,↓reduceIte,ba,d1,d1',d2,d2']<;>rfl)
  refine ac (.pv _ .nil) rfl
theorem X2(master:List Nat)(prev:Sta)(v:Nat)(l:List Yp)(hml:master.length<2^62)(hkb:∀x∈master,x<256)(hpv:prev.1<2^64)(hpl:prev.2.length<2^62)(hv:v<2^64)(hll:l.length<2^62)(hlx:∀c∈l,vb c.2∧c.1.length≤maxLen):
  Fn Tryz.prog 9 [] [.pv (.sl 1 (bytes master)),.pv (Vc prev),.pv (.int .u64 v),.pv (.sl 2 (Ea l))]
   (fun rs H'=>rs=[.own 5 (bytes (fu master prev v l).1),.pv (Vc (fu master prev v l).2.1),.pv (.int .i64 (fu master prev v l).2.2)]∧H'=[]):=by
 refine Fn.ob Tryz.f9 146 [.tmp 8,.cell 9 37,.tmp 10] fun C=> ?_
 have hr:aw=140737488355328:=rfl;have m1:(1≤maxLen)=True:=eq_true (by unfold maxLen;decide)
 have hrf:=Wg prev hpl;obtain⟨pv,pr⟩:=prev;have hst:Vc (pv,pr)= .agg [.int .u64 (pv:Int),.sl 1 (bytes pr)]:=rfl;rw[hst]at hrf⊢;simp only at hpv hpl;unfold fu;refine aa ?_;refine ar (.cell 11 1) 5 ?_;refine bj (.cell 11 1) ?_;have hS0:∀(b:Bool) (e:Exit),e=e:=fun _ _=>rfl
 by_cases hb1:master.length≠32∨¬(pr.length=0∨pr.length=32)∨v=18446744073709551615
 ·rw[if_pos hb1];refine Aj (T:= ?T1) (fun hT1=> ?_) ?_;rotate_left
  ·by_cases h1:master.length=32
   ·have d1:((master.length:Int) !=32)=false:=by rw[h1];rfl
    have d1':(master.length !=32)=false:=by rw[h1];rfl
    by_cases h2:pr.length=0∨pr.length=32
    ·have h3:v=18446744073709551615:=by omega
     have d3:((v:Int)==18446744073709551615)=true:=by rw[beq_iff_eq];omega
     have d3':(v==18446744073709551615)=true:=by rw[beq_iff_eq];omega
     have d2:decide (pr.length=0∨pr.length=32)=true:=decide_eq_true h2;refine ak ?_ (by simp only[go_sem,↓reduceIte,ba,d1,d1']<;>rfl)
     refine iq rfl rfl ?_;refine ap hrf (.pv _ .nil) ?_;refine ak ?_ (by simp only[go_sem,↓reduceIte,d2,d3,d3',z29]<;>rfl)
     refine bq [35,8,9,10,11] [9,11] (s':=⟨146,[(35,.pv (.bool true)),(8,.own 5 []),(9,.ptr 9 0),(10,.pv (.int .i64 0)),(11,.ptr 11 0)],[(9,.cells 37 [.pv (.int .u64 0),.nils]),(11,.cells 37 [.pv (.int .u64 0),.pv (.sl 1 [])])]⟩) ?_;exact hT1 ()
    ·have d2:decide (pr.length=0∨pr.length=32)=false:=decide_eq_false h2;refine ak ?_ (by simp only[go_sem,↓reduceIte,ba,d1,d1']<;>rfl)
     refine iq rfl rfl ?_;refine ap hrf (.pv _ .nil) ?_;refine ak ?_ (by simp only[go_sem,↓reduceIte,d2,Bool.not_false]<;>rfl)
     refine bq [35,8,9,10,11] [9,11] (s':=⟨146,[(35,.pv (.bool true)),(8,.own 5 []),(9,.ptr 9 0),(10,.pv (.int .i64 0)),(11,.ptr 11 0)],[(9,.cells 37 [.pv (.int .u64 0),.nils]),(11,.cells 37 [.pv (.int .u64 0),.pv (.sl 1 [])])]⟩) ?_;exact hT1 ()
   ·have d1:((master.length:Int) !=32)=true:=by rw[bne_iff_ne];omega
    have d1':(master.length !=32)=true:=by rw[bne_iff_ne];omega
    refine ak ?_ (by simp only[go_sem,↓reduceIte,ba,d1,d1']<;>rfl)
    refine bq [35,8,9,10,11] [9,11] (s':=⟨146,[(35,.pv (.bool true)),(8,.own 5 []),(9,.ptr 9 0),(10,.pv (.int .i64 0)),(11,.ptr 11 0)],[(9,.cells 37 [.pv (.int .u64 0),.nils]),(11,.cells 37 [.pv (.int .u64 0),.pv (.sl 1 [])])]⟩) ?_;exact hT1 ()
  refine am rfl ?_;refine aa ?_;refine AW.ts [1] [0,2,3] mixed (by decide+kernel) ?_
  refine aa ?_;refine ac (.move rfl (.pv _ (.pv _ .nil))) rfl
 rw[if_neg hb1];have hm32:master.length=32:=by omega
 have h2:pr.length=0∨pr.length=32:=by omega
 have d1:((master.length:Int) !=32)=false:=by rw[hm32];rfl
 have d1':(master.length !=32)=false:=by rw[hm32];rfl
 have d2:decide (pr.length=0∨pr.length=32)=true:=decide_eq_true h2;have d3:((v:Int)==18446744073709551615)=false:=by rw[beq_eq_false_iff_ne];omega
 have d3':(v==18446744073709551615)=false:=by rw[beq_eq_false_iff_ne];omega
 refine ak ?_ (by simp only[go_sem,↓reduceIte,ba,d1,d1']<;>rfl)
 refine iq rfl rfl ?_;refine ap hrf (.pv _ .nil) ?_;refine ak ?_ (by simp only[go_sem,↓reduceIte,d2,d3,d3',z29]<;>rfl)
 refine ae rfl ?_;refine bq [0,2,3,5,8,9,10,11] [5,9,11] (s':=⟨146,[(0,.pv (.sl 1 (bytes master))),(2,.pv (.int .u64 v)),(3,.pv (.sl 2 (Ea l))),(5,.ptr 5 0),(8,.own 5 []),(9,.ptr 9 0),(10,.pv (.int .i64 0)),(11,.ptr 11 0)],[(5,.cells 37 [.pv (.int .u64 pv),.pv (.sl 1 (bytes pr))]),(9,.cells 37 [.pv (.int .u64 0),.nils]),(11,.cells 37 [.pv (.int .u64 0),.pv (.sl 1 [])])]⟩) ?_;by_cases hb2:0<pr.length∧v≤pv
 ·rw[if_pos hb2];have e1:decide ((pr.length:Int)>0)=true:=decide_eq_true (by omega)
  have e1':decide (0<pr.length)=true:=decide_eq_true hb2.1;have e2:decide ((v:Int)≤(pv:Int))=true:=decide_eq_true (by omega)
  have e2':decide (v≤pv)=true:=decide_eq_true hb2.2;refine ak ?_ (by simp only[go_sem,↓reduceIte,ba,e1,e1',e2,e2']<;>rfl)
  refine am rfl ?_;refine aa ?_;refine AW.ts [1] [0,2,3] mixed (by decide+kernel) ?_
  refine aa ?_;refine ac (.move rfl (.pv _ (.pv _ .nil))) rfl
 rw[if_neg hb2];refine Aj (T:= ?T2) (fun hT2=> ?_) ?_;rotate_left
 ·by_cases h3:0<pr.length
  ·have e1:decide ((pr.length:Int)>0)=true:=decide_eq_true (by omega)
   have e1':decide (0<pr.length)=true:=decide_eq_true h3;have e2:decide ((v:Int)≤(pv:Int))=false:=decide_eq_false (by omega)
   have e2':decide (v≤pv)=false:=decide_eq_false (by omega)
   refine ak ?_ (by simp only[go_sem,↓reduceIte,ba,e1,e1',e2,e2']<;>rfl)
   refine ae rfl ?_;refine bq [0,2,3,5,8,9,10,11] [5,9,11] (s':=⟨146,[(0,.pv (.sl 1 (bytes master))),(2,.pv (.int .u64 v)),(3,.pv (.sl 2 (Ea l))),(5,.ptr 5 0),(8,.own 5 []),(9,.ptr 9 0),(10,.pv (.int .i64 0)),(11,.ptr 11 0)],[(5,.cells 37 [.pv (.int .u64 pv),.pv (.sl 1 (bytes pr))]),(9,.cells 37 [.pv (.int .u64 0),.nils]),(11,.cells 37 [.pv (.int .u64 0),.pv (.sl 1 [])])]⟩) ?_;exact hT2 ()
  ·have e1:decide ((pr.length:Int)>0)=false:=decide_eq_false (by omega)
   have e1':decide (0<pr.length)=false:=decide_eq_false h3;refine ak ?_ (by simp only[go_sem,↓reduceIte,ba,e1,e1']<;>rfl)
   refine ae rfl ?_;refine bq [0,2,3,5,8,9,10,11] [5,9,11] (s':=⟨146,[(0,.pv (.sl 1 (bytes master))),(2,.pv (.int .u64 v)),(3,.pv (.sl 2 (Ea l))),(5,.ptr 5 0),(8,.own 5 []),(9,.ptr 9 0),(10,.pv (.int .i64 0)),(11,.ptr 11 0)],[(5,.cells 37 [.pv (.int .u64 pv),.pv (.sl 1 (bytes pr))]),(9,.cells 37 [.pv (.int .u64 0),.nils]),(11,.cells 37 [.pv (.int .u64 0),.pv (.sl 1 [])])]⟩) ?_;exact hT2 ()
 by_cases hb3:1048576<l.length
 ·rw[if_pos hb3];have e1:decide ((l.length:Int)>1048576)=true:=decide_eq_true (by omega)
  have e1':decide (1048576<l.length)=true:=decide_eq_true hb3;refine aa ?_ (by simp only[go_sem,↓reduceIte,Je,e1,e1']<;>rfl)
  refine am rfl ?_;refine aa ?_;refine AW.ts [1] [0,2,3] mixed (by decide+kernel) ?_
  refine aa ?_;refine ac (.move rfl (.pv _ (.pv _ .nil))) rfl
 rw[if_neg hb3];have e1:decide ((l.length:Int)>1048576)=false:=decide_eq_false (by omega)
 have e1':decide (1048576<l.length)=false:=decide_eq_false hb3;refine aa ?_ (by simp only[go_sem,↓reduceIte,Je,e1,e1']<;>rfl)
 refine ae rfl ?_;have hz:z07 32 (PV.int .u8 0)=bytes (z07 32 0):=rfl;refine Aj (T:= ?T3) (fun hT3=> ?_) ?_;rotate_left
 ·by_cases h3:pr.length=0
  ·have f1:((pr.length:Int)==0)=true:=by rw[beq_iff_eq];omega
   have f1':(pr.length==0)=true:=by rw[beq_iff_eq];omega
   refine aa ?_ (by simp only[go_sem,↓reduceIte,ba,f1,f1']<;>rfl)
   refine am rfl ?_;refine aa ?_;refine bj (.cell 12 1) ?_;have hp0:ta pr=z07 32 0:=by unfold ta;rw[if_pos h3]
   refine AW.keepB [14,13,0,2,3,8,9,10,11,12] [9,11,12] (s':=⟨146,[(14,.pv (.int .i64 0)),(13,.own 22 []),(0,.pv (.sl 1 (bytes master))),(2,.pv (.int .u64 v)),(3,.pv (.sl 2 (Ea l))),(8,.own 5 []),(9,.ptr 9 0),(10,.pv (.int .i64 0)),(11,.ptr 11 0),(12,.ptr 12 0)],[(9,.cells 37 [.pv (.int .u64 0),.nils]),(11,.cells 37 [.pv (.int .u64 0),.pv (.sl 1 [])]),(12,.cells 27 [.pv (.int .u64 v),.pv (.sl 1 (bytes (ta pr))),.nils,.nils])]⟩) (by simp only[go_sem,↓reduceIte]) (by simp only[go_sem,↓reduceIte,hp0,←hz]<;>rfl) ?_
   exact hT3 ()
  ·have f1:((pr.length:Int)==0)=false:=by rw[beq_eq_false_iff_ne];omega
   have f1':(pr.length==0)=false:=by rw[beq_eq_false_iff_ne];omega
   refine aa ?_ (by simp only[go_sem,↓reduceIte,ba,f1,f1']<;>rfl)
   refine ae rfl ?_;refine aa ?_;have hp0:ta pr=pr:=by unfold ta;rw[if_neg h3]
   refine AW.keepB [14,13,0,2,3,8,9,10,11,12] [9,11,12] (s':=⟨146,[(14,.pv (.int .i64 0)),(13,.own 22 []),(0,.pv (.sl 1 (bytes master))),(2,.pv (.int .u64 v)),(3,.pv (.sl 2 (Ea l))),(8,.own 5 []),(9,.ptr 9 0),(10,.pv (.int .i64 0)),(11,.ptr 11 0),(12,.ptr 12 0)],[(9,.cells 37 [.pv (.int .u64 0),.nils]),(11,.cells 37 [.pv (.int .u64 0),.pv (.sl 1 [])]),(12,.cells 27 [.pv (.int .u64 v),.pv (.sl 1 (bytes (ta pr))),.nils,.nils])]⟩) (by simp only[go_sem,↓reduceIte]) (by simp only[go_sem,↓reduceIte,hp0]<;>rfl) ?_
   exact hT3 ()
 refine ar (.cell 12 2) 55 ?_;have hmanP:∀(S:List (List Nat)) (E:List je),Ak (n6 v pr S E)= .agg [.int .u64 (v:Int),.sl 1 (bytes (ta pr)),.sl 2 (b9 E),.sl 1 (bytes (mroot (S.map br)))]:=fun S E=>rfl
 refine aq (fun a:Nat×List (List Nat)×List je=>⟨146,[(14,.pv (.int .i64 a.1)),(0,.pv (.sl 1 (bytes master))),(2,.pv (.int .u64 v)),(3,.pv (.sl 2 (Ea l))),(13,.own 22 (az a.2.1)),(8,.own 5 []),(9,.ptr 9 0),(10,.pv (.int .i64 0)),(11,.ptr 11 0),(12,.ptr 12 0)],[(9,.cells 37 [.pv (.int .u64 0),.nils]),(11,.cells 37 [.pv (.int .u64 0),.pv (.sl 1 [])]),(12,.cells 27 [.pv (.int .u64 v),.pv (.sl 1 (bytes (ta pr))),.own 55 (b9 a.2.2),.nils])]⟩)
  (fun a=>a.1≤l.length∧ga master v a.1 (l.drop a.1) a.2.1 a.2.2=ga master v 0 l [] []∧a.2.1.length=a.1∧SOK a.2.1 a.2.2) (fun a=>l.length-a.1) [14,0,2,3,13,8,9,10,11,12] [9,11,12] (0,[],[]) ⟨z01 _,rfl,rfl,SOK.nil⟩ ?_
 rintro⟨i,bc,es⟩ ⟨hi,hsr,hal,hsok⟩ K hK;simp only at hi hsr hal hsok;have hel:es.length=i:=by rw[←hsok.len,hal]
 rw[←hsr];refine aa ?_ (by simp only[go_sem,↓reduceIte,Je]<;>rfl)
 refine AW.cond rfl (fun hc=> ?_) (fun hc=> ?_)
 ·have hlt:i<l.length:=by have:=of_decide_eq_true hc;omega
  obtain⟨⟨t,xs⟩,hcx⟩:∃x,l[i]?=some x:=⟨l[i],z06 hlt⟩
  have hg:(Ea l)[i]?=some (.agg [.str t,.sl 2 (sms xs)]):=ajz hcx;obtain⟨hsm,htl⟩:=hlx (t,xs) (z19 hcx);simp only at hsm htl;have ei:IntKind.i64.wrap ((i:Int)+1)=((i+1:Nat):Int):=ai (by omega)
  have hdrop:l.drop i=(t,xs)::l.drop (i+1):=by
   obtain⟨h,he'⟩:=z12.1 hcx;rw[←he',z14 h]
  have hstep:ga master v i ((t,xs)::l.drop (i+1)) bc es=if(dk master 1 t).2≠0 then([],[],((dk master 1 t).2:Int))
    else if(gu (dk master 1 t).1 v (i:Int) t xs).2.2≠0 then([],[],(gu (dk master 1 t).1 v (i:Int) t xs).2.2)
    else ga master v (i+1) (l.drop (i+1)) (bc++[(gu (dk master 1 t).1 v (i:Int) t xs).1]) (es++[(t,((gu (dk master 1 t).1 v (i:Int) t xs).2.1:Int))]):=rfl
  rw[hdrop,hstep]at hsr⊢;have hkb2:=Y0 master 1 t;have htf:=Tn master t hkb htl;have hchP:chP (t,xs)= .agg [.str t,.sl 2 (sms xs)]:=rfl;generalize dk master 1 t=D at*;obtain⟨key,de⟩:=D;simp only at hkb2 htf hsr⊢;refine aa ?_ (by simp only[go_sem,↓reduceIte,hg]<;>rfl)
  refine ap htf (.pv _ (.pv _ .nil)) ?_;by_cases hde:de=0
  rotate_left
  ·have g1:((de:Int) !=0)=true:=by rw[bne_iff_ne];omega
   have g1':(de !=0)=true:=by rw[bne_iff_ne];omega
   have g2:(de:Int)≠0:=by omega
   rw[if_pos hde];simp only;rw[if_pos g2];refine aa ?_ (by simp only[go_sem,↓reduceIte,g1,g1']<;>rfl)
   refine am rfl ?_;refine aa ?_;refine AW.ts [1,2] [0,3,4] mixed (by decide+kernel) ?_
   refine aa ?_;refine ac (.move rfl (.pv _ (.pv _ .nil))) rfl
  have g1:((de:Int) !=0)=false:=by rw[hde];rfl
  have g1':(de !=0)=false:=by rw[hde];rfl
  rw[if_neg (not_not_intro hde)]at hsr⊢;have hsf:=ab0 key v (i:Int) t xs hkb2 hv htl hsm;have hsn:=hsok.snoc (key:=key) (v:=v) (i:=(i:Int)) (t:=t) hsm;have hsa:=Ev (key:=key) (v:=v) (i:=(i:Int)) (t:=t) hsm;rw[hchP]at hsf;generalize gu key v (i:Int) t xs=Z at*;obtain⟨z1,z2,z3⟩:=Z;simp only at hsf hsr hsn hsa⊢;refine aa ?_ (by simp only[go_sem,↓reduceIte,g1,g1']<;>rfl)
  refine ae rfl ?_;refine aa ?_ (by simp only[go_sem,↓reduceIte,hg]<;>rfl)
  refine ap hsf (.pv _ (.pv _ (.pv _ (.pv _ .nil)))) ?_;by_cases hz3:z3=0
  rotate_left
  ·have g3:(z3 !=0)=true:=by rw[bne_iff_ne];exact hz3
   rw[if_pos hz3];simp only;rw[if_pos hz3];refine aa ?_ (by simp only[go_sem,↓reduceIte,g3]<;>rfl)
   refine am rfl ?_;refine aa ?_;refine AW.ts [1,2] [0,3,4] mixed (by decide+kernel) ?_
   refine aa ?_;refine ac (.move rfl (.pv _ (.pv _ .nil))) rfl
  have g3:(z3 !=0)=false:=by rw[hz3];rfl
  rw[if_neg (not_not_intro hz3)]at hsr⊢;have hs:az bc++[.sl 1 (bytes z1)]=az (bc++[z1]):=by rw[←ia];rfl
  have hs2:b9 es++[.agg [.str t,.int .i64 (z2:Int)]]=b9 (es++[(t,(z2:Int))]):=by unfold b9;rw[List.map_append];rfl
  have hbl:(az bc).length=i:=by rw[bf,hal]
  have hel2:(b9 es).length=i:=by rw[z8,hel]
  have r1:((i+1)*24≤aw)=True:=eq_true (by omega)
  have r2:(i+1≤aw)=True:=eq_true (by omega)
  refine aa ?_ (by simp only[go_sem,↓reduceIte,g3]<;>rfl)
  refine ae rfl ?_;refine bj (.slot 17) ?_;generalize hLA:az bc=LA at*;generalize hLE:b9 es=LE at*;refine aa ?_ (by simp only[go_sem,↓reduceIte,m1,hs,hbl,z04,z05,z15,r1,r2]<;>rfl)
  refine cr ?_;refine bu [[],[102],[],[],[104,105],[106],[107],[]] ?_ (by simp only[go_sem,↓reduceIte,hg]<;>rfl)
  refine CK.build [108,109] ?_ (hf:=by simp only[go_sem,↓reduceIte,hg]<;>rfl)
  refine CK.list [110] ?_;refine CK.done (M:=10) 3 mixed ?_;refine bp (fuel:=0) (listed':=Array.replicate 13 true) [10,11,12] ?_ (by decide+kernel)
  refine ak ?_ (by simp only[go_sem,↓reduceIte,hs2,hel2,z04,z05,z15,r1,r2]<;>rfl)
  refine a8 (by decide+kernel) ?_
  refine aa ?_ (by simp only[go_sem,↓reduceIte,ei]<;>rfl)
  exact ah hK (i+1,bc++[z1],es++[(t,(z2:Int))]) ⟨by show i+1≤l.length;omega,hsr,by simp only[z00,z17];omega,hsn hz3⟩ (by show l.length-(i+1)<l.length-i;omega)
 have hge:i=l.length:=by have:=of_decide_eq_false hc;omega
 subst hge;rw[z25];have hend:ga master v l.length [] bc es=(bc,es,0):=rfl;rw[hend];simp only;rw[if_neg (not_not_intro rfl)];have hbnd:∀x∈bc,x.length≤2^25:=fun x hx=>(hsok.b x hx).1
 have hfl:=sy hbnd;have hrt:=Tv bc (by omega) (fun x hx=>z34 (hbnd x hx) (by decide))
 have hsg:=Wh master (n6 v pr bc es) hv (by show es.length<2^29;omega) hkb
 rw[hmanP]at hsg;have hsl:=abv master (n6 v pr bc es) hv;unfold Ij;generalize rv master (n6 v pr bc es)=G at*;obtain⟨sg,ge⟩:=G;generalize mroot (bc.map br)=rt at*;simp only at hsg hsl⊢;refine bj (.slot 13) ?_;refine aa ?_;refine ap hrt (.pv _ .nil) ?_;refine bj (.cell 12 2) ?_;refine aa ?_;refine ap hsg (.pv _ (.pv _ .nil)) ?_;by_cases hge0:ge=0
 rotate_left
 ·have g3:(ge !=0)=true:=by rw[bne_iff_ne];exact hge0
  rw[if_pos hge0];refine aa ?_ (by simp only[go_sem,↓reduceIte,g3]<;>rfl)
  refine am rfl ?_;refine aa ?_;refine AW.ts [1,2] [0,3,4] mixed (by decide+kernel) ?_
  refine aa ?_;refine ac (.move rfl (.pv _ (.pv _ .nil))) rfl
 have g3:(ge !=0)=false:=by rw[hge0];rfl
 rw[if_neg (not_not_intro hge0)];have l10:=bn (v:=sg.length) (by omega)
 refine aa ?_ (by simp only[go_sem,↓reduceIte,g3]<;>rfl)
 refine ae rfl ?_;refine aa ?_;refine ap (im sg (by omega)) (.lend rfl c7 .nil) ?_
 have hbl1:(cg sg.length++sg).length≤2^31:=by rw[z00];omega
 generalize cg sg.length++sg=base at*;refine aa ?_;refine aq (fun k:Nat=>⟨146,[(22,.pv (.int .i64 k)),(13,.pv (.sl 1 (az bc))),(21,.own 5 (bytes (base++(bc.take k).flatten))),(2,.pv (.int .u64 v)),(8,.own 5 []),(9,.ptr 9 0),(10,.pv (.int .i64 0)),(12,.ptr 12 0)],[(9,.cells 37 [.pv (.int .u64 0),.nils]),(12,.cells 27 [.pv (.int .u64 v),.pv (.sl 1 (bytes (ta pr))),.pv (.sl 2 (b9 es)),.pv (.sl 1 (bytes rt))])]⟩) (fun k=>k≤bc.length) (fun k=>bc.length-k) [22,13,21,2,8,9,10,12] [9,12] 0 (z01 _) ?_ (hs:=by simp only[go_sem,↓reduceIte,List.take_zero,z24,z27]<;>rfl)
 rintro k hk K2 hK2;refine aa ?_ (by simp only[go_sem,↓reduceIte,bf]<;>rfl)
 refine AW.cond rfl (fun hc=> ?_) (fun hc=> ?_)
 ·have hlt:k<bc.length:=by have:=of_decide_eq_true hc;omega
  obtain⟨x,hx⟩:∃x,bc[k]?=some x:=⟨bc[k],z06 hlt⟩
  have hg:=gz hx;have hst:=uz hx;have ek:IntKind.i64.wrap ((k:Int)+1)=((k+1:Nat):Int):=ai (by omega)
  have hs:bytes (base++(bc.take k).flatten)++bytes x=bytes (base++(bc.take (k+1)).flatten):=by rw[bx,hst,List.append_assoc]
  have hxl:=hbnd x (z19 hx);have hf:=Pg (l:=bc) k;have r1:((base++(bc.take k).flatten).length+x.length≤aw)=True:=eq_true (by rw[z00];omega)
  generalize base++(bc.take k).flatten=cur at*;refine aa ?_ (by simp only[go_sem,↓reduceIte,hg,ba,hs,r1,ek]<;>rfl)
  exact ah hK2 (k+1) (by omega) (by omega)
 have hge:k=bc.length:=by have:=of_decide_eq_false hc;omega
 subst hge;rw[List.take_length];refine aa ?_;refine AW.ts [0,1,2,5] [3,4,6,7] mixed (by decide+kernel) ?_
 refine aa ?_;refine ac (.move rfl (.pv _ (.pv _ .nil))) rfl
structure Rng where
 m:Man
 first:Nat
 sealed:List (List Nat)
 proof:List (List Nat)
def arx(r:Rng):PV:= .agg [.int .u64 (r.m.v:Int),.sl 1 (bytes r.m.prev),.sl 2 (b9 r.m.es),.sl 1 (bytes r.m.root),.int .i64 (r.first:Int),.sl 1 (az r.sealed),.sl 1 (az r.proof)]
def aav:Rng:=⟨⟨0,[],[],[]⟩,0,[],[]⟩
def yf(b:List Nat):Man×Int:=
 if(blk b 268435456).2.1≠0 then Fr (blk b 268435456).2.1 else if(blk b 268435456).1.length<32 then Fr 2
 else kz ((blk b 268435456).1.take ((blk b 268435456).1.length-32))
def fw(q:List Nat)(n:Nat):Nat×Nat×Int×List Nat:=
 if(a6 q).2.2≠0 then(0,0,(a6 q).2.2,q.drop (a6 q).2.1)
 else if(a6 (q.drop (a6 q).2.1)).2.2≠0 then(0,0,(a6 (q.drop (a6 q).2.1)).2.2,(q.drop (a6 q).2.1).drop (a6 (q.drop (a6 q).2.1)).2.1)
 else if n≤(a6 q).1∨n-(a6 q).1≤(a6 (q.drop (a6 q).2.1)).1 then(0,0,3,(q.drop (a6 q).2.1).drop (a6 (q.drop (a6 q).2.1)).2.1)
 else((a6 q).1,(a6 (q.drop (a6 q).2.1)).1,0,(q.drop (a6 q).2.1).drop (a6 (q.drop (a6 q).2.1)).2.1)
def rx:Nat→List (List Nat)→List Nat→List (List Nat)×List Nat×Int
 |0,bc,q=>(bc,q,0)
 |n+1,bc,q=>if 32≤q.length then rx n (bc++[q.take 32]) (q.drop 32)else([],q,2)
def Ap(q:List Nat):List (List Nat)×Int×List Nat:=
 if(a6 q).2.2≠0 then([],(a6 q).2.2,q.drop (a6 q).2.1)else if 64<(a6 q).1 then([],3,q.drop (a6 q).2.1)
 else if(rx (a6 q).1 [] (q.drop (a6 q).2.1)).2.2≠0 then([],(rx (a6 q).1 [] (q.drop (a6 q).2.1)).2.2,(rx (a6 q).1 [] (q.drop (a6 q).2.1)).2.1)
 else((rx (a6 q).1 [] (q.drop (a6 q).2.1)).1,if(rx (a6 q).1 [] (q.drop (a6 q).2.1)).2.1=[]then 0 else 3,(rx (a6 q).1 [] (q.drop (a6 q).2.1)).2.1)
def Vm(m:Man)(i:Nat)(C:List (List Nat)×List Nat×Int):Rng×Int:=
 if C.2.2≠0 then(aav,C.2.2)else if(Ap C.2.1).2.1≠0 then(aav,(Ap C.2.1).2.1)else(⟨m,i,C.1,(Ap C.2.1).1⟩,0)
def Vn(m:Man)(q:List Nat):Rng×Int:=
 if(fw q m.es.length).2.2.1≠0 then(aav,(fw q m.es.length).2.2.1)
 else Vm m (fw q m.es.length).1 (ir ((m.es.drop (fw q m.es.length).1).take ((fw q m.es.length).2.1+1)) [] (fw q m.es.length).2.2.2)
def Ll(b:List Nat):Rng×Int:=
 if(yf b).2≠0 then(aav,(yf b).2)else Vn (yf b).1 (blk b 268435456).2.2
theorem Wq{q:List Nat}{n:Nat}:(fw q n).2.2.1=0→(fw q n).1+(fw q n).2.1<n:=by
 unfold fw;split
 ·rename_i h;intro h';exact absurd h' h
 ·split
  ·rename_i h;intro h';exact absurd h' h
  ·split
   ·intro h';simp at h'
   ·rename_i h;intro _;simp only;omega
theorem T8{q:List Nat}{n:Nat}(h:∀x∈q,x<256):(∀x∈(fw q n).2.2.2,x<256)∧(fw q n).2.2.2.length≤q.length:=by
 have h1:∀k,∀x∈q.drop k,x<256:=fun k x hx=>h x (z08 hx)
 have h2:∀k l,∀x∈(q.drop k).drop l,x<256:=fun k l x hx=>h1 k x (z08 hx)
 unfold fw;split
 ·exact⟨h1 _,by simp only[z03];omega⟩
 ·split
  ·exact⟨h2 _ _,by simp only[z03];omega⟩
  ·split
   ·exact⟨h2 _ _,by simp only[z03];omega⟩
   ·exact⟨h2 _ _,by simp only[z03];omega⟩
end Go.Ck
