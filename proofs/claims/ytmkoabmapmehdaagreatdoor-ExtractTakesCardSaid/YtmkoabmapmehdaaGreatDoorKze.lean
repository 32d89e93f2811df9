/- What is proved here: parts of the proofs of this seat's statements (a verified evaluator for calls over pure values, its laws, and contracts of functions). No condition. -/
import Derived.Test.YtmkoabmapmehdaaGreatDoorKzd
import Derived.Test.YtmkoabmapmehdaaGreatDoorKzb
import Derived.Test.YtmkoabmapmehdaaGreatDoorKy
set_option linter.all false
open List renaming take_of_length_le→z00,getElem_mem→z02,length_take→z04,append_nil→z05,mem_of_mem_take→z06,flatMap_append→z08,length_append→z10,flatMap_nil→z11,nil_append→z13
open Nat renaming zero_le→z01,le_refl→z03,pow_le_pow_right→z07,mul_le_mul→z14,mul_assoc→z15,zero_add→z16,pow_succ→z17,add_zero→z18
open Int renaming tdiv→z09,toNat_natCast→z12,tmod→z19
namespace Go.Ck
def ky(ls:List (List Nat))(i j lo hi:Nat)(sh:Bool)(ps:List (List Nat)):List Nat×Bool×List (List Nat):=
 if j<lo∨hi≤i then(match ps with|[]=>([],true,[])|p::r=>(p,sh,r))
 else if i≤lo∧hi≤j+1 then(mroot ((ls.drop (lo-i)).take (hi-lo)),sh,ps)
 else if h:hi≤lo+1 then([],sh,ps)
 else
  let a:=ky ls i j lo (lo+co (hi-lo)) sh ps
  let b:=ky ls i j (lo+co (hi-lo)) hi a.2.1 a.2.2
  if b.2.1=true then([],b.2)else(kf a.1 b.1,b.2)
termination_by hi-lo
decreasing_by
 ·have:=iv (n:=hi-lo) (by omega);omega
 ·have:=fq (hi-lo);omega
theorem Cy{ls:List (List Nat)}{i j lo hi:Nat}{sh:Bool}{ps:List (List Nat)}(h1:¬(j<lo∨hi≤i))(h2:¬(i≤lo∧hi≤j+1))(h3:¬hi≤lo+1){a b:List Nat×Bool×List (List Nat)}
  (ha:ky ls i j lo (lo+co (hi-lo)) sh ps=a) (hb:ky ls i j (lo+co (hi-lo)) hi a.2.1 a.2.2=b):ky ls i j lo hi sh ps=if b.2.1=true then([],b.2)else(kf a.1 b.1,b.2):=by
 conv=>lhs;unfold ky
 rw[if_neg h1,if_neg h2,dif_neg h3];subst ha;subst hb;rfl
theorem sq{ls:List (List Nat)}{i j:Nat}{N:Nat}(hN:32≤N)(hl:BN N ls):∀(n lo hi:Nat) (sh:Bool) (ps:List (List Nat)),hi-lo≤n→BN N ps→(ky ls i j lo hi sh ps).1.length≤N∧BN N (ky ls i j lo hi sh ps).2.2
 |n,lo,hi,sh,ps,hn,hp=>by
  by_cases h1:j<lo∨hi≤i
  ·unfold ky;rw[if_pos h1];cases ps with
   |nil=>exact⟨z01 _,hp⟩
   |cons p r=>exact⟨(hp p (by simp)).2,fun x hx=>hp x (List.mem_cons_of_mem _ hx)⟩
  by_cases h2:i≤lo∧hi≤j+1
  ·unfold ky;rw[if_neg h1,if_pos h2];exact⟨(((hl.drop _).take _).mroot hN).2,hp⟩
  by_cases h3:hi≤lo+1
  ·unfold ky;rw[if_neg h1,if_neg h2,dif_pos h3];exact⟨z01 _,hp⟩
  have k1:=iv (n:=hi-lo) (by omega)
  have k2:=fq (hi-lo)
  match n,hn with
  |0,hn=>omega
  |n+1,hn=>
   generalize ha:ky ls i j lo (lo+co (hi-lo)) sh ps=a;generalize hb:ky ls i j (lo+co (hi-lo)) hi a.2.1 a.2.2=b;have e1:=sq (ls:=ls) (i:=i) (j:=j) hN hl n lo (lo+co (hi-lo)) sh ps (by omega) hp
   rw[ha]at e1;have e2:=sq (ls:=ls) (i:=i) (j:=j) hN hl n (lo+co (hi-lo)) hi a.2.1 a.2.2 (by omega) e1.2
   rw[hb]at e2;rw[Cy h1 h2 h3 ha hb];split
   ·exact⟨z01 _,e2.2⟩
   ·exact⟨by rw[zy];exact hN,e2.2⟩
theorem En{ls:List (List Nat)}{i j:Nat}:∀(n lo hi:Nat),hi-lo≤n→(ky ls i j lo hi true []).2=(true,[])
 |n,lo,hi,hn=>by
  by_cases h1:j<lo∨hi≤i
  ·unfold ky;rw[if_pos h1]
  by_cases h2:i≤lo∧hi≤j+1
  ·unfold ky;rw[if_neg h1,if_pos h2]
  by_cases h3:hi≤lo+1
  ·unfold ky;rw[if_neg h1,if_neg h2,dif_pos h3]
  have k1:=iv (n:=hi-lo) (by omega)
  have k2:=fq (hi-lo)
  match n,hn with
  |0,hn=>omega
  |n+1,hn=>
   have e1:=En (ls:=ls) (i:=i) (j:=j) n lo (lo+co (hi-lo)) (by omega)
   have e2:=En (ls:=ls) (i:=i) (j:=j) n (lo+co (hi-lo)) hi (by omega)
   rw[Cy h1 h2 h3 rfl rfl,e1];simp only;rw[e2,if_pos rfl]
theorem Eo{ls:List (List Nat)}{i j:Nat}:∀(n lo hi:Nat) (ps:List (List Nat)),hi-lo≤n→
  (match lt ls i j lo hi ps with|none=>(ky ls i j lo hi false ps).2=(true,[])|some (r,rest)=>ky ls i j lo hi false ps=(r,false,rest))
 |n,lo,hi,ps,hn=>by
  by_cases h1:j<lo∨hi≤i
  ·unfold ky lt;rw[if_pos h1,if_pos h1]
   cases ps<;>rfl
  by_cases h2:i≤lo∧hi≤j+1
  ·unfold ky lt;rw[if_neg h1,if_neg h1,if_pos h2,if_pos h2]
  by_cases h3:hi≤lo+1
  ·unfold ky lt;rw[if_neg h1,if_neg h1,if_neg h2,if_neg h2,dif_pos h3,dif_pos h3]
  have k1:=iv (n:=hi-lo) (by omega)
  have k2:=fq (hi-lo)
  match n,hn with
  |0,hn=>omega
  |n+1,hn=>
   have e1:=Eo (ls:=ls) (i:=i) (j:=j) n lo (lo+co (hi-lo)) ps (by omega)
   have hm:lt ls i j lo hi ps=(match lt ls i j lo (lo+co (hi-lo)) ps with
    |none=>none
    |some (l,r1)=>(match lt ls i j (lo+co (hi-lo)) hi r1 with
     |none=>none
     |some (r,r2)=>some (kf l r,r2))):=by
    conv=>lhs;unfold lt
    rw[if_neg h1,if_neg h2,dif_neg h3];rfl
   rw[hm,Cy h1 h2 h3 rfl rfl];cases he:lt ls i j lo (lo+co (hi-lo)) ps with
   |none=>
    rw[he]at e1;simp only at e1⊢;rw[e1];simp only;rw[En _ _ _ (z03 _),if_pos rfl]
   |some x=>
    obtain⟨l,r1⟩:=x;rw[he]at e1;simp only at e1⊢;rw[e1];simp only;have e2:=Eo (ls:=ls) (i:=i) (j:=j) n (lo+co (hi-lo)) hi r1 (by omega)
    cases he2:lt ls i j (lo+co (hi-lo)) hi r1 with
    |none=>
     rw[he2]at e2;simp only at e2⊢;rw[e2,if_pos rfl]
    |some y=>
     obtain⟨r,r2⟩:=y;rw[he2]at e2;simp only at e2⊢;rw[e2,if_neg (by simp)]
set_option maxRecDepth 100000
set_option maxHeartbeats 400000
open Go.Proofs
theorem ahe:gq Tryz.prog 150=some (1,false):=by kernel_rfl
theorem ag2:io Tryz.prog 150=some [.pv .nilf]:=by kernel_rfl
attribute [go_sem] ahe ag2
def akx(ls:List (List Nat))(i j:Nat)(sh:Bool)(ps:List (List Nat)):List (Nat×HO):=[(1001,.cells 3 [.pv (.int .i64 (i:Int))]),(1002,.cells 3 [.pv (.int .i64 (j:Int))]),(1003,.cells 28 [.pv (.sl 1 (az ps))]),(1004,.cells 4 [.pv (.bool sh)]),(1005,.cells 28 [.pv (.sl 1 (az ls))]),(1006,.cells 150 [.fn 108 [.ptr 1001 0,.ptr 1002 0,.ptr 1003 0,.ptr 1004 0,.ptr 1005 0,.ptr 1006 0]])]
attribute [go_sem] akx
theorem aow(ls:List (List Nat))(i j:Nat)(hll:ls.length≤2^38)(hx:BN (2^27) ls)(hjl:j+1≤i+ls.length)(hj:j<2^40)(n:Nat):∀(lo hi:Nat) (sh:Bool) (ps:List (List Nat)),hi-lo=n→lo<hi→hi≤2^40→BN (2^27) ps→i≤j→
  Fn Tryz.prog 108 (akx ls i j sh ps) [.pv (Qt lo hi),.ptr 1001 0,.ptr 1002 0,.ptr 1003 0,.ptr 1004 0,.ptr 1005 0,.ptr 1006 0] (fun rs H'=>rs=[.pv (.sl 1 (bytes (ky ls i j lo hi sh ps).1))]∧H'=akx ls i j (ky ls i j lo hi sh ps).2.1 (ky ls i j lo hi sh ps).2.2):=by
 induction n using Nat.strongRecOn with
 |_ n ih=>
  intro lo hi sh ps hn hlo hhi hps hij;refine Fn.ob Tryz.f108 59 [.tmp 8] fun C=> ?_
  have hr:aw=140737488355328:=rfl;have hW:=Lr lo hi i j (by omega) (by omega)
  have hA:=S9 lo hi i j (by omega) (by omega)
  by_cases h1:j<lo∨hi≤i
  ·rw[decide_eq_true h1]at hA;unfold Qt at hW hA⊢;cases ps with
   |nil=>
    have e1:ky ls i j lo hi sh []=([],true,[]):=by unfold ky;rw[if_pos h1]
    rw[e1];have d0:(((az []).length:Int)==0)=true:=rfl;have d0':((az []).length==0)=true:=rfl;refine aa ?_;refine ap hA (.pv _ (.pv _ (.pv _ .nil))) ?_;refine aa ?_;refine am rfl ?_;refine aa ?_ (by simp only[go_sem,↓reduceIte,d0,d0']<;>rfl)
    refine am rfl ?_;refine aa ?_;refine ac (.lend rfl c7 .nil) rfl
   |cons p r=>
    have e1:ky ls i j lo hi sh (p::r)=(p,sh,r):=by unfold ky;rw[if_pos h1]
    rw[e1];have d0:(((r.length+1:Nat):Int)==0)=false:=by rw[beq_eq_false_iff_ne];omega
    have hbl:(az (p::r)).length=r.length+1:=by rw[bf];rfl
    have d0':(r.length+1==0)=false:=by simp
    have g0:(az (p::r))[0]?=some (.sl 1 (bytes p)):=rfl;have hdr:(az (p::r)).drop 1=az r:=rfl;have htk:(az r).take r.length=az r:=z00 (by rw[bf];exact z03 _)
    have l0:(0<r.length+1)=True:=eq_true (by omega)
    have l1:(1≤r.length+1)=True:=eq_true (by omega)
    have l1i:((1:Int)≤((r.length+1:Nat):Int))=True:=eq_true (by omega)
    have hs1:(((r.length+1:Nat):Int)-1).toNat=r.length:=by omega
    unfold akx;generalize az (p::r)=LL at*;refine aa ?_;refine ap hA (.pv _ (.pv _ (.pv _ .nil))) ?_;refine aa ?_;refine am rfl ?_;refine aa ?_ (by simp only[go_sem,↓reduceIte,hbl,d0,d0']<;>rfl)
    refine ae rfl ?_;refine aa ?_ (by simp only[go_sem,↓reduceIte,hbl,g0,l0,l1,hdr,htk,hs1,l1i]<;>rfl)
    refine ac (.pv _ .nil) rfl
  rw[decide_eq_false h1]at hA;by_cases h2:i≤lo∧hi≤j+1
  ·rw[decide_eq_true h2]at hW;have e1:ky ls i j lo hi sh ps=(mroot ((ls.drop (lo-i)).take (hi-lo)),sh,ps):=by unfold ky;rw[if_neg h1,if_pos h2]
   rw[e1];have hroot:=Rl ((ls.drop (lo-i)).take (hi-lo)) (by rw[z04,List.length_drop];omega) ((hx.drop _).take _)
   have w1:IntKind.i64.wrap ((lo:Int)-(i:Int))=((lo-i:Nat):Int):=by rw[an (by omega) (by omega)];omega
   have w2:IntKind.i64.wrap ((hi:Int)-(i:Int))=((hi-i:Nat):Int):=by rw[an (by omega) (by omega)];omega
   have k1:(lo-i≤hi-i)=True:=eq_true (by omega)
   have k2:(hi-i≤ls.length)=True:=eq_true (by omega)
   have hdr:=pt ls (lo-i);have hsub:(((hi-i:Nat):Int)-((lo-i:Nat):Int)).toNat=hi-lo:=by omega
   have htk:=ng (ls.drop (lo-i)) (hi-lo);unfold Qt at hW hA⊢;refine aa ?_;refine ap hA (.pv _ (.pv _ (.pv _ .nil))) ?_;refine aa ?_;refine ae rfl ?_;refine aa ?_;refine ap hW (.pv _ (.pv _ (.pv _ .nil))) ?_;refine aa ?_;refine am rfl ?_;refine aa ?_ (by simp only[go_sem,↓reduceIte,bf,w1,w2,k1,k2,hdr,hsub,htk]<;>rfl)
   refine ap hroot (.pv _ .nil) ?_;refine aa ?_;refine ac (.pv _ .nil) rfl
  rw[decide_eq_false h2]at hW;have h3:¬hi≤lo+1:=by omega
  have hh:=iv (n:=hi-lo) (by omega)
  have hp:=fq (hi-lo);generalize ha:ky ls i j lo (lo+co (hi-lo)) sh ps=a;generalize hb:ky ls i j (lo+co (hi-lo)) hi a.2.1 a.2.2=b;have hB:=sq (ls:=ls) (i:=i) (j:=j) (N:=2^27) (by decide) hx _ lo (lo+co (hi-lo)) sh ps (z03 _) hps
  rw[ha]at hB;have hB2:=sq (ls:=ls) (i:=i) (j:=j) (N:=2^27) (by decide) hx _ (lo+co (hi-lo)) hi a.2.1 a.2.2 (z03 _) hB.2
  rw[hb]at hB2;have hfA:=ih (co (hi-lo)) (by omega) lo (lo+co (hi-lo)) sh ps (by omega) (by omega) (by omega) hps hij
  have hfB:=ih (hi-(lo+co (hi-lo))) (by omega) (lo+co (hi-lo)) hi a.2.1 a.2.2 rfl (by omega) hhi hB.2 hij
  have hsp:=L6 lo hi (by omega) (by omega)
  rw[Cy h1 h2 h3 ha hb];rw[ha]at hfA;rw[hb]at hfB;generalize co (hi-lo)=k at*;obtain⟨x1,x2,x3⟩:=a;obtain⟨y1,y2,y3⟩:=b;simp only at hfA hfB hB hB2⊢;unfold Qt at hW hA hsp hfA hfB⊢;refine aa ?_;refine ap hA (.pv _ (.pv _ (.pv _ .nil))) ?_;refine aa ?_;refine ae rfl ?_;refine aa ?_;refine ap hW (.pv _ (.pv _ (.pv _ .nil))) ?_;refine aa ?_;refine ae rfl ?_;refine aa ?_;refine ap hsp (.pv _ .nil) ?_;refine aa ?_;refine av (fun o=>o) hfA (.pv _ (.ptr rfl (.ptr rfl (.ptr rfl (.ptr rfl (.ptr rfl (.ptr rfl .nil))))))) ?_
  refine aa ?_;refine av (fun o=>o) hfB (.pv _ (.ptr rfl (.ptr rfl (.ptr rfl (.ptr rfl (.ptr rfl (.ptr rfl .nil))))))) ?_
  refine aa ?_;cases y2 with
  |true=>
   rw[if_pos rfl];refine am rfl ?_;refine aa ?_;refine ac (.lend rfl c7 .nil) rfl
  |false=>
   rw[if_neg (by simp)]
   refine ae rfl ?_;refine aa ?_;refine ap (Ru x1 y1 (by omega) (by omega)) (.pv _ (.pv _ .nil)) ?_
   refine aa ?_;refine ac (.pv _ .nil) rfl
theorem T6(n i:Int)(ls ps:List (List Nat))(hll:ls.length≤2^38)(hx:BN (2^27) ls)(hps:BN (2^27) ps)(hpl:ps.length≤2^40)(hn:n≤2^62)(hi: -(2^62)≤i∧i≤2^62):Fn Tryz.prog 73 [] [.pv (.int .i64 n),.pv (.int .i64 i),.pv (.sl 1 (az ls)),.pv (.sl 1 (az ps))] (fun rs H'=>rs=[.pv (.sl 1 (bytes (gm n i ls ps).1)),.pv (.int .i64 (gm n i ls ps).2)]∧H'=[]):=by
 refine Fn.ob Tryz.f73 60 [.tmp 8,.tmp 9] fun C=> ?_
 have hr:aw=140737488355328:=rfl;have hemp:(ls=[])=(ls.length=0):=by rw[List.length_eq_zero_iff]
 by_cases hbad:n<1∨1048576<n∨ls=[]∨i<0∨n≤i∨n-i<ls.length
 ·have e:gm n i ls ps=([],1):=by unfold gm;rw[if_pos hbad]
  rw[e];rw[hemp]at hbad;refine Aj (T:= ?T1) (fun hT=> ?_) ?_;rotate_left
  ·by_cases h1:n<1
   ·have d1:decide (n<1)=true:=decide_eq_true h1;refine ak ?_ (by simp only[go_sem,↓reduceIte,d1]<;>rfl)
    refine bq [41] [] (s':=⟨60,[(41,.pv (.bool true))],[]⟩) ?_;exact hT ()
   have d1:decide (n<1)=false:=decide_eq_false h1;by_cases h2:1048576<n
   ·have d2:decide (n>1048576)=true:=decide_eq_true h2;have d2':decide (1048576<n)=true:=decide_eq_true h2;refine ak ?_ (by simp only[go_sem,↓reduceIte,d1,d2,d2']<;>rfl)
    refine bq [41] [] (s':=⟨60,[(41,.pv (.bool true))],[]⟩) ?_;exact hT ()
   have d2:decide (n>1048576)=false:=decide_eq_false h2;have d2':decide (1048576<n)=false:=decide_eq_false h2;by_cases h3:ls.length=0
   ·have d3:((ls.length:Int)==0)=true:=by simp[h3]
    have d3':(ls.length==0)=true:=by simp[h3]
    refine ak ?_ (by simp only[go_sem,↓reduceIte,bf,d1,d2,d2',d3,d3']<;>rfl)
    refine bq [41] [] (s':=⟨60,[(41,.pv (.bool true))],[]⟩) ?_;exact hT ()
   have d3:((ls.length:Int)==0)=false:=by rw[beq_eq_false_iff_ne];omega
   have d3':(ls.length==0)=false:=by rw[beq_eq_false_iff_ne];omega
   by_cases h4:i<0
   ·have d4:decide (i<0)=true:=decide_eq_true h4;refine ak ?_ (by simp only[go_sem,↓reduceIte,bf,d1,d2,d2',d3,d3',d4]<;>rfl)
    refine bq [41] [] (s':=⟨60,[(41,.pv (.bool true))],[]⟩) ?_;exact hT ()
   have d4:decide (i<0)=false:=decide_eq_false h4;by_cases h5:n≤i
   ·have d5:decide (i≥n)=true:=decide_eq_true h5;have d5':decide (n≤i)=true:=decide_eq_true h5;refine ak ?_ (by simp only[go_sem,↓reduceIte,bf,d1,d2,d2',d3,d3',d4,d5,d5']<;>rfl)
    refine bq [41] [] (s':=⟨60,[(41,.pv (.bool true))],[]⟩) ?_;exact hT ()
   have d5:decide (i≥n)=false:=decide_eq_false h5;have d5':decide (n≤i)=false:=decide_eq_false h5;have w1:IntKind.i64.wrap (n-i)=n-i:=an (by omega) (by omega)
   have d6:decide ((ls.length:Int)>n-i)=true:=decide_eq_true (by omega)
   have d6':decide (n-i<(ls.length:Int))=true:=decide_eq_true (by omega)
   refine ak ?_ (by simp only[go_sem,↓reduceIte,bf,d1,d2,d2',d3,d3',d4,d5,d5',w1,d6,d6']<;>rfl)
   refine bq [41] [] (s':=⟨60,[(41,.pv (.bool true))],[]⟩) ?_;exact hT ()
  refine am rfl ?_;refine aa ?_;refine ac (.lend rfl c7 (.pv _ .nil)) rfl
 have e:gm n i ls ps=(match lt ls i.toNat (i.toNat+ls.length-1) 0 n.toNat ps with|some (r,[])=>(r,0)|_=>([],8)):=by unfold gm;rw[if_neg hbad];rfl
 rw[e];rw[hemp]at hbad;obtain⟨a,rfl⟩:∃a:Nat,i=(a:Int):=⟨i.toNat,by omega⟩
 obtain⟨m,rfl⟩:∃m:Nat,n=(m:Int):=⟨n.toNat,by omega⟩
 rw[z12,z12];have hw:=aow ls a (a+ls.length-1) hll hx (by omega) (by omega) m 0 m false ps (by omega) (by omega) (by omega) hps (by omega)
 have hmade:=Eo (ls:=ls) (i:=a) (j:=a+ls.length-1) m 0 m ps (z03 _);have hbd:=sq (ls:=ls) (i:=a) (j:=a+ls.length-1) (N:=2^27) (by decide) hx m 0 m false ps (z03 _) hps
 have d1:decide ((m:Int)<1)=false:=decide_eq_false (by omega)
 have d1':decide (m<1)=false:=decide_eq_false (by omega)
 have d2:decide ((m:Int)>1048576)=false:=decide_eq_false (by omega)
 have d2':decide (1048576<m)=false:=decide_eq_false (by omega)
 have d3:((ls.length:Int)==0)=false:=by rw[beq_eq_false_iff_ne];omega
 have d3':(ls.length==0)=false:=by rw[beq_eq_false_iff_ne];omega
 have d4:decide ((a:Int)<0)=false:=decide_eq_false (by omega)
 have d5:decide ((a:Int)≥(m:Int))=false:=decide_eq_false (by omega)
 have d5':decide (m≤a)=false:=decide_eq_false (by omega)
 have w1:IntKind.i64.wrap ((m:Int)-(a:Int))=((m-a:Nat):Int):=by rw[an (by omega) (by omega)];omega
 have d6:decide ((ls.length:Int)>((m-a:Nat):Int))=false:=decide_eq_false (by omega)
 have d6':decide (m-a<ls.length)=false:=decide_eq_false (by omega)
 have w2:IntKind.i64.wrap ((a:Int)+(ls.length:Int))=((a+ls.length:Nat):Int):=au (n:=a+ls.length) (by omega)
 have w3:IntKind.i64.wrap (((a+ls.length:Nat):Int)-1)=((a+ls.length-1:Nat):Int):=by rw[an (by omega) (by omega)];omega
 generalize a+ls.length-1=b at*;unfold Qt at hw;refine ak ?_ (by simp only[go_sem,↓reduceIte,bf,d1,d1',d2,d2',d3,d3',d4,d5,d5',w1,d6,d6']<;>rfl)
 refine ae rfl ?_;refine aa ?_ (by simp only[go_sem,↓reduceIte,bf,w2,w3]<;>rfl)
 refine av (fun o=>if o=1001 then 5 else if o=1002 then 10 else if o=1003 then 7 else if o=1004 then 11 else if o=1005 then 6 else 12) hw (.pv _ (.ptr rfl (.ptr rfl (.ptr rfl (.ptr rfl (.ptr rfl (.ptr rfl .nil))))))) ?_
 generalize ky ls a b 0 m false ps=z at*;obtain⟨z1,z2,z3⟩:=z;simp only at hmade hbd⊢;cases z2 with
 |true=>
  have e2:(match lt ls a b 0 m ps with|some (r,[])=>(r,(0:Int))|_=>([],8))=([],8):=by
   cases hm:lt ls a b 0 m ps with
   |none=>rfl
   |some x=>obtain⟨r,rest⟩:=x;rw[hm]at hmade;simp at hmade
  rw[e2];refine ak ?_;refine am rfl ?_;refine aa ?_;refine ac (.lend rfl c7 (.pv _ .nil)) rfl
 |false=>
  obtain⟨x,hm⟩:∃x,lt ls a b 0 m ps=some x:=by
   cases hm:lt ls a b 0 m ps with
   |none=>rw[hm]at hmade;simp at hmade
   |some x=>exact⟨x,rfl⟩
  obtain⟨r,rest⟩:=x;rw[hm]at hmade⊢;simp only[Prod.mk.injEq,true_and]at hmade;obtain⟨rfl,rfl⟩:=hmade;cases z3 with
  |nil=>
   have hnl:(az []).length=0:=rfl;refine ak ?_ (by simp only[go_sem,↓reduceIte,hnl]<;>rfl)
   refine ae rfl ?_;refine aa ?_;refine ap (Jq z1 (by omega)) (.pv _ .nil) ?_
   refine aa ?_;refine ac (.pv _ (.pv _ .nil)) rfl
  |cons p r=>
   have dd:decide (((r.length+1:Nat):Int)>0)=true:=decide_eq_true (by omega)
   have dd':decide (0<r.length+1)=true:=decide_eq_true (by omega)
   have hbl:(az (p::r)).length=r.length+1:=by rw[bf];rfl
   refine ak ?_ (by simp only[go_sem,↓reduceIte,hbl,dd,dd']<;>rfl)
   refine am rfl ?_;refine aa ?_;refine ac (.lend rfl c7 (.pv _ .nil)) rfl
theorem ju(v:Nat)(hv:v<2^64):Fn Tryz.prog 167 [] [.pv (.int .u64 v)] (fun rs H'=>rs=[.pv (.int .i64 (dg v:Nat))]∧H'=[]):=by
 refine Fn.ob Tryz.f167 11 [.tmp 2] fun C=> ?_
 have h64:=fh.2 hv;refine aa ?_;refine aq (fun a:Nat×Nat=>⟨11,[(0,.pv (.int .u64 a.1)),(3,.pv (.int .i64 a.2))],[]⟩) (fun a=>a.2+dg a.1=dg v) (fun a=>a.1) [0,3] [] (v,0) (by simp) ?_
 rintro⟨u,m⟩ h K hK;simp only at h;refine aa ?_;refine AW.cond rfl (fun hc=> ?_) (fun hc=> ?_)
 ·have h0:u≠0:=by simp at hc;omega
  rw[Dk h0]at h;have e2:z09 (u:Int) 2=((u/2:Nat):Int):=rfl;have hu:u<2^64∨¬u<2^64:=by omega
  have e3:IntKind.i64.wrap ((m:Int)+1)=((m+1:Nat):Int):=ai (by omega)
  have e4:IntKind.u64.wrap ((u/2:Nat):Int)=((u/2:Nat):Int):=by
   have:=fh (v:=u/2) (n:=64);exact ay (this.1 (by omega))
  refine aa ?_ (by simp only[go_sem,↓reduceIte,e2,e3,e4]<;>rfl)
  refine ah hK (u/2,m+1) (by simp only;omega) (by simp only;omega)
 ·have h0:u=0:=by simp at hc;omega
  subst h0;rw[Ag,z18]at h;subst h;refine aa ?_;refine ac (.pv _ .nil) rfl
theorem Mc(bs:List Nat)(v n:Nat)(hn:n≤64)(hv:v<2^n)(hl:(bs.length+n)*8≤aw):Fn Tryz.prog 164 [] [.pv (.sl 1 (ct bs)),.pv (.int .u64 v),.pv (.int .i64 n)]
  (fun rs H'=>rs=[.own 3 (ct (bs++js v n)),.pv (.int .i64 0)]∧H'=[]):=by
 refine Fn.ob Tryz.f164 42 [.tmp 6,.tmp 7] fun C=> ?_
 have hv64:v<2^64:=Nat.lt_of_lt_of_le hv (z07 (by omega) hn)
 have hbl:=fh.2 hv;have hg:decide ((n:Int)>64)=false:=by simp;omega
 have hg2:decide (n<dg v)=false:=by simp;omega
 refine ak ?_ (by simp only[go_sem,↓reduceIte,hg]<;>rfl)
 refine iq rfl rfl ?_;refine ap (ju v hv64) (.pv _ .nil) ?_;refine ak ?_ (by simp only[go_sem,↓reduceIte,hg2]<;>rfl)
 refine ae rfl ?_;have hbs:bs.length*8≤aw:=by omega
 have hbs2:bs.length≤aw:=by omega
 refine aa ?_ (by simp only[go_sem,↓reduceIte,z16,z13,hbs,hbs2]<;>rfl)
 refine aq (fun a:List Nat×Nat=>⟨42,[(8,.own 3 (ct a.1)),(9,.pv (.int .i64 ((a.2:Int)-1))),(1,.pv (.int .u64 v))],[]⟩) (fun a=>a.1++js v a.2=bs++js v n∧a.2≤n) (fun a=>a.2) [8,9,1] [] (bs,n) ⟨rfl,z03 _⟩ ?_ (by simp only[go_sem,↓reduceIte]) (by simp only[go_sem,↓reduceIte];rw[an (by omega) (by omega)]<;>rfl)
 rintro⟨o,j⟩ ⟨ho,hj⟩ K hK;simp only at ho hj;have hol:o.length+j=bs.length+n:=by have:=congrArg List.length ho;simpa[kn]using this
 refine aa ?_;refine AW.cond rfl (fun hc=> ?_) (fun hc=> ?_)
 ·cases j with
  |zero=>simp at hc
  |succ j=>
   have e0:(((j+1:Nat):Int)-1)=(j:Nat):=by omega
   have e2:IntKind.u64.wrap ((j:Nat):Int)=(j:Nat):=ay (by omega)
   have e4:IntKind.i64.wrap ((j:Int)-1)=(j:Int)-1:=an (by omega) (by omega)
   have e3:IntKind.i64.wrap (ef .and .u64 (mo .u64 (v:Int) (j:Nat)) 1)=((v/2^j % 2:Nat):Int):=by
    rw[j7 .u64 v _ (by show j≤64;omega),aai (Nat.lt_of_le_of_lt (Nat.div_le_self _ _) hv64),au (by omega)]
   have h1:(o.length+1)*8≤aw:=by omega
   have h2:o.length+1≤aw:=by omega
   refine aa ?_ (by simp only[go_sem,↓reduceIte,e0,e2,e3,e4,th,h1,h2]<;>rfl)
   refine ah hK (o++[v/2^j % 2],j) ⟨?_,by simp only;omega⟩ (by simp only;omega)
   rw[←ho,Nm];simp
 ·cases j with
  |zero=>
   simp only[js,z05]at ho;refine aa ?_;rw[ho];refine ac (.move rfl (.pv _ .nil)) rfl
  |succ j=>exact absurd hc (by simp)
theorem Bi(l:List Nat)(hl:l.length≤aw)(hb:∀x∈l,x<2):Fn Tryz.prog 165 [] [.pv (.sl 1 (ct l))] (fun rs H'=>rs=[.own 5 (bytes (pk l))]∧H'=[]):=by
 refine Fn.ob Tryz.f165 54 [.tmp 2] fun C=> ?_
 have hr:aw<2^62:=by decide
 have d8:∀n:Nat,n≤aw→IntKind.i64.wrap (z09 (n:Int) 8)=((n/8:Nat):Int):=fun n hn=>by
  rw[show z09 ((n:Nat):Int) 8=((n/8:Nat):Int)from rfl];exact au (by omega)
 have hm8:∀n:Nat,z19 (n:Int) 8=((n % 8:Nat):Int):=fun n=>rfl
 have b00:[PV.int .u8 0]=bytes [0]:=rfl;refine aa ?_;refine aq (fun i:Nat=>⟨54,[(4,.pv (.int .i64 i)),(3,.own 5 (bytes (pr (l.take i)))),(0,.pv (.sl 1 (ct l)))],[]⟩) (fun i=>i≤l.length) (fun i=>l.length-i) [4,3,0] [] 0 (z01 _) ?_
 rintro i hi K hK;refine aa ?_;refine AW.cond rfl (fun hc=> ?_) (fun hc=> ?_)
 ·have hlt:i<l.length:=by simpa using hc
  have hx:=hb _ (z02 hlt);have hgl:=Zt hlt;have hti:l.take (i+1)=l.take i++[l[i]]:=by simp
  have htl:(l.take i).length=i:=by simp;omega
  have hpl:=Eg (l.take i);generalize l[i]=b at*;have hsp:=ah5 (l.take i) b (fun x hx=>hb x (z06 hx)) hx
  rw[htl,←hti]at hsp;obtain⟨a1,a2,a3,a4⟩:=hsp;have hA:prA (l.take i)=if i % 8=0 then pr (l.take i)++[0]else pr (l.take i):=by unfold prA;rw[htl]
  refine aa ?_ (by simp only[go_sem,↓reduceIte,hm8]<;>rfl)
  refine pi (fun _:Unit=>⟨54,[(4,.pv (.int .i64 i)),(3,.own 5 (bytes (prA (l.take i)))),(0,.pv (.sl 1 (ct l)))],[]⟩) (fun _=>True) [4,3,0] [] ?_ ?_
  ·intro K hK;refine AW.cond rfl (fun hc2=> ?_) (fun hc2=> ?_)
   ·have h8:i % 8=0:=by simp at hc2;omega
    have hle:(pr (l.take i)).length+1≤aw:=by omega
    refine aa ?_ (by simp only[go_sem,↓reduceIte,hle]<;>rfl)
    refine jh hK () trivial (by simp only[go_sem,↓reduceIte]) (by simp only[go_sem,↓reduceIte,hA,h8,b00]<;>rfl)
   ·have h8:¬i % 8=0:=by simp at hc2;omega
    refine aa ?_;refine jh hK () trivial (by simp only[go_sem,↓reduceIte]) (by simp only[go_sem,↓reduceIte,hA,h8]<;>rfl)
  rintro _-;have hget:=rl a1;rw[pg]at hget;generalize hy:(prA (l.take i)).getD (i/8) 0=y at*;have hd:=d8 i (by omega)
  have e1:IntKind.u8.wrap (((y:Nat):Int)*2)=((y*2:Nat):Int):=fi (n:=y*2) (by omega)
  have e2:IntKind.u8.wrap ((b:Nat):Int)=(b:Nat):=fi (by omega)
  have e3:IntKind.u8.wrap (((y*2:Nat):Int)+(b:Nat))=((y*2+b:Nat):Int):=fi (n:=y*2+b) (by omega)
  have ei:IntKind.i64.wrap ((i:Int)+1)=((i+1:Nat):Int):=ai (by omega)
  refine aa ?_;refine u4 15 mixed (by decide+kernel) ?_ (by simp only[go_sem,↓reduceIte,hget,hgl,a1,hd,e1,e2,e3]<;>rfl)
  refine aa ?_ (by simp only[go_sem,↓reduceIte,hget,a1,hd,Ni,ei,←a4]<;>rfl)
  refine ah hK (i+1) hlt (by omega)
 ·have hge:¬i<l.length:=by simpa using hc
  rw[z00 (by omega)]
  have hpl:=Eg l;have hp2:=Q3 l hb;have hkp:=ah6 l;refine aa ?_;refine aq (fun m:Nat=>⟨54,[(5,.pv (.int .i64 m)),(3,.own 5 (bytes ((pr l).set (l.length/8) ((pr l).getD (l.length/8) 0*2^ (m-l.length)))))],[]⟩) (fun m=>l.length≤m∧m≤l.length+(8-l.length % 8) % 8) (fun m=>l.length+8-m) [5,3] [] l.length ⟨z03 _,by omega⟩ ?_ (by simp only[go_sem,↓reduceIte]) (by simp only[go_sem,↓reduceIte,Nat.sub_self,Nat.pow_zero,Nat.mul_one,ao7]<;>rfl)
  rintro m ⟨hm1,hm2⟩ K' hK';refine aa ?_ (by simp only[go_sem,↓reduceIte,hm8]<;>rfl)
  refine AW.cond rfl (fun hc2=> ?_) (fun hc2=> ?_)
  ·have h8:m % 8≠0:=by simp at hc2;omega
   generalize hz:(pr l).getD (l.length/8) 0=z at*;have hlt8:m-l.length+1≤8-l.length % 8:=by omega
   have hz2:z*2^ (m-l.length+1)<256:=by
    have hq:2^ (l.length % 8)*2^ (m-l.length+1)≤2^8:=by rw[←Nat.pow_add];exact z07 (by omega) (by omega)
    have:=Nat.mul_lt_mul_of_pos_right hp2.2 (Nat.two_pow_pos (m-l.length+1));omega
   rw[z17,←z15]at hz2;have hset:((pr l).set (l.length/8) (z*2^ (m-l.length))).length=(pr l).length:=by simp
   have hin:l.length/8<(pr l).length:=by omega
   have e1:IntKind.i64.wrap (((pr l).length:Int)-1)=((l.length/8:Nat):Int):=by rw[an (by omega) (by omega)];omega
   have hget:(bytes ((pr l).set (l.length/8) (z*2^ (m-l.length))))[l.length/8]?=some (.int .u8 ((z*2^ (m-l.length):Nat):Int)):=by simp[bytes,hin]
   have e2:IntKind.u8.wrap (((z*2^ (m-l.length):Nat):Int)*2)=((z*2^ (m-l.length)*2:Nat):Int):=fi (n:=z*2^ (m-l.length)*2) hz2;have ei:IntKind.i64.wrap ((m:Int)+1)=((m+1:Nat):Int):=ai (by omega)
   generalize hw:z*2^ (m-l.length)=w at*;refine aa ?_ (by simp only[go_sem,↓reduceIte,hset,e1,hin,hget,e2,Ni,ei]<;>rfl)
   refine ah hK' (m+1) ⟨by omega,by omega⟩ (by omega) (by simp only[go_sem,↓reduceIte]) (by simp only[go_sem,↓reduceIte,List.set_set];rw[show m+1-l.length=m-l.length+1 by omega,z17,←z15,hw]<;>rfl)
  ·have h8:m % 8=0:=by simp at hc2;omega
   have:m-l.length=(8-l.length % 8) % 8:=by omega
   rw[this,←hkp];refine aa ?_;refine ac (.move rfl .nil) rfl
theorem Rq(xs:List Nat)(v:Nat)(hl:xs.length≤aw):Fn Tryz.prog 162 [] [.pv (.sl 1 (dw xs)),.pv (.int .u64 v)] (fun rs H'=>rs=[.pv (.int .i64 (U6 v xs 0))]∧H'=[]):=by
 refine Fn.ob Tryz.f162 19 [.tmp 4] fun C=> ?_
 have hr:aw<2^62:=by decide
 refine aa ?_;refine aq (fun i:Nat=>⟨19,[(5,.pv (.int .i64 i)),(0,.pv (.sl 1 (dw xs))),(1,.pv (.int .u64 v))],[]⟩) (fun i=>i≤xs.length∧U6 v xs 0=U6 v (xs.drop i) i) (fun i=>xs.length-i) [5,0,1] [] 0 ⟨z01 _,rfl⟩ ?_
 rintro i ⟨hi,hidx⟩ K hK;refine aa ?_;refine AW.cond rfl (fun hb=> ?_) (fun hb=> ?_)
 ·have hlt:i<xs.length:=by simpa using hb
  have hget:=gh hlt;rw[List.drop_eq_getElem_cons hlt,U6]at hidx;generalize xs[i]=x at*;refine aa ?_ (by simp only[go_sem,↓reduceIte,hget]<;>rfl)
  refine AW.cond rfl (fun hb2=> ?_) (fun hb2=> ?_)
  ·have hx:x=v:=by simp at hb2;omega
   rw[if_pos hx]at hidx;refine aa ?_;refine ac (.pv _ .nil) ?_;rw[hidx]
  ·have hx:¬x=v:=by simp at hb2;omega
   rw[if_neg hx]at hidx;have ei:IntKind.i64.wrap ((i:Int)+1)=((i+1:Nat):Int):=ai (by omega)
   refine aa ?_ (by simp only[go_sem,↓reduceIte,ei]<;>rfl)
   refine ah hK (i+1) ⟨hlt,hidx⟩ (by omega)
 ·have hge:¬i<xs.length:=by simpa using hb
  refine aa ?_;refine ac (.pv _ .nil) ?_;rw[hidx,List.drop_eq_nil_of_le (by omega),U6]
theorem V0(n:Nat)(hn:n<2^63):Fn Tryz.prog 163 [] [.pv (.int .i64 n)] (fun rs H'=>rs=[.pv (.int .i64 (dg (n-1):Nat))]∧H'=[]):=by
 refine Fn.ob Tryz.f163 9 [.tmp 2] fun C=> ?_
 refine aa ?_;refine AW.cond rfl (fun hc=> ?_) (fun hc=> ?_)
 ·have h0:n=0:=by simp at hc;omega
  subst h0;rw[Nat.zero_sub,Ag];refine aa ?_;refine ac (.pv _ .nil) rfl
 ·have h0:n≠0:=by simp at hc;omega
  have e1:IntKind.u64.wrap (IntKind.i64.wrap ((n:Int)-1))=((n-1:Nat):Int):=by
   rw[an (by omega) (by omega),show((n:Int)-1)=((n-1:Nat):Int)by omega,ay (by omega)]
  refine aa ?_ (by simp only[go_sem,↓reduceIte,e1]<;>rfl)
  refine ap (ju (n-1) (by omega)) (.pv _ .nil) ?_
  refine aa ?_;refine ac (.pv _ .nil) rfl
theorem Iu(v:Nat)(h0:v≠0)(hv:v<2^64):Fn Tryz.prog 168 [] [.pv (.int .u64 v)] (fun rs H'=>rs=[.pv (.int .i64 (zi v:Nat))]∧H'=[]):=by
 refine Fn.ob Tryz.f168 12 [.tmp 2] fun C=> ?_
 have hlt:=N5 h0 hv;refine aa ?_;refine aq (fun a:Nat×Nat=>⟨12,[(0,.pv (.int .u64 a.1)),(3,.pv (.int .i64 a.2))],[]⟩) (fun a=>a.2+zi a.1=zi v∧a.1≠0∧a.1<2^64) (fun a=>a.1) [0,3] [] (v,0) ⟨by simp,h0,hv⟩ ?_
 rintro⟨u,m⟩ ⟨h,hu0,hu⟩ K hK;simp only at h hu0 hu;have em:z19 (u:Int) 2=((u % 2:Nat):Int):=rfl;refine aa ?_ (by simp only[go_sem,↓reduceIte,em]<;>rfl)
 refine AW.cond rfl (fun hc=> ?_) (fun hc=> ?_)
 ·have h2:u % 2=0:=by simp at hc;omega
  rw[ui hu0 h2]at h;have e2:z09 (u:Int) 2=((u/2:Nat):Int):=rfl;have e3:IntKind.i64.wrap ((m:Int)+1)=((m+1:Nat):Int):=ai (by omega)
  have e4:IntKind.u64.wrap ((u/2:Nat):Int)=((u/2:Nat):Int):=ay (by omega)
  refine aa ?_ (by simp only[go_sem,↓reduceIte,e2,e3,e4]<;>rfl)
  refine ah hK (u/2,m+1) ⟨by simp only;omega,by simp only;omega,by simp only;omega⟩ (by simp only;omega)
 ·have h2:u % 2=1:=by simp at hc;omega
  rw[vr h2,z18]at h;subst h;refine aa ?_;refine ac (.pv _ .nil) rfl
theorem apx(v:Nat)(hv:v<2^64):Fn Tryz.prog 169 [] [.pv (.int .u64 v)] (fun rs H'=>rs=[.pv (.int .i64 (min (64-dg v) 31:Nat))]∧H'=[]):=by
 refine Fn.ob Tryz.f169 7 [.tmp 2] fun C=> ?_
 have h64:=fh.2 hv;have e:IntKind.i64.wrap (64-(dg v:Nat))=((64-dg v:Nat):Int):=by rw[an (by omega) (by omega)];omega
 refine aa ?_;refine ap (ju v hv) (.pv _ .nil) ?_;have hm:(if(31:Int)<((64-dg v:Nat):Int)then(31:Int)else((64-dg v:Nat):Int))=((min (64-dg v) 31:Nat):Int):=by split<;>omega
 refine aa ?_ (by simp only[go_sem,↓reduceIte,e,hm]<;>rfl)
 refine ac (.pv _ .nil) rfl
theorem yr(bs:List Nat)(v n:Nat)(hn:n≤64)(hv:v<2^n)(hl:(bs.length+n)*8≤aw):Fn Tryz.prog 166 [] [.pv (.sl 1 (ct bs)),.pv (.int .u64 v),.pv (.int .i64 n)]
  (fun rs H'=>rs=[.own 3 (ct (bs++js v n))]∧H'=[]):=by
 refine Fn.ob Tryz.f166 17 [.tmp 6] fun C=> ?_
 refine aa ?_;refine ap (Mc bs v n hn hv hl) (.pv _ (.pv _ (.pv _ .nil))) ?_;refine aa ?_;refine ac (.move rfl .nil) rfl
theorem T4(xs:List Nat)(hx:∀x∈xs,x<2^64):Fn Tryz.prog 137 [] [.pv (.sl 1 (dw xs))]
  (fun rs H'=>rs=[.own 5 (bytes (if xs.length≤65536 then Lo xs else [])),.pv (.int .i64 (if xs.length≤65536 then 0 else 4))]∧H'=[]):=by
 refine Fn.ob Tryz.f137 77 [.tmp 2,.tmp 3] fun C=> ?_
 have hr:aw=140737488355328:=rfl;refine aa ?_;refine AW.cond rfl (fun hc=> ?_) (fun hc=> ?_)
 ·have hle:¬xs.length≤65536:=by simp at hc;omega
  simp only[if_neg hle];refine aa ?_;refine ac (.move rfl (.pv _ .nil)) rfl
 have hle:xs.length≤65536:=by simp at hc;omega
 simp only[if_pos hle];refine aa ?_;refine aq (fun i:Nat=>⟨77,[(5,.pv (.int .i64 i)),(4,.own 24 (dw (dd (xs.take i)))),(0,.pv (.sl 1 (dw xs)))],[]⟩) (fun i=>i≤xs.length) (fun i=>xs.length-i) [5,4,0] [] 0 (z01 _) ?_
 rintro i hi K hK;refine aa ?_;refine AW.cond rfl (fun hc=> ?_) (fun hc=> ?_)
 ·have hlt:i<xs.length:=by simpa using hc
  have hget:=gh hlt;have hti:xs.take (i+1)=xs.take i++[xs[i]]:=by simp
  have hdl:=ags (xs.take i);have htl:(xs.take i).length=i:=by simp;omega
  generalize xs[i]=x at*;have ei:IntKind.i64.wrap ((i:Int)+1)=((i+1:Nat):Int):=ai (by omega)
  have hds:dd (xs.take (i+1))=ddS (dd (xs.take i)) x:=by rw[hti,Pm]
  refine aa ?_ (by simp only[go_sem,↓reduceIte,hget]<;>rfl)
  refine ap (Rq (dd (xs.take i)) x (by omega)) (.lend rfl Y1 (.pv _ .nil)) ?_
  refine aa ?_;refine AW.cond rfl (fun hc2=> ?_) (fun hc2=> ?_)
  ·have hn:U6 x (dd (xs.take i)) 0<0:=by simpa using hc2
   have h1:((dd (xs.take i)).length+1)*8≤aw:=by omega
   have h2:(dd (xs.take i)).length+1≤aw:=by omega
   rw[ddS,if_pos hn]at hds;refine aa ?_ (by simp only[go_sem,↓reduceIte,hget,Rb,h1,h2,ei]<;>rfl)
   refine ah hK (i+1) hlt (by omega) (by simp only[go_sem,↓reduceIte]) (by simp only[go_sem,↓reduceIte,hds]<;>rfl)
  ·have hn:¬U6 x (dd (xs.take i)) 0<0:=by simp at hc2;omega
   rw[ddS,if_neg hn]at hds;refine aa ?_ (by simp only[go_sem,↓reduceIte,ei]<;>rfl)
   refine ah hK (i+1) hlt (by omega) (by simp only[go_sem,↓reduceIte]) (by simp only[go_sem,↓reduceIte,hds]<;>rfl)
 have hge:¬i<xs.length:=by simpa using hc
 rw[z00 (by omega)]
 have hdl:=ags xs;have hdm:∀y∈dd xs,y<2^64:=fun y hy=>hx y ((agr xs y).1 hy)
 have hmem:∀y∈xs,y∈dd xs:=fun y hy=>(agr xs y).2 hy
 unfold Lo;generalize dd xs=d at*;have hu:IntKind.u64.wrap ((d.length:Nat):Int)=(d.length:Nat):=ay (by omega)
 refine aa ?_ (by simp only[go_sem,↓reduceIte,hu]<;>rfl)
 have h10:=bn (v:=d.length) (by omega)
 refine ap (cx [] d.length (by omega) (by simp;omega)) (.nilsP 1 (.pv _ .nil)) ?_
 refine aa ?_;have hfl:=Ps d;refine aq (fun i:Nat=>⟨77,[(7,.pv (.int .i64 i)),(6,.own 5 (bytes (cg d.length++(d.take i).flatMap fun x=>iy x 8))),(4,.own 24 (dw d)),(0,.pv (.sl 1 (dw xs)))],[]⟩) (fun i=>i≤d.length) (fun i=>d.length-i) [7,6,4,0] [] 0 (z01 _) ?_ (by simp only[go_sem,↓reduceIte]) (by simp only[go_sem,↓reduceIte,List.take_zero,z11,z05]<;>rfl)
 clear hK hi hge hc;rintro i hi K hK;refine aa ?_;refine AW.cond rfl (fun hc=> ?_) (fun hc=> ?_)
 ·have hlt:i<d.length:=by simpa using hc
  have hget:=gh hlt;have hdx:=hdm _ (z02 hlt);have hti:d.take (i+1)=d.take i++[d[i]]:=by simp
  have hfi:=Ps (d.take i);have hfn:(d.take (i+1)).flatMap (fun x=>iy x 8)=(d.take i).flatMap (fun x=>iy x 8)++iy d[i] 8:=by rw[hti,z08];simp
  rw[z04]at hfi;generalize d[i]=x at*;refine aa ?_ (by simp only[go_sem,↓reduceIte,hget,hlt]<;>rfl)
  refine ap (jo x 8 hdx (by omega)) (.pv _ (.pv _ .nil)) ?_
  have h2:(cg d.length++(d.take i).flatMap fun x=>iy x 8).length+(iy x 8).length≤aw:=by rw[z10,hfi,gv];omega
  have ei:IntKind.i64.wrap ((i:Int)+1)=((i+1:Nat):Int):=ai (by omega)
  refine aa ?_ (by simp only[go_sem,↓reduceIte,h2,ei,List.append_assoc,←hfn]<;>rfl)
  refine ah hK (i+1) hlt (by omega)
 have hge:¬i<d.length:=by simpa using hc
 rw[z00 (by omega)]
 have hw16:=aEs (n:=d.length) (by omega)
 refine aa ?_;refine ap (V0 d.length (by omega)) (.pv _ .nil) ?_
 refine aa ?_;refine aq (fun i:Nat=>⟨77,[(10,.pv (.int .i64 i)),(9,.own 3 (ct (od d (xs.take i)))),(8,.pv (.int .i64 (wd d.length:Nat))),(6,.own 5 (bytes (cg d.length++d.flatMap fun x=>iy x 8))),(4,.own 24 (dw d)),(0,.pv (.sl 1 (dw xs)))],[]⟩) (fun i=>i≤xs.length) (fun i=>xs.length-i) [10,9,8,6,4,0] [] 0 (z01 _) ?_
 clear hK hi hge hc;rintro i hi K hK;refine aa ?_;refine AW.cond rfl (fun hc=> ?_) (fun hc=> ?_)
 ·have hlt:i<xs.length:=by simpa using hc
  have hget:=gh hlt;obtain⟨p,hp1,hp2,hp3⟩:=Oy (i:=0) (hmem _ (z02 hlt));have hti:xs.take (i+1)=xs.take i++[xs[i]]:=by simp
  have hbi:=Kj d (xs.take i);have hfn:od d (xs.take (i+1))=od d (xs.take i)++js p (wd d.length):=by
   rw[hti,od,z08,od];simp only[List.flatMap_cons,z11,z05,hp1]
   congr 2;omega
  rw[z04]at hbi;rw[z16]at hp1;generalize xs[i]=x at*;refine aa ?_ (by simp only[go_sem,↓reduceIte,hget]<;>rfl)
  refine ap (Rq d x (by omega)) (.lend rfl Y1 (.pv _ .nil)) ?_
  rw[hp1];have eu:IntKind.u64.wrap ((p:Nat):Int)=(p:Nat):=ay (by omega)
  refine aa ?_ (by simp only[go_sem,↓reduceIte,eu]<;>rfl)
  have hm:wd d.length*min i xs.length≤16*65536:=z14 hw16 (by omega)
  refine ap (Mc (od d (xs.take i)) p (wd d.length) (by omega) (aEr hp2) (by rw[hbi];omega)) (.lend rfl Ca (.pv _ (.pv _ .nil))) ?_
  have ei:IntKind.i64.wrap ((i:Int)+1)=((i+1:Nat):Int):=ai (by omega)
  refine aa ?_ (by simp only[go_sem,↓reduceIte,ei,←hfn]<;>rfl)
  refine ah hK (i+1) hlt (by omega)
 have hge:¬i<xs.length:=by simpa using hc
 rw[z00 (by omega)]
 have hbi:=Kj d xs;have hm:wd d.length*xs.length≤16*65536:=z14 hw16 (by omega)
 refine aa ?_;refine ap (Bi (od d xs) (by omega) (Kk d xs)) (.lend rfl Ca .nil) ?_
 have h2:(cg d.length++d.flatMap fun x=>iy x 8).length+(pk (od d xs)).length≤aw:=by rw[z10,hfl,Ib];omega
 refine aa ?_ (by simp only[go_sem,↓reduceIte,h2]<;>rfl)
 refine ac (.move rfl (.pv _ .nil)) rfl
set_option maxHeartbeats 1000000
def Ku:Option (Nat×Nat)→Int
 |none=> -1
 |some (l,_)=>l
def aas:Option (Nat×Nat)→Int
 |none=> -1
 |some (_,t)=>t
theorem aAf{xs:List Nat}{i:Nat}(h:i<xs.length)(h0:i≠0):(gF (xs.take i)).2.2=some (xs.getD (i-1) 0):=by
 rw[Z3,List.getLast?_eq_getElem?,z04,List.getElem?_take,List.getD_eq_getElem?_getD];rw[show min i xs.length=i by omega,if_pos (by omega),List.getElem?_eq_getElem (by omega)]
 rfl
theorem T5(xs:List Nat)(hx:∀x∈xs,x<2^64):Fn Tryz.prog 138 [] [.pv (.sl 1 (dw xs))]
  (fun rs H'=>rs=[.own 5 (bytes (if xs.length≤65536 then Yx xs else [])),.pv (.int .i64 (if xs.length≤65536 then 0 else 4))]∧H'=[]):=by
 refine Fn.ob Tryz.f138 95 [.tmp 2,.tmp 3] fun C=> ?_
 have hr:aw=140737488355328:=rfl;refine aa ?_;refine AW.cond rfl (fun hc=> ?_) (fun hc=> ?_)
 ·have hle:¬xs.length≤65536:=by simp at hc;omega
  simp only[if_neg hle];refine aa ?_;refine ac (.move rfl (.pv _ .nil)) rfl
 have hle:xs.length≤65536:=by simp at hc;omega
 simp only[if_pos hle];refine aa ?_;refine aq (fun i:Nat=>⟨95,[(7,.pv (.int .i64 i)),(4,.own 3 (ct (gF (xs.take i)).1)),(5,.pv (.int .i64 (Ku (gF (xs.take i)).2.1))),(6,.pv (.int .i64 (aas (gF (xs.take i)).2.1))),(0,.pv (.sl 1 (dw xs)))],[]⟩) (fun i=>i≤xs.length) (fun i=>xs.length-i) [7,4,5,6,0] [] 0 (z01 _) ?_
 rintro i hi K hK;refine aa ?_;refine AW.cond rfl (fun hc=> ?_) (fun hc=> ?_)
 ·have hlt:i<xs.length:=by simpa using hc
  have hget:=gh hlt;have hxx:=hx _ (z02 hlt);have hti:xs.take (i+1)=xs.take i++[xs[i]]:=by simp
  have hsn:=Ct (xs.take i) xs[i];rw[←hti]at hsn;have ei:IntKind.i64.wrap ((i:Int)+1)=((i+1:Nat):Int):=ai (by omega)
  have hgl:=agc (xs.take i);have htl:(xs.take i).length=i:=by simp;omega
  have hok:=aHf (xs.take i) (fun x h=>hx x (z06 h))
  by_cases h0:i=0
  ·subst h0;generalize xs[0]=x at*;have hg0:gF (xs.take (0+1))=(js x 64,none,some x):=by rw[hsn];rfl
   refine aa ?_;refine am rfl ?_;refine aa ?_ (by simp only[go_sem,↓reduceIte,hget]<;>rfl)
   refine ap (yr [] x 64 (by omega) hxx (by simp;omega)) (.nilsP 1 (.pv _ (.pv _ .nil))) ?_
   refine aa ?_ (by simp only[go_sem,↓reduceIte,z13,ei]<;>rfl)
   refine ah hK (0+1) hlt (by omega) (by simp only[go_sem,↓reduceIte]) (by simp only[go_sem,↓reduceIte,hg0]<;>rfl)
  have hi1:i-1<xs.length:=by omega
  have hget1:=gh hi1;have hxx1:=hx _ (z02 hi1);have hpr:=aAf hlt h0;rw[←pg hi1]at hpr;generalize xs[i]=x at*;generalize xs[i-1]=p at*;have hgs:gS (gF (xs.take i)) x=((gF (xs.take i)).1++(ug (gF (xs.take i)).2.1 (x^^^p)).1,(ug (gF (xs.take i)).2.1 (x^^^p)).2,some x):=by rw[gS,hpr]
  rw[hgs]at hsn;have hxo:x^^^p<2^64:=Nat.xor_lt_two_pow hxx hxx1;have ex:=F9 hxx hxx1;have e0:((i:Int)==0)=false:=by simp;omega
  have e1:IntKind.i64.wrap ((i:Int)-1)=((i-1:Nat):Int):=by rw[an (by omega) (by omega)];omega
  generalize x^^^p=y at*;generalize gF (xs.take i)=g at*;obtain⟨bs,wn,pv⟩:=g;simp only at hsn hgl hok hpr⊢;refine aa ?_;refine ae (by rw[←e0];rfl) ?_
  refine aa ?_;refine pc mixed (by decide+kernel) ?_ (by simp only[go_sem,↓reduceIte,hget,hget1,e1,ex]<;>rfl)
  refine aa ?_;refine AW.cond rfl (fun hc2=> ?_) (fun hc2=> ?_)
  ·have hy:y=0:=by simp at hc2;omega
   subst hy;rw[wv]at hsn;have h1:(bs.length+1)*8≤aw:=by omega
   have h2:bs.length+1≤aw:=by omega
   have n00:[PV.int .i64 0]=ct [0]:=rfl;refine aa ?_ (by simp only[go_sem,↓reduceIte,h1,h2,ei]<;>rfl)
   refine ah hK (i+1) hlt (by omega) (by simp only[go_sem,↓reduceIte]) (by simp only[go_sem,↓reduceIte,hsn,n00]<;>rfl)
  have hy:y≠0:=by simp at hc2;omega
  have hb64:=fh.2 hxo;have e64:IntKind.i64.wrap (64-((dg y:Nat):Int))=((64-dg y:Nat):Int):=by rw[an (by omega) (by omega)];omega
  cases hf:xn wn y with
  |true=>
   rcases wn with _|⟨l,t⟩
   ·cases hf
   rw[ww hy hf]at hsn;simp only[xn,Bool.and_eq_true]at hf;obtain⟨hf1,hf2⟩:=hf;have hlt64:l+t≤63:=(hok l t rfl).1;have hl1:l≤64-dg y:=by simpa using hf1
   have hfit:=agf hxo hl1 hlt64;have hw:decide ((l:Int)≥0)=true:=by simp
   have ht2:decide (((zi y:Nat):Int)≥(t:Int))=true:=by simp at hf2⊢;omega
   have hl2:decide (((64-dg y:Nat):Int)≥(l:Int))=true:=by simp;omega
   refine ak ?_ (by simp only[go_sem,↓reduceIte,Ku,hw]<;>rfl)
   refine iq rfl rfl ?_;refine ap (ju y hxo) (.pv _ .nil) ?_;refine ak ?_ (by simp only[go_sem,↓reduceIte,Ku,e64,hf1]<;>rfl)
   refine iq rfl rfl ?_;refine ap (Iu y hy hxo) (.pv _ .nil) ?_;refine ak ?_ (by simp only[go_sem,↓reduceIte,aas,hf2]<;>rfl)
   refine am rfl ?_;have eut:IntKind.u64.wrap ((t:Nat):Int)=(t:Nat):=ay (by omega)
   have esh:mo .u64 ((y:Nat):Int) ((t:Nat):Int)=((y/2^t:Nat):Int):=j7 .u64 y t (by show t≤64;omega)
   have ewd:IntKind.i64.wrap (IntKind.i64.wrap (64-(l:Int))-(t:Int))=((64-l-t:Nat):Int):=by
    rw[an (n:=64-(l:Int)) (by omega) (by omega),an (by omega) (by omega)];omega
   refine aa ?_ (by simp only[go_sem,↓reduceIte,Ku,aas,eut,esh,ewd]<;>rfl)
   have hput:=yr [1,0] (y/2^t) (64-l-t) (by omega) hfit (by simp;omega)
   have hql:([1,0]++js (y/2^t) (64-l-t)).length≤77:=by simp[kn];omega
   generalize [1,0]++js (y/2^t) (64-l-t)=q at hput hql hsn;refine ap hput (.lend rfl Ca (.pv _ (.pv _ .nil))) ?_;have h1:(bs.length+q.length)*8≤aw:=by omega
   have h2:bs.length+q.length≤aw:=by omega
   refine aa ?_ (by simp only[go_sem,↓reduceIte,h1,h2,ei]<;>rfl)
   refine ah hK (i+1) hlt (by omega) (by simp only[go_sem,↓reduceIte]) (by simp only[go_sem,↓reduceIte,hsn,Ku,aas]<;>rfl)
  |false=>
   rw[z7 hy hf]at hsn;obtain⟨hn1,hn2⟩:=Zu hy hxo;have hfit:=agf hxo (ac8 (x:=y)).1 hn1;refine Aj (T:= ?T1) (fun hT=> ?_) ?_
   rotate_left
   ·rcases wn with _|⟨l,t⟩
    ·have hw:decide (Ku none≥0)=false:=by decide
     refine ak ?_ (by simp only[go_sem,↓reduceIte,hw]<;>rfl)
     refine ae rfl ?_;refine bq [9,7,4,0,8] [] ?_;exact hT ()
    ·simp only[xn]at hf;have hw:decide ((l:Int)≥0)=true:=by simp
     refine ak ?_ (by simp only[go_sem,↓reduceIte,Ku,hw]<;>rfl)
     refine iq rfl rfl ?_;refine ap (ju y hxo) (.pv _ .nil) ?_;by_cases hl:l≤64-dg y
     ·have hf1:decide (l≤64-dg y)=true:=decide_eq_true hl;have hf2:decide (t≤zi y)=false:=by rw[hf1]at hf;simpa using hf
      refine ak ?_ (by simp only[go_sem,↓reduceIte,Ku,e64,hf1]<;>rfl)
      refine iq rfl rfl ?_;refine ap (Iu y hy hxo) (.pv _ .nil) ?_;refine ak ?_ (by simp only[go_sem,↓reduceIte,aas,hf2]<;>rfl)
      refine ae rfl ?_;refine bq [9,7,4,0,8] [] ?_;exact hT ()
     ·have hf1:decide (l≤64-dg y)=false:=decide_eq_false hl;refine ak ?_ (by simp only[go_sem,↓reduceIte,Ku,e64,hf1]<;>rfl)
      refine ae rfl ?_;refine bq [9,7,4,0,8] [] ?_;exact hT ()
   refine aa ?_;refine ap (apx y hxo) (.pv _ .nil) ?_;refine aa ?_;refine ap (Iu y hy hxo) (.pv _ .nil) ?_;have hN1:min (64-dg y) 31=(qk y).1:=rfl;have hN2:zi y=(qk y).2:=rfl;rw[hN1,hN2];generalize qk y=nw at*;obtain⟨l,t⟩:=nw;simp only at hn1 hn2 hfit hsn⊢;have eul:IntKind.u64.wrap ((l:Nat):Int)=(l:Nat):=ay (by omega)
   have eut:IntKind.u64.wrap ((t:Nat):Int)=(t:Nat):=ay (by omega)
   have esh:mo .u64 ((y:Nat):Int) ((t:Nat):Int)=((y/2^t:Nat):Int):=j7 .u64 y t (by show t≤64;omega)
   have ewd:IntKind.i64.wrap (IntKind.i64.wrap (64-(l:Int))-(t:Int))=((64-l-t:Nat):Int):=by
    rw[an (n:=64-(l:Int)) (by omega) (by omega),an (by omega) (by omega)];omega
   have ew3:IntKind.u64.wrap (IntKind.i64.wrap (IntKind.i64.wrap (63-(l:Int))-(t:Int)))=((63-l-t:Nat):Int):=by
    rw[an (n:=63-(l:Int)) (by omega) (by omega),an (by omega) (by omega)]
    rw[show(63:Int)-l-t=((63-l-t:Nat):Int)by omega];exact ay (by omega)
   have hput1:=yr [1,1] l 5 (by omega) (by omega) (by simp;omega)
   have hput2:=yr ([1,1]++js l 5) (63-l-t) 6 (by omega) (by omega) (by simp[kn];omega)
   have hput3:=yr ([1,1]++js l 5++js (63-l-t) 6) (y/2^t) (64-l-t) (by omega) hfit (by simp[kn];omega)
   have hql:([1,1]++js l 5++js (63-l-t) 6++js (y/2^t) (64-l-t)).length≤77:=by simp[kn];omega
   generalize [1,1]++js l 5=q1 at hput1 hput2 hput3 hql hsn;generalize q1++js (63-l-t) 6=q2 at hput2 hput3 hql hsn;generalize q2++js (y/2^t) (64-l-t)=q at hput3 hql hsn;refine aa ?_ (by simp only[go_sem,↓reduceIte,eul]<;>rfl)
   refine ap hput1 (.lend rfl Ca (.pv _ (.pv _ .nil))) ?_;refine aa ?_ (by simp only[go_sem,↓reduceIte,ew3]<;>rfl)
   refine ap hput2 (.lend rfl Ca (.pv _ (.pv _ .nil))) ?_;refine aa ?_ (by simp only[go_sem,↓reduceIte,eut,esh,ewd]<;>rfl)
   refine ap hput3 (.lend rfl Ca (.pv _ (.pv _ .nil))) ?_;have h1:(bs.length+q.length)*8≤aw:=by omega
   have h2:bs.length+q.length≤aw:=by omega
   refine aa ?_ (by simp only[go_sem,↓reduceIte,h1,h2,ei]<;>rfl)
   refine ah hK (i+1) hlt (by omega) (by simp only[go_sem,↓reduceIte]) (by simp only[go_sem,↓reduceIte,hsn,Ku,aas]<;>rfl)
 ·have hge:¬i<xs.length:=by simpa using hc
  rw[z00 (by omega)]
  have hgl:=agc xs;refine aa ?_;refine ap (Bi (gF xs).1 (by omega) (agd xs)) (.lend rfl Ca .nil) ?_
  refine aa ?_;refine ac (.move rfl (.pv _ .nil)) rfl
theorem aqi{a b:Nat}(h:((a:Int) !=(b:Int))=true):a≠b:=by simp at h;omega
theorem aqk{a b:Nat}(h:((a:Int) !=(b:Int))=false):a=b:=by simp at h;omega
theorem Wv{xs:List Nat}{i:Nat}(h:i<xs.length)(hne:xs[i]≠xs.getD 0 0):aax xs=false:=by
 rw[aax,List.all_eq_false];exact⟨xs[i],z02 h,by simpa using hne⟩
theorem acv{xs:List Nat}(h:∀j,j<xs.length→xs.getD j 0=xs.getD 0 0):aax xs=true:=by
 rw[aax,List.all_eq_true];intro x hx;obtain⟨j,hj,rfl⟩:=List.mem_iff_getElem.1 hx;have:=h j hj;rw[pg hj];simpa using this
end Go.Ck
