/- What is proved here: parts of the proofs of this seat's statements (a verified evaluator for calls over pure values, its laws, and contracts of functions). No condition. -/
import Derived.Test.YtmkoabmapmehdaaGreatDoorKzb
import Derived.Test.YtmkoabmapmehdaaGreatDoorKza
import Derived.Test.YtmkoabmapmehdaaGreatDoorKy
import Derived.Test.YtmkoabmapmehdaaGreatDoorKx
import Derived.Test.YtmkoabmapmehdaaGreatDoorKo
set_option linter.all false
open List renaming length_append→z00,length_cons→z01,length_nil→z02,nil_append→z03,getElem?_eq_getElem→z05,mem_of_getElem?→z08,take_length→z10,not_mem_nil→z11,take_add_one→z12,mem_cons→z13,length_take→z14,take_zero→z15,any_eq_true→z16,take_succ_cons→z17,length_drop→z18,flatMap_nil→z19,append_nil→z20,any_append→z21
open Nat renaming zero_add→z04,zero_le→z09,sub_self→z22,le_refl→z23
open Bool renaming eq_iff_iff→z06
open Array renaming replicate→z07
set_option maxRecDepth 100000
set_option maxHeartbeats 400000
namespace Go.Ck
open Go.Proofs
theorem aj7(e:je):Hi e=(decide (e.2<0)||decide (e.2>8)):=by
 unfold Hi;rw[z06];have:=wo e.2;simp only[beq_iff_eq,this,Bool.or_eq_true,decide_eq_true_eq];omega
theorem Tw(m:Man)(hl:m.es.length<2^40):Fn Tryz.prog 103 [] [.pv (Ak m)] (fun rs H'=>rs=[.pv (.int .i64 (fm m:Nat))]∧H'=[]):=by
 refine Fn.ob Tryz.f103 62 [.tmp 2] fun C=> ?_
 obtain⟨v,prev,es,root⟩:=m;simp only at hl;have hm:Ak ⟨v,prev,es,root⟩= .agg [.int .u64 (v:Int),.sl 1 (bytes prev),.sl 2 (b9 es),.sl 1 (bytes root)]:=rfl;rw[hm];unfold fm;simp only;obtain⟨b1,hb1⟩:∃b,b=decide (v=18446744073709551615):=⟨_,rfl⟩
 obtain⟨b2,hb2⟩:∃b,b=decide (prev.length≠32):=⟨_,rfl⟩
 obtain⟨b3,hb3⟩:∃b,b=decide (root.length≠32):=⟨_,rfl⟩
 have d1:((v:Int)==18446744073709551615)=b1:=by rw[hb1,z06];simp;try omega
 have d2:((prev.length:Int) !=32)=b2:=by rw[hb2,z06];simp;omega
 have d3:((root.length:Int) !=32)=b3:=by rw[hb3,z06];simp;omega
 have d2':(prev.length !=32)=b2:=by rw[hb2,z06];simp
 have d3':(root.length !=32)=b3:=by rw[hb3,z06];simp
 have hcond:(v=18446744073709551615∨prev.length≠32∨root.length≠32)↔(b1||(b2||b3))=true:=by
  rw[hb1,hb2,hb3];simp
 by_cases hB:(b1||(b2||b3))=true
 ·cases b1 with
  |true=>
   rw[if_pos (hcond.2 rfl)];refine ak ?_ (by simp only[go_sem,↓reduceIte,d1,d2,d3,d2',d3']<;>rfl)
   refine am rfl ?_;refine aa ?_;exact ac (.pv _ .nil) rfl
  |false=>
   cases b2 with
   |true=>
    rw[if_pos (hcond.2 rfl)];refine ak ?_ (by simp only[go_sem,↓reduceIte,d1,d2,d3,d2',d3']<;>rfl)
    refine am rfl ?_;refine aa ?_;exact ac (.pv _ .nil) rfl
   |false=>
    cases b3 with
    |true=>
     rw[if_pos (hcond.2 rfl)];refine ak ?_ (by simp only[go_sem,↓reduceIte,d1,d2,d3,d2',d3']<;>rfl)
     refine am rfl ?_;refine aa ?_;exact ac (.pv _ .nil) rfl
    |false=>cases hB
 rw[if_neg (fun h=>hB (hcond.1 h))]
 have hb1:b1=false:=by cases b1<;>simp_all
 have hb2:b2=false:=by cases b2<;>simp_all
 have hb3:b3=false:=by cases b3<;>simp_all
 subst hb1 hb2 hb3;refine ak ?_ (by simp only[go_sem,↓reduceIte,d1,d2,d3,d2',d3']<;>rfl)
 refine ae rfl ?_;refine aa ?_;refine aq (fun i:Nat=>⟨62,[(3,.pv (.int .i64 i)),(1,.ptr 1 0)],[(1,.cells 27 [.pv (.int .u64 (v:Int)),.pv (.sl 1 (bytes prev)),.pv (.sl 2 (b9 es)),.pv (.sl 1 (bytes root))])]⟩) (fun i=>i≤es.length∧(es.take i).any Hi=false) (fun i=>es.length-i) [3,1] [1] 0 ⟨z09 _,rfl⟩ ?_
 rintro i ⟨hi,hn⟩ K hK;refine aa ?_;refine AW.cond rfl (fun hc=> ?_) (fun hc=> ?_)
 ·have hlt:i<es.length:=by have:=of_decide_eq_true hc;omega
  obtain⟨e,he⟩:∃e,es[i]?=some e:=⟨es[i],z05 hlt⟩
  have hg:=u3 he;have hst:(es.take (i+1)).any Hi=Hi e:=by rw[z12,he,z21,hn];simp
  have e1:IntKind.i64.wrap ((i:Int)+1)=((i+1:Nat):Int):=ai (by omega)
  have d5:=aj7 e;obtain⟨c1,hc1⟩:∃b,b=decide (e.2<0):=⟨_,rfl⟩
  obtain⟨c2,hc2⟩:∃b,b=decide (e.2>8):=⟨_,rfl⟩
  rw[←hc1,←hc2]at d5;have c1':=hc1.symm;have c2':=hc2.symm;cases c1 with
  |true=>
   rw[if_pos (z16.2 ⟨e,z08 he,d5⟩)];refine ak ?_ (by simp only[go_sem,↓reduceIte,hg,c1',c2']<;>rfl)
   refine am rfl ?_;refine aa ?_;exact ac (.pv _ .nil) rfl
  |false=>
   cases c2 with
   |true=>
    rw[if_pos (z16.2 ⟨e,z08 he,d5⟩)];refine ak ?_ (by simp only[go_sem,↓reduceIte,hg,c1',c2']<;>rfl)
    refine am rfl ?_;refine aa ?_;exact ac (.pv _ .nil) rfl
   |false=>
    refine ak ?_ (by simp only[go_sem,↓reduceIte,hg,c1',c2']<;>rfl)
    refine ae rfl ?_;refine aa ?_ (by simp only[go_sem,↓reduceIte,e1]<;>rfl)
    exact ah hK (i+1) (by exact⟨by omega,by rw[hst];exact d5⟩) (by omega)
 have hge:i=es.length:=by have:=of_decide_eq_false hc;omega
 subst hge;rw[z10]at hn;rw[if_neg (by rw[hn];simp)]
 by_cases hL:1048576<es.length
 ·have d6:decide ((es.length:Int)>1048576)=true:=decide_eq_true (by omega)
  have d6':decide (1048576<es.length)=true:=decide_eq_true hL;rw[if_pos (.inl hL)];refine ak ?_ (by simp only[go_sem,↓reduceIte,d6,d6']<;>rfl)
  refine am rfl ?_;refine aa ?_;exact ac (.pv _ .nil) rfl
 have d6:decide ((es.length:Int)>1048576)=false:=decide_eq_false (by omega)
 have d6':decide (1048576<es.length)=false:=decide_eq_false hL;refine ak ?_ (by simp only[go_sem,↓reduceIte,d6,d6']<;>rfl)
 refine ae rfl ?_;refine aa ?_;refine aq (fun i:Nat=>⟨62,[(4,.pv (.int .i64 i)),(1,.ptr 1 0)],[(1,.cells 27 [.pv (.int .u64 (v:Int)),.pv (.sl 1 (bytes prev)),.pv (.sl 2 (b9 es)),.pv (.sl 1 (bytes root))])]⟩) (fun i=>i≤es.length∧(es.take i).any uf=false) (fun i=>es.length-i) [4,1] [1] 0 ⟨z09 _,rfl⟩ ?_
 rintro i ⟨hi,hn⟩ K hK;refine aa ?_;refine AW.cond rfl (fun hc=> ?_) (fun hc=> ?_)
 ·have hlt:i<es.length:=by have:=of_decide_eq_true hc;omega
  obtain⟨e,he⟩:∃e,es[i]?=some e:=⟨es[i],z05 hlt⟩
  have hg:=u3 he;have hst:(es.take (i+1)).any uf=uf e:=by rw[z12,he,z21,hn];simp
  have e1:IntKind.i64.wrap ((i:Int)+1)=((i+1:Nat):Int):=ai (by omega)
  have d7:decide (64<e.1.length)=uf e:=rfl;have d7':decide ((e.1.length:Int)>64)=uf e:=by unfold uf;rw[z06];simp;omega
  cases hlb:uf e with
  |true=>
   rw[if_pos (.inr (z16.2 ⟨e,z08 he,hlb⟩))];refine ak ?_ (by simp only[go_sem,↓reduceIte,hg,d7,d7',hlb]<;>rfl)
   refine am rfl ?_;refine aa ?_;exact ac (.pv _ .nil) rfl
  |false=>
   refine ak ?_ (by simp only[go_sem,↓reduceIte,hg,d7,d7',hlb]<;>rfl)
   refine ae rfl ?_;refine aa ?_ (by simp only[go_sem,↓reduceIte,e1]<;>rfl)
   exact ah hK (i+1) (by exact⟨by omega,by rw[hst];exact hlb⟩) (by omega)
 have hge:i=es.length:=by have:=of_decide_eq_false hc;omega
 subst hge;rw[z10]at hn;rw[if_neg (by rw[hn];simp[hL])]
 refine aa ?_;exact ac (.pv _ .nil) rfl
theorem Wr(ls:List (List UInt8))(s:List UInt8)(hm:s∈ls)(hl:ls.length<2^40):Fn Tryz.prog 105 [] [.pv (.sl 1 (c6 ls)),.pv (.str s)] (fun rs H'=>rs=[.pv (.int .i64 (ls.idxOf s:Nat))]∧H'=[]):=by
 refine Fn.ob Tryz.f105 19 [.tmp 4] fun C=> ?_
 refine aa ?_;refine aq (fun i:Nat=>⟨19,[(5,.pv (.int .i64 i)),(0,.pv (.sl 1 (c6 ls))),(1,.pv (.str s))],[]⟩) (fun i=>i≤ls.length∧s∉ls.take i) (fun i=>ls.length-i) [5,0,1] [] 0 ⟨z09 _,by simp⟩ ?_
 rintro i ⟨hi,hn⟩ K hK;refine aa ?_;refine AW.cond rfl (fun hc=> ?_) (fun hc=> ?_)
 ·have hlt:i<ls.length:=by have:=of_decide_eq_true hc;omega
  obtain⟨t,ht⟩:∃t,ls[i]?=some t:=⟨ls[i],z05 hlt⟩
  have hg:=pf ht;have e1:IntKind.i64.wrap ((i:Int)+1)=((i+1:Nat):Int):=ai (by omega)
  refine aa ?_ (by simp only[go_sem,↓reduceIte,hg]<;>rfl)
  by_cases hts:t=s
  ·subst hts;have d:(t==t)=true:=by simp
   have hix:=aAz ht hn;rw[hix];refine ak ?_ (by simp only[go_sem,↓reduceIte,d]<;>rfl)
   refine am rfl ?_;refine aa ?_;exact ac (.pv _ .nil) rfl
  ·have d:(t==s)=false:=by simpa using hts
   refine ak ?_ (by simp only[go_sem,↓reduceIte,d]<;>rfl)
   refine ae rfl ?_;refine aa ?_ (by simp only[go_sem,↓reduceIte,e1]<;>rfl)
   exact ah hK (i+1) (by exact⟨hlt,by rw[z12,ht];simp[hn];exact fun h=>hts h.symm⟩) (by omega)
 have hge:i=ls.length:=by have:=of_decide_eq_false hc;omega
 subst hge;rw[z10]at hn;exact absurd hm hn
theorem abo(ls:List (List UInt8))(j:Nat):(c6 ls).take j=c6 (ls.take j):=by simp[c6,List.map_take]
theorem abp(ls:List (List UInt8))(j:Nat):(c6 ls).drop j=c6 (ls.drop j):=by simp[c6,List.map_drop]
theorem ahl(a b:List (List UInt8))(s:List UInt8):c6 a++[.str s]++c6 b=c6 (a++s::b):=by simp[c6]
theorem V4(es:List je)(hl:es.length<2^30):Fn Tryz.prog 104 [] [.pv (.sl 2 (b9 es))] (fun rs H'=>rs=[.pv (.sl 1 (c6 (iw es)))]∧H'=[]):=by
 refine Fn.ob Tryz.f104 63 [.tmp 2] fun C=> ?_
 have hroom:aw=140737488355328:=rfl;rw[←ao0];refine aa ?_;refine bj (.slot 3) ?_;refine aq (fun i:Nat=>⟨63,[(4,.pv (.int .i64 i)),(0,.pv (.sl 2 (b9 es))),(3,.pv (.sl 1 (c6 (tnS (es.take i)))))],[]⟩) (fun i=>i≤es.length) (fun i=>es.length-i) [4,0,3] [] 0 (z09 _) ?_
 rintro i hi K hK;have hnl:=aoz (es.take i);rw[z14]at hnl;have hsrt:=Jj (es.take i);refine aa ?_;refine AW.cond rfl (fun hc=> ?_) (fun hc=> ?_)
 ·have hlt:i<es.length:=by have:=of_decide_eq_true hc;omega
  obtain⟨e,he⟩:∃e,es[i]?=some e:=⟨es[i],z05 hlt⟩
  have hg:=u3 he;have hsu:=ahf he;have e1:IntKind.i64.wrap ((i:Int)+1)=((i+1:Nat):Int):=ai (by omega)
  generalize tnS (es.take i)=ls at*;have hlts:(i<es.length)=True:=eq_true hlt;refine aa ?_;refine aq (fun j:Nat=>⟨63,[(5,.pv (.int .i64 j)),(4,.pv (.int .i64 i)),(0,.pv (.sl 2 (b9 es))),(3,.pv (.sl 1 (c6 ls)))],[]⟩) (fun j=>j≤ls.length∧∀a∈ls.take j,a<e.1) (fun j=>ls.length-j) [5,4,0,3] [] 0 ⟨z09 _,by simp⟩ ?_
  rintro j ⟨hj,hja⟩ K2 hK2;have hjr:(j≤ls.length)=True:=eq_true hj;have htk:=abo ls j;have hdr:=abp ls j;have ej:IntKind.i64.wrap ((j:Int)+1)=((j+1:Nat):Int):=ai (by omega)
  have hii:∀h:ls[j]?≠some e.1,∀h2:(∀a,ls[j]?=some a→¬a<e.1),rn e.1 ls=ls.take j++e.1::ls.drop j:=fun h h2=>by
   rw[O9 e.1 ls j hj hja h2,if_neg h]
  refine aa ?_;refine Aj (T:=rn e.1 ls=ls.take j++e.1::ls.drop j→ ?Tins) (fun hT=> ?_) ?_;rotate_left
  ·rcases Nat.lt_or_ge j ls.length with hjl|hjl
   ·obtain⟨t,ht⟩:∃t,ls[j]?=some t:=⟨ls[j],z05 hjl⟩
    have hgt:=pf ht;have djl:decide (j<ls.length)=true:=decide_eq_true hjl;have djl':decide ((j:Int)<(ls.length:Int))=true:=decide_eq_true (by omega)
    have hbl:Op.bytesLess t e.1=decide (t<e.1):=Go.Proofs.bytesLess_eq t e.1;by_cases hlt2:t<e.1
    ·have dlt:decide (t<e.1)=true:=decide_eq_true hlt2;refine pc mixed (by decide+kernel) ?_ (by simp only[go_sem,↓reduceIte,hg,hgt,djl,djl',hbl,dlt]<;>rfl)
     refine aa ?_;refine am rfl ?_;refine aa ?_ (by simp only[go_sem,↓reduceIte,ej]<;>rfl)
     exact ah hK2 (j+1) (by exact⟨hjl,by rw[z12,ht];intro a ha;rcases List.mem_append.1 ha with ha|ha;exact hja a ha;simp at ha;subst ha;exact hlt2⟩) (by omega)
    ·have dlt:decide (t<e.1)=false:=decide_eq_false hlt2;refine pc mixed (by decide+kernel) ?_ (by simp only[go_sem,↓reduceIte,hg,hgt,djl,djl',hbl,dlt]<;>rfl)
     refine aa ?_;refine ae rfl ?_;refine aa ?_;by_cases heq:t=e.1
     ·have de:(t==e.1)=true:=by simpa using heq
      refine pc mixed (by decide+kernel) ?_ (by simp only[go_sem,↓reduceIte,hg,hgt,djl,djl',de]<;>rfl)
      refine aa ?_;refine am rfl ?_;have hin:rn e.1 ls=ls:=by
       rw[O9 e.1 ls j hj hja (fun a ha=>by rw[ht]at ha;cases ha;exact hlt2),if_pos (by rw[ht,heq])]
      rw[hin]at hsu;refine aa ?_ (by simp only[go_sem,↓reduceIte,e1]<;>rfl)
      exact ah hK (i+1) (by omega) (by omega) (hs:=by simp only[go_sem,↓reduceIte,hsu]<;>rfl)
     ·have de:(t==e.1)=false:=by simpa using heq
      refine pc mixed (by decide+kernel) ?_ (by simp only[go_sem,↓reduceIte,hg,hgt,djl,djl',de]<;>rfl)
      refine aa ?_;refine ae rfl ?_;refine aa ?_;refine bq [5,4,0,3] [] (s':=⟨63,[(5,.pv (.int .i64 j)),(4,.pv (.int .i64 i)),(0,.pv (.sl 2 (b9 es))),(3,.pv (.sl 1 (c6 ls)))],[]⟩) ?_;exact hT () (hii (by rw[ht];exact fun h=>heq (by cases h;rfl)) (fun a ha=>by rw[ht]at ha;cases ha;exact hlt2))
   ·have djl:decide (j<ls.length)=false:=decide_eq_false (by omega)
    have djl':decide ((j:Int)<(ls.length:Int))=false:=decide_eq_false (by omega)
    have hnone:ls[j]?=none:=List.getElem?_eq_none hjl;refine pc mixed (by decide+kernel) ?_ (by simp only[go_sem,↓reduceIte,hg,djl,djl']<;>rfl)
    refine aa ?_;refine ae rfl ?_;refine aa ?_;refine pc mixed (by decide+kernel) ?_ (by simp only[go_sem,↓reduceIte,hg,djl,djl']<;>rfl)
    refine aa ?_;refine ae rfl ?_;refine aa ?_;refine bq [5,4,0,3] [] (s':=⟨63,[(5,.pv (.int .i64 j)),(4,.pv (.int .i64 i)),(0,.pv (.sl 2 (b9 es))),(3,.pv (.sl 1 (c6 ls)))],[]⟩) ?_;exact hT () (hii (by rw[hnone];simp) (fun a ha=>by rw[hnone]at ha;cases ha))
  intro hin;rw[hin]at hsu;have hA:(ls.take j).length=j:=by rw[z14];omega
  have hB:(ls.drop j).length=ls.length-j:=by rw[z18]
  have hfin:=ahl (ls.take j) (ls.drop j) e.1;rw[←hsu]at hfin;generalize ls.take j=A at*;generalize ls.drop j=B at*;have q1:(A.length*16≤aw)=True:=eq_true (by omega)
  have q2:(A.length≤aw)=True:=eq_true (by omega)
  have q3:((A.length+1)*16≤aw)=True:=eq_true (by omega)
  have q4:(A.length+1≤aw)=True:=eq_true (by omega)
  have q5:((A.length+1+B.length)*16≤aw)=True:=eq_true (by omega)
  have q6:(A.length+1+B.length≤aw)=True:=eq_true (by omega)
  have htB:(c6 B).take ((ls.length:Int)-(j:Int)).toNat=c6 B:=List.take_of_length_le (by rw[cy];omega)
  refine tl mixed ?_;refine AW.takes (fuel:=7) [1,2,3,5,6,7,8,12,13,14] ?_ (by simp only[go_sem,↓reduceIte,hg,htk,hdr,hjr,htB]<;>rfl) dt (listed':= #[false,true,true,true,false,true,true,true,true,false,false,false,true,true,true,false,false]) (by decide+kernel) (by decide+kernel)
  refine Aj (T:= ?Tend) (fun hT=> ?_) ?_;rotate_left
  ·skip
   refine ce (fuel:=6) (rs:=[0,9]) ?_ (by decide+kernel) (by simp)
   intro j hj;simp only[z13,z11,or_false]at hj;rcases hj with rfl|rfl
   ·skip
    refine ak ?_ (by simp only[go_sem,↓reduceIte,q1,q2,q3,q4,q5,q6,hg,cy,z03,z02,z04,z00,z01]<;>rfl)
    refine ce (fuel:=5) (rs:=[4,9]) ?_ (by decide+kernel) (by simp)
    intro j hj;simp only[z13,z11,or_false]at hj;rcases hj with rfl|rfl
    ·skip
     refine ak ?_ (by simp only[go_sem,↓reduceIte,q1,q2,q3,q4,q5,q6,hg,cy,z03,z02,z04,z00,z01]<;>rfl)
     refine bp (fuel:=0) (listed':=z07 17 true) [9,10,11,15,16] ?_ (by decide+kernel)
     refine ak ?_ (by simp only[go_sem,↓reduceIte,q1,q2,q3,q4,q5,q6,hg,cy,z03,z02,z04,z00,z01]<;>rfl)
     refine a8 (by decide+kernel) ?_
     refine bq [4,0,3] [] (s':=⟨63,[(4,.pv (.int .i64 i)),(0,.pv (.sl 2 (b9 es))),(3,.own 9 (c6 A++[.str e.1]++c6 B))],[]⟩) ?_;exact hT ()
    ·skip
     refine ak ?_ (by simp only[go_sem,↓reduceIte,q1,q2,q3,q4,q5,q6,hg,cy,z03,z02,z04,z00,z01]<;>rfl)
     refine ce (fuel:=4) (rs:=[4,10]) ?_ (by decide+kernel) (by simp)
     intro j hj;simp only[z13,z11,or_false]at hj;rcases hj with rfl|rfl
     ·skip
      refine ak ?_ (by simp only[go_sem,↓reduceIte,q1,q2,q3,q4,q5,q6,hg,cy,z03,z02,z04,z00,z01]<;>rfl)
      refine bp (fuel:=0) (listed':=z07 17 true) [10,11,15,16] ?_ (by decide+kernel)
      refine ak ?_ (by simp only[go_sem,↓reduceIte,q1,q2,q3,q4,q5,q6,hg,cy,z03,z02,z04,z00,z01]<;>rfl)
      refine a8 (by decide+kernel) ?_
      refine bq [4,0,3] [] (s':=⟨63,[(4,.pv (.int .i64 i)),(0,.pv (.sl 2 (b9 es))),(3,.own 9 (c6 A++[.str e.1]++c6 B))],[]⟩) ?_;exact hT ()
     ·skip
      refine ak ?_ (by simp only[go_sem,↓reduceIte,q1,q2,q3,q4,q5,q6,hg,cy,z03,z02,z04,z00,z01]<;>rfl)
      refine bp (fuel:=0) (listed':=z07 17 true) [4,11,15,16] ?_ (by decide+kernel)
      refine ak ?_ (by simp only[go_sem,↓reduceIte,q1,q2,q3,q4,q5,q6,hg,cy,z03,z02,z04,z00,z01]<;>rfl)
      refine a8 (by decide+kernel) ?_
      refine bq [4,0,3] [] (s':=⟨63,[(4,.pv (.int .i64 i)),(0,.pv (.sl 2 (b9 es))),(3,.own 9 (c6 A++[.str e.1]++c6 B))],[]⟩) ?_;exact hT ()
   ·skip
    refine ak ?_ (by simp only[go_sem,↓reduceIte,q1,q2,q3,q4,q5,q6,hg,cy,z03,z02,z04,z00,z01]<;>rfl)
    refine ce (fuel:=5) (rs:=[0,10]) ?_ (by decide+kernel) (by simp)
    intro j hj;simp only[z13,z11,or_false]at hj;rcases hj with rfl|rfl
    ·skip
     refine ak ?_ (by simp only[go_sem,↓reduceIte,q1,q2,q3,q4,q5,q6,hg,cy,z03,z02,z04,z00,z01]<;>rfl)
     refine ce (fuel:=4) (rs:=[4,10]) ?_ (by decide+kernel) (by simp)
     intro j hj;simp only[z13,z11,or_false]at hj;rcases hj with rfl|rfl
     ·skip
      refine ak ?_ (by simp only[go_sem,↓reduceIte,q1,q2,q3,q4,q5,q6,hg,cy,z03,z02,z04,z00,z01]<;>rfl)
      refine bp (fuel:=0) (listed':=z07 17 true) [10,11,15,16] ?_ (by decide+kernel)
      refine ak ?_ (by simp only[go_sem,↓reduceIte,q1,q2,q3,q4,q5,q6,hg,cy,z03,z02,z04,z00,z01]<;>rfl)
      refine a8 (by decide+kernel) ?_
      refine bq [4,0,3] [] (s':=⟨63,[(4,.pv (.int .i64 i)),(0,.pv (.sl 2 (b9 es))),(3,.own 9 (c6 A++[.str e.1]++c6 B))],[]⟩) ?_;exact hT ()
     ·skip
      refine ak ?_ (by simp only[go_sem,↓reduceIte,q1,q2,q3,q4,q5,q6,hg,cy,z03,z02,z04,z00,z01]<;>rfl)
      refine bp (fuel:=0) (listed':=z07 17 true) [4,11,15,16] ?_ (by decide+kernel)
      refine ak ?_ (by simp only[go_sem,↓reduceIte,q1,q2,q3,q4,q5,q6,hg,cy,z03,z02,z04,z00,z01]<;>rfl)
      refine a8 (by decide+kernel) ?_
      refine bq [4,0,3] [] (s':=⟨63,[(4,.pv (.int .i64 i)),(0,.pv (.sl 2 (b9 es))),(3,.own 9 (c6 A++[.str e.1]++c6 B))],[]⟩) ?_;exact hT ()
    ·skip
     refine ak ?_ (by simp only[go_sem,↓reduceIte,q1,q2,q3,q4,q5,q6,hg,cy,z03,z02,z04,z00,z01]<;>rfl)
     refine bp (fuel:=0) (listed':=z07 17 true) [0,4,11,15,16] ?_ (by decide+kernel)
     refine ak ?_ (by simp only[go_sem,↓reduceIte,q1,q2,q3,q4,q5,q6,hg,cy,z03,z02,z04,z00,z01]<;>rfl)
     refine a8 (by decide+kernel) ?_
     refine bq [4,0,3] [] (s':=⟨63,[(4,.pv (.int .i64 i)),(0,.pv (.sl 2 (b9 es))),(3,.own 9 (c6 A++[.str e.1]++c6 B))],[]⟩) ?_;exact hT ()
  rw[hfin];refine bj (.slot 3) ?_;refine aa ?_ (by simp only[go_sem,↓reduceIte,e1]<;>rfl)
  exact ah hK (i+1) (by omega) (by omega)
 have hge:i=es.length:=by have:=of_decide_eq_false hc;omega
 subst hge;rw[z10];refine aa ?_;exact ac (.pv _ .nil) rfl
theorem Ty(m:Man)(hv:m.v<2^64)(hl:m.es.length<2^29):Fn Tryz.prog 67 [] [.pv (Ak m)] (fun rs H'=>rs=[.own 5 (bytes (tw m).1),.pv (.int .i64 (tw m).2)]∧H'=[]):=by
 refine Fn.ob Tryz.f67 83 [.tmp 2,.tmp 3] fun C=> ?_
 have hroom:aw=140737488355328:=rfl;have hm:Ak m= .agg [.int .u64 (m.v:Int),.sl 1 (bytes m.prev),.sl 2 (b9 m.es),.sl 1 (bytes m.root)]:=rfl;have hwf:=Tw m (by omega)
 rw[hm]at hwf⊢;unfold tw;refine aa ?_;refine ap hwf (.pv _ .nil) ?_;refine aa ?_;refine AW.cond rfl (fun hc=> ?_) (fun hc=> ?_)
 ·have hw:fm m≠0:=by
   intro h;rw[h]at hc;exact absurd hc (by decide)
  rw[if_pos hw];refine aa ?_;refine ac (.move rfl (.pv _ .nil)) rfl
 have hw:fm m=0:=by
  have h2:((fm m:Int)==0)=true:=by simpa[bne]using hc
  have:=eq_of_beq h2;omega
 rw[if_neg (by simp[hw])]
 obtain⟨w1,w2,w3,w4,w5,w6⟩:=jt hw;have hnn:=Bt m.es;have hnl:(iw m.es).length≤m.es.length:=by rw[yw];exact vv _
 have hnm:=nr m.es;have hn64:∀s∈iw m.es,s.length≤64:=by
  intro s hs;obtain⟨e,he,rfl⟩:=(hnm s).1 hs;exact w6 e he
 have hnmS:∀e∈m.es,e.1∈Lg m.es:=fun e he=>(Zq m.es e.1).2 ⟨e,he,rfl⟩
 have hdf:=V4 m.es (by omega)
 unfold dc Hw;obtain⟨v,prev,es,root⟩:=m;simp only at*;clear hwf hw hm hc;have hdi:=pp es;have hbl:=gv v 8;have hh4:([.int .u8 67,.int .u8 83,.int .u8 75,.int .u8 49]:List PV)++bytes (iy v 8)=bytes ([67,83,75,49]++iy v 8):=rfl;have m4:(4≤maxLen)=True:=eq_true (jp 4);have r1:(4+(iy v 8).length≤aw)=True:=eq_true (by omega)
 have g1:(([67,83,75,49]++iy v 8:List Nat).length+32≤aw)=True:=eq_true (by rw[z00,hbl];simp;omega)
 have hdl:([67,83,75,49]++iy v 8++prev).length=44:=by simp[hbl,w2]
 generalize hns:iw es=ns at*;refine aa ?_ (by simp only[go_sem,↓reduceIte,m4]<;>rfl)
 refine ap (jo v 8 hv (by omega)) (.pv _ (.pv _ .nil)) ?_
 generalize iy v 8=bv at*;have g2:(bv.length+1+1+1+1+32≤aw)=True:=eq_true (by omega)
 refine aa ?_ (by simp only[go_sem,↓reduceIte,z01,z02,z04,r1,Gc,w2,g1,g2,List.cons_append,z03]<;>rfl)
 have hh5:(PV.int .u8 67::PV.int .u8 83::PV.int .u8 75::PV.int .u8 49::bytes (bv++prev))=bytes ([67,83,75,49]++bv++prev):=rfl;rw[hh5];clear hh4 hh5 g1;generalize [67,83,75,49]++bv++prev=hd at*;have wl:IntKind.u64.wrap (ns.length:Int)=(ns.length:Int):=ay (by omega)
 have wm:IntKind.u64.wrap (es.length:Int)=(es.length:Int):=ay (by omega)
 refine ap hdf (.pv _ .nil) ?_;refine aa ?_ (by simp only[go_sem,↓reduceIte,wl]<;>rfl)
 refine ap (cx hd ns.length (by omega) (by omega)) (.lend rfl c7 (.pv _ .nil)) ?_
 have l1:=bn (v:=ns.length) (by omega)
 have l2:=bn (v:=es.length) (by omega)
 have hal:(hd++cg ns.length).length≤54:=by rw[z00];omega
 generalize hd++cg ns.length=ha at*;refine aa ?_;refine aq (fun i:Nat=>⟨83,[(7,.pv (.int .i64 i)),(6,.pv (.sl 1 (c6 ns))),(5,.own 5 (bytes (ha++(ns.take i).flatMap jr))),(1,.ptr 1 0)],[(1,.cells 27 [.pv (.int .u64 v),.pv (.sl 1 (bytes prev)),.pv (.sl 2 (b9 es)),.pv (.sl 1 (bytes root))])]⟩) (fun i=>i≤ns.length) (fun i=>ns.length-i) [7,6,5,1] [1] 0 (z09 _) ?_ (hs:=by simp only[go_sem,↓reduceIte,z15,z19,z20]<;>rfl)
 rintro i hi K hK;refine aa ?_;refine AW.cond rfl (fun hc=> ?_) (fun hc=> ?_)
 ·have hlt:i<ns.length:=by have:=of_decide_eq_true hc;omega
  obtain⟨t,ht⟩:∃t,ns[i]?=some t:=⟨ns[i],z05 hlt⟩
  have hg:=pf ht;have htl:t.length≤64:=hn64 t (z08 ht);have htm:t.length≤maxLen:=Nat.le_trans htl (jp 64);have e1:IntKind.i64.wrap ((i:Int)+1)=((i+1:Nat):Int):=ai (by omega)
  have l1:(i<ns.length)=True:=eq_true hlt;have hfl:=jz jr 74 (ns.take i) (fun s hs=>ut s (hn64 s (List.mem_of_mem_take hs)))
  rw[z14]at hfl;have hfs:=Dz jr ht;have hbl:=ut t htl;have hnb:(nb t).length=t.length:=by simp[nb]
  refine aa ?_ (by simp only[go_sem,↓reduceIte,hg,l1]<;>rfl)
  refine Dp htm afb s9 afc ?_;rw[tm];refine aa ?_;refine ap (im (nb t) (by omega)) (.pv _ .nil) ?_
  have eb:cg (nb t).length++nb t=jr t:=by rw[hnb];rfl
  rw[eb];have hcl:((ha++(ns.take i).flatMap jr).length+(jr t).length≤aw)=True:=eq_true (by rw[z00];omega)
  have hfe:ha++(ns.take i).flatMap jr++jr t=ha++(ns.take (i+1)).flatMap jr:=by rw[hfs,List.append_assoc]
  generalize ha++(ns.take i).flatMap jr=bc at*;generalize jr t=bt at*;refine aa ?_ (by simp only[go_sem,↓reduceIte,hcl,e1]<;>rfl)
  exact ah hK (i+1) (by omega) (by omega) (hs:=by simp only[go_sem,↓reduceIte,hfe]<;>rfl)
 have hge:i=ns.length:=by have:=of_decide_eq_false hc;omega
 subst hge;have hfl:=jz jr 74 ns (fun s hs=>ut s (hn64 s hs))
 have hbl:(ha++ns.flatMap jr).length≤54+74*ns.length:=by rw[z00];omega
 rw[z10];generalize ha++ns.flatMap jr=hb at*;refine aa ?_ (by simp only[go_sem,↓reduceIte,wm]<;>rfl)
 refine ap (cx hb es.length (by omega) (by omega)) (.lend rfl c7 (.pv _ .nil)) ?_
 have hdl:(hb++cg es.length).length≤64+74*ns.length:=by rw[z00];omega
 refine aa ?_;generalize hb++cg es.length=hh at*;refine aq (fun i:Nat=>⟨83,[(8,.pv (.int .i64 i)),(6,.pv (.sl 1 (c6 ns))),(5,.own 5 (bytes (hh++(es.take i).flatMap (n7 ns)))),(1,.ptr 1 0)],[(1,.cells 27 [.pv (.int .u64 v),.pv (.sl 1 (bytes prev)),.pv (.sl 2 (b9 es)),.pv (.sl 1 (bytes root))])]⟩) (fun i=>i≤es.length) (fun i=>es.length-i) [8,6,5,1] [1] 0 (z09 _) ?_ (hs:=by simp only[go_sem,↓reduceIte,z15,z19,z20]<;>rfl)
 rintro i hi K hK;refine aa ?_;refine AW.cond rfl (fun hc=> ?_) (fun hc=> ?_)
 ·have hlt:i<es.length:=by have:=of_decide_eq_true hc;omega
  obtain⟨e,he⟩:∃e,es[i]?=some e:=⟨es[i],z05 hlt⟩
  have hg:=u3 he;have hem:=z08 he;have e1:IntKind.i64.wrap ((i:Int)+1)=((i+1:Nat):Int):=ai (by omega)
  have hfl:=jz (n7 ns) 11 (es.take i) (fun s hs=>Dg ns s (by omega))
  rw[z14]at hfl;have hfs:=Dz (n7 ns) he;have hpf:=Wr ns e.1 ((hnm e.1).2 ⟨e,hem,rfl⟩) (by omega)
  have hix:=aga ns e.1;obtain⟨q1,q2⟩:=w4 e hem;have e2:IntKind.u64.wrap ((ns.idxOf e.1:Nat):Int)=((ns.idxOf e.1:Nat):Int):=ay (by omega)
  have e3:IntKind.u8.wrap e.2=((e.2.toNat:Nat):Int):=by
   have:e.2=((e.2.toNat:Nat):Int):=by omega
   rw[this,wrap_u8,Int.toNat_natCast,Nat.mod_eq_of_lt (by omega)]
  have heB:n7 ns e=cg (ns.idxOf e.1)++[e.2.toNat]:=rfl;have hlx:=bn (v:=ns.idxOf e.1) (by omega)
  have hacl:(hh++(es.take i).flatMap (n7 ns)).length≤64+74*ns.length+11*es.length:=by rw[z00];omega
  have hfe:hh++(es.take i).flatMap (n7 ns)++cg (ns.idxOf e.1)++[e.2.toNat]=hh++(es.take (i+1)).flatMap (n7 ns):=by rw[hfs,heB];simp
  generalize hh++(es.take i).flatMap (n7 ns)=bc at*;generalize ns.idxOf e.1=ix at*;refine aa ?_ (by simp only[go_sem,↓reduceIte,hg]<;>rfl)
  refine ap hpf (.pv _ (.pv _ .nil)) ?_;refine aa ?_ (by simp only[go_sem,↓reduceIte,e2]<;>rfl)
  refine ap (cx bc ix (by omega) (by omega)) (.lend rfl c7 (.pv _ .nil)) ?_
  have hcl2:((bc++cg ix).length+1≤aw)=True:=eq_true (by rw[z00];omega)
  refine aa ?_ (by simp only[go_sem,↓reduceIte,hg,hcl2,e1,e3,m9,z01,z02,z04]<;>rfl)
  exact ah hK (i+1) (by omega) (by omega) (hs:=by simp only[go_sem,↓reduceIte,hfe]<;>rfl)
 have hge:i=es.length:=by have:=of_decide_eq_false hc;omega
 subst hge;have hfl:=jz (n7 ns) 11 es (fun s hs=>Dg ns s (by omega))
 rw[z10];have hcl:((hh++es.flatMap (n7 ns)).length+32≤aw)=True:=eq_true (by rw[z00];omega)
 generalize hh++es.flatMap (n7 ns)=hz at*;refine aa ?_ (by simp only[go_sem,↓reduceIte,w3,hcl]<;>rfl)
 refine ac (.move rfl (.pv _ .nil)) rfl
def Au(e:Int):PV:= .iface 121 (.agg [.int .i64 e])
theorem G4(e:Int):Kt Tryz.prog 84 [] [.pv (.int .i64 e)] (fun rs H'=>e=0∧rs=[]∧H'=[]) (fun p H'=>e≠0∧p=Au e∧H'=[]):=by
 refine Kt.of_body (fn:=Tryz.f84) (n:=7) (res:=[]) (by kernel_rfl) rfl rfl rfl rfl rfl (fun C=> ?_)
 refine aa ?_;refine AW.cond rfl (fun hc=> ?_) (fun hc=> ?_)
 ·have he:e≠0:=by simpa using hc
  refine aa ?_;refine aev (fun ch hch=> ?_)
  exact jx hch ⟨he,rfl,rfl⟩
 ·have he:e=0:=by simpa using hc
  refine aa ?_;refine tj .nil ⟨he,rfl,rfl⟩
theorem lc(b:Bool)(e:Int)(he0:e≠0):Kt Tryz.prog 78 [] [.pv (.bool b),.pv (.int .i64 e)] (fun rs H'=>b=true∧rs=[]∧H'=[]) (fun p H'=>b=false∧p=Au e∧H'=[]):=by
 refine Kt.of_body (fn:=Tryz.f78) (n:=8) (res:=[]) (by kernel_rfl) rfl rfl rfl rfl rfl (fun C=> ?_)
 refine aa ?_;cases b with
 |true=>
  refine ae rfl ?_;refine aa ?_;refine tj .nil ⟨rfl,rfl,rfl⟩
 |false=>
  refine am rfl ?_;refine aa ?_;refine cd (fun _=>0) (G4 e) (.pv _ .nil) (fun he ch hch=> ?_) (fun he=>absurd he he0)
  exact jx hch ⟨rfl,rfl,rfl⟩
theorem Df(v:Nat)(e:Int):Kt Tryz.prog 80 [] [.pv (.int .u64 v),.pv (.int .i64 e)] (fun rs H'=>e=0∧rs=[.pv (.int .u64 v)]∧H'=[]) (fun p H'=>e≠0∧p=Au e∧H'=[]):=by
 refine Kt.of_body (fn:=Tryz.f80) (n:=8) (res:=[.tmp 4]) (by kernel_rfl) rfl rfl rfl rfl rfl (fun C=> ?_)
 refine aa ?_;refine cd (fun _=>0) (G4 e) (.pv _ .nil) (fun he ch hch=> ?_) (fun he=> ?_)
 ·exact jx hch ⟨he,rfl,rfl⟩
 refine aa ?_;refine tj (.pv _ .nil) ⟨he,rfl,rfl⟩
theorem Pc(l:List Nat)(e:Int):Kt Tryz.prog 109 [] [.pv (.sl 1 (bytes l)),.pv (.int .i64 e)] (fun rs H'=>e=0∧rs=[.pv (.sl 1 (bytes l))]∧H'=[]) (fun p H'=>e≠0∧p=Au e∧H'=[]):=by
 refine Kt.of_body (fn:=Tryz.f109) (n:=8) (res:=[.tmp 4]) (by kernel_rfl) rfl rfl rfl rfl rfl (fun C=> ?_)
 refine aa ?_;refine cd (fun _=>0) (G4 e) (.pv _ .nil) (fun he ch hch=> ?_) (fun he=> ?_)
 ·exact jx hch ⟨he,rfl,rfl⟩
 refine aa ?_;refine tj (.pv _ .nil) ⟨he,rfl,rfl⟩
theorem Cz(l:List Nat)(n:Nat)(hl:l.length≤aw):Kt Tryz.prog 79 (i4 l) [.ptr 1000 0,.pv (.int .i64 n)]
  (fun rs H'=>n≤l.length∧rs=[.pv (.sl 1 (bytes (l.take n)))]∧H'=i4 (l.drop n)) (fun p H'=>l.length<n∧p=Au 2∧H'=i4 l):=by
 refine Kt.of_body (fn:=Tryz.f79) (n:=11) (res:=[.tmp 4]) (by kernel_rfl) rfl rfl rfl rfl rfl (fun C=> ?_)
 refine aa ?_;refine av id (pq l n hl) (.ptr rfl (.pv _ .nil)) ?_;refine aa ?_;refine bj (.slot 8) ?_;by_cases h:n≤l.length
 ·simp only[if_pos h];refine cd (fun _=>0) (Pc (l.take n) 0) (.pv _ (.pv _ .nil)) (fun he ch hch=>absurd rfl he) (fun he=> ?_)
  refine aa ?_;refine tj (.pv _ .nil) ⟨h,rfl,rfl⟩
 ·simp only[if_neg h];refine cd (fun _=>0) (Pc [] 2) (.pv _ (.pv _ .nil)) (fun he ch hch=> ?_) (fun he=>absurd he (by decide))
  exact jx hch ⟨by omega,rfl,rfl⟩
theorem Kb(q:List Nat)(hl:q.length≤aw)(hb:∀x∈q,x<256):Kt Tryz.prog 110 (i4 q) [.ptr 1000 0]
  (fun rs H'=>(ft q).2.1=0∧rs=[.pv (.int .i64 (ft q).1)]∧H'=i4 (ft q).2.2) (fun p H'=>(ft q).2.1≠0∧p=Au (ft q).2.1∧H'=i4 (ft q).2.2):=by
 refine Kt.of_body (fn:=Tryz.f110) (n:=14) (res:=[.tmp 2]) (by kernel_rfl) rfl rfl rfl rfl rfl (fun C=> ?_)
 refine aa ?_;refine av id (nx q hl hb) (.ptr rfl .nil) ?_;unfold ft;generalize q.drop (a6 q).2.1=q2;obtain⟨v,k,e⟩:=a6 q;simp only;refine aa ?_;refine cd (fun _=>0) (Df v e) (.pv _ (.pv _ .nil)) (fun he ch hch=> ?_) (fun he=> ?_)
 ·simp only[if_pos he];exact jx hch ⟨he,rfl,rfl⟩
 simp only[if_neg (show¬e≠0 by simpa using he)]
 by_cases hv:1048576<v
 ·simp only[if_pos hv];have d1:decide (v≤1048576)=false:=decide_eq_false (by omega)
  have d2:decide ((v:Int)≤1048576)=false:=decide_eq_false (by omega)
  refine aa ?_ (by simp only[go_sem,↓reduceIte,d1,d2]<;>rfl)
  refine cd (fun _=>0) (lc false 4 (by decide)) (.pv _ (.pv _ .nil)) (fun he ch hch=> ?_) (fun he=>absurd he (by decide))
  exact jx hch ⟨by decide,rfl,rfl⟩
 ·simp only[if_neg hv];have d1:decide (v≤1048576)=true:=decide_eq_true (by omega)
  have d2:decide ((v:Int)≤1048576)=true:=decide_eq_true (by omega)
  have ev:IntKind.i64.wrap (v:Int)=(v:Int):=au (by omega)
  refine aa ?_ (by simp only[go_sem,↓reduceIte,d1,d2]<;>rfl)
  refine cd (fun _=>0) (lc true 4 (by decide)) (.pv _ (.pv _ .nil)) (fun he ch hch=>absurd he (by decide)) (fun he=> ?_)
  refine aa ?_ (by simp only[go_sem,↓reduceIte,ev]<;>rfl)
  refine tj (.pv _ .nil) ⟨trivial,rfl,rfl⟩
theorem aip(q0:List Nat)(hl:q0.length≤2^40)(hb:∀x∈q0,x<256):Kt Tryz.prog 82 (i4 q0) [.ptr 1000 0]
  (fun rs H'=>(ed q0).2.1=0∧rs=[.pv (.sl 1 (c6 (ed q0).1))]∧H'=i4 (ed q0).2.2) (fun p H'=>(ed q0).2.1≠0∧p=Au (ed q0).2.1∧H'=i4 (ed q0).2.2):=by
 refine Kt.of_body (fn:=Tryz.f82) (n:=36) (res:=[.tmp 2]) (by kernel_rfl) rfl rfl rfl rfl rfl (fun C=> ?_)
 have hr:aw=140737488355328:=rfl;refine aa ?_;refine cd id (Kb q0 (by omega) hb) (.ptr rfl .nil) (fun he ch hch=> ?_) (fun he=> ?_)
 ·have e1:ed q0=([],(ft q0).2):=by unfold ed;rw[if_pos he]
  rw[e1];exact jx hch ⟨he,rfl,rfl⟩
 have e1:ed q0=D4 (ft q0).1 [] (ft q0).2.2:=by unfold ed;rw[if_neg (by simpa using he)]
 rw[e1];have hb1:=lg hb;have hl1:=uo q0;have hn:=G9 q0;generalize(ft q0).2.2=q1 at*;generalize(ft q0).1=n at*;clear he e1;refine aa ?_;refine aq (fun a:List (List UInt8)×List Nat=>⟨36,[(7,.pv (.int .i64 a.1.length)),(6,.pv (.int .i64 n)),(0,.ptr 1000 0),(3,.own 9 (c6 a.1))],[(1000,.cells 110 [.pv (.sl 1 (bytes a.2))])]⟩) (fun a=>a.1.length≤n∧D4 (n-a.1.length) a.1 a.2=D4 n [] q1∧(∀x∈a.2,x<256)∧a.2.length≤q1.length) (fun a=>n-a.1.length) [7,6,0,3] [1000] ([],q1) ⟨z09 _,rfl,hb1,z23 _⟩ ?_
 rintro⟨bc,q⟩ ⟨hi,htn,hqb,hql⟩ K hK;simp only at hi htn hqb hql;refine aa ?_;refine AW.cond rfl (fun hc=> ?_) (fun hc=> ?_)
 ·have hlt:bc.length<n:=by have:=of_decide_eq_true hc;omega
  obtain⟨m,hm⟩:∃m,n-bc.length=m+1:=⟨n-bc.length-1,by omega⟩
  have e0:D4 (m+1) bc q=if(blk q 64).2.1≠0 then([],(blk q 64).2.1,(blk q 64).2.2)else if Fq bc (ub (blk q 64).1)=true then D4 m (bc++[ub (blk q 64).1]) (blk q 64).2.2 else([],3,(blk q 64).2.2):=rfl
  rw[hm,e0]at htn;obtain⟨hbb,hrb,_,hrl⟩:=j8 (m:=64) hqb;refine aa ?_;refine av id (za q 64 (by decide) (by omega) hqb) (.ptr rfl (.pv _ .nil)) ?_
  generalize blk q 64=B at*;obtain⟨b,e,r⟩:=B;simp only at htn hbb hrb hrl;refine aa ?_;refine bj (.slot 11) ?_;refine cd (fun _=>0) (Pc b e) (.pv _ (.pv _ .nil)) (fun he ch hch=> ?_) (fun he=> ?_)
  ·rw[←htn,if_pos he];exact jx hch ⟨he,rfl,rfl⟩
  rw[if_neg (show¬e≠0 by simpa using he)]at htn
  refine aa ?_;have r1:((bc.length+1)*16≤aw)=True:=eq_true (by omega)
  have r2:(bc.length+1≤aw)=True:=eq_true (by omega)
  have ei:IntKind.i64.wrap ((bc.length:Int)+1)=((bc.length+1:Nat):Int):=ai (by omega)
  have hsn:=Ep bc (ub b);have hlen:(bc++[ub b]).length=bc.length+1:=by simp
  refine Aj (T:=Fq bc (ub b)=true→ ?Tok) (fun hT=> ?_) ?_;rotate_left
  ·by_cases hA:bc=[]
   ·have d0:decide (bc.length=0)=true:=by rw[hA];rfl
    have d0':(((bc.length:Nat):Int)==0)=true:=by rw[hA];rfl
    have d0'':(bc.length==0)=true:=by rw[hA];rfl
    refine u4 14 mixed (by decide+kernel) ?_ (by simp only[go_sem,↓reduceIte,d0,d0',d0'',z17,z15]<;>rfl)
    refine aa ?_;refine cd (fun _=>0) (lc true 3 (by decide)) (.pv _ (.pv _ .nil)) (fun he ch hch=>absurd he (by decide)) (fun he=> ?_)
    refine bq [7,6,0,3,4] [1000] (s':=⟨36,[(7,.pv (.int .i64 bc.length)),(6,.pv (.int .i64 n)),(0,.ptr 1000 0),(3,.own 9 (c6 bc)),(4,.pv (.sl 1 (bytes b)))],[(1000,.cells 110 [.pv (.sl 1 (bytes r))])]⟩) ?_;exact hT () (by rw[hA];rfl)
   ·obtain⟨l,hl⟩:∃l,bc.getLast?=some l:=⟨bc.getLast hA,List.getLast?_eq_some_getLast hA⟩
    have hpos:0<bc.length:=List.length_pos_iff.2 hA;have hok:=C9 (ub b) hl;rw[List.getLast?_eq_getElem?]at hl;have hg:=pf hl;have hll:(bc.length-1<bc.length)=True:=eq_true (by omega)
    have ej:IntKind.i64.wrap ((bc.length:Int)-1)=((bc.length-1:Nat):Int):=by rw[an (by omega) (by omega)];omega
    have d0:decide (bc.length=0)=false:=decide_eq_false (by omega)
    have d0':(((bc.length:Nat):Int)==0)=false:=by rw[beq_eq_false_iff_ne];omega
    have d0'':(bc.length==0)=false:=by rw[beq_eq_false_iff_ne];omega
    have hbl:Op.bytesLess l (ub b)=Fq bc (ub b):=by rw[bytesLess_eq,hok]
    refine u4 14 mixed (by decide+kernel) ?_ (by simp only[go_sem,↓reduceIte,d0,d0',d0'',ej,hg,hll,sw,ux,hbl,z17,z15]<;>rfl)
    refine aa ?_;refine cd (fun _=>0) (lc (Fq bc (ub b)) 3 (by decide)) (.pv _ (.pv _ .nil)) (fun he ch hch=> ?_) (fun he=> ?_)
    ·rw[←htn,if_neg (by rw[he];simp)]
     exact jx hch ⟨by simp,rfl,rfl⟩
    refine bq [7,6,0,3,4] [1000] (s':=⟨36,[(7,.pv (.int .i64 bc.length)),(6,.pv (.int .i64 n)),(0,.ptr 1000 0),(3,.own 9 (c6 bc)),(4,.pv (.sl 1 (bytes b)))],[(1000,.cells 110 [.pv (.sl 1 (bytes r))])]⟩) ?_;exact hT () he
  intro hok;rw[if_pos hok]at htn;refine aa ?_ (by simp only[go_sem,↓reduceIte,sw,ux,r1,r2,ei,hsn,z01,z02,z04]<;>rfl)
  refine ah hK (bc++[ub b],r) ⟨by rw[hlen];omega, ?_,hrb,by simp only;omega⟩ (by simp only[hlen];omega) (hs:=by simp only[go_sem,↓reduceIte,hlen]<;>rfl)
  rw[←htn];simp only[hlen]
  congr 1
  omega
 have hge:bc.length=n:=by have:=of_decide_eq_false hc;omega
 rw[hge,z22]at htn;rw[←htn];refine bj (.slot 3) ?_;refine aa ?_;refine tj (.pv _ .nil) ⟨rfl,rfl,rfl⟩
theorem J8(es:List je)(t:List UInt8)(x:Nat):b9 es++[.agg [.str t,.int .i64 (x:Int)]]=b9 (es++[rp t x]):=by simp[b9,aC3,rp]
theorem aco(x:Nat):decide (0<c9 (x:Int))=decide (x≤8):=by
 rw[z06];have:=wo (x:Int);simp only[decide_eq_true_eq];omega
theorem air(ts:List (List UInt8))(htl:ts.length<2^40)(q0:List Nat)(hl:q0.length≤2^40)(hb:∀x∈q0,x<256):Kt Tryz.prog 83 (i4 q0) [.ptr 1000 0,.pv (.sl 1 (c6 ts))]
  (fun rs H'=>(fc ts q0).2.1=0∧rs=[.pv (.sl 2 (b9 (fc ts q0).1))]∧H'=i4 (fc ts q0).2.2) (fun p H'=>(fc ts q0).2.1≠0∧p=Au (fc ts q0).2.1∧H'=i4 (fc ts q0).2.2):=by
 refine Kt.of_body (fn:=Tryz.f83) (n:=46) (res:=[.tmp 4]) (by kernel_rfl) rfl rfl rfl rfl rfl (fun C=> ?_)
 have hr:aw=140737488355328:=rfl;refine aa ?_;refine cd id (Kb q0 (by omega) hb) (.ptr rfl .nil) (fun he ch hch=> ?_) (fun he=> ?_)
 ·have e1:fc ts q0=([],(ft q0).2):=by unfold fc;rw[if_pos he]
  rw[e1];exact jx hch ⟨he,rfl,rfl⟩
 have e1:fc ts q0=D3 ts (ft q0).1 [] (ft q0).2.2:=by unfold fc;rw[if_neg (by simpa using he)]
 rw[e1];have hb1:=lg hb;have hl1:=uo q0;have hn:=G9 q0;generalize(ft q0).2.2=q1 at*;generalize(ft q0).1=n at*;clear he e1;refine aa ?_;refine aq (fun a:List je×List Nat=>⟨46,[(10,.pv (.int .i64 a.1.length)),(9,.pv (.int .i64 n)),(0,.ptr 1000 0),(1,.pv (.sl 1 (c6 ts))),(5,.own 55 (b9 a.1))],[(1000,.cells 110 [.pv (.sl 1 (bytes a.2))])]⟩) (fun a=>a.1.length≤n∧D3 ts (n-a.1.length) a.1 a.2=D3 ts n [] q1∧(∀x∈a.2,x<256)∧a.2.length≤q1.length) (fun a=>n-a.1.length) [10,9,0,1,5] [1000] ([],q1) ⟨z09 _,rfl,hb1,z23 _⟩ ?_
 rintro⟨bc,q⟩ ⟨hi,htn,hqb,hql⟩ K hK;simp only at hi htn hqb hql;refine aa ?_;refine AW.cond rfl (fun hc=> ?_) (fun hc=> ?_)
 ·have hlt:bc.length<n:=by have:=of_decide_eq_true hc;omega
  obtain⟨m,hm⟩:∃m,n-bc.length=m+1:=⟨n-bc.length-1,by omega⟩
  rw[hm,D3]at htn;have hb2:∀x∈q.drop (a6 q).2.1,x<256:=fun x hx=>hqb x (List.mem_of_mem_drop hx)
  have hl2:(q.drop (a6 q).2.1).length≤q.length:=by rw[z18];omega
  have hv:=sj hqb;refine aa ?_;refine av id (nx q (by omega) hqb) (.ptr rfl .nil) ?_
  generalize q.drop (a6 q).2.1=q2 at*;generalize a6 q=B at*;obtain⟨v,k0,e⟩:=B;simp only at htn hv;refine aa ?_;refine cd (fun _=>0) (Df v e) (.pv _ (.pv _ .nil)) (fun he ch hch=> ?_) (fun he=> ?_)
  ·rw[←htn,if_pos he];exact jx hch ⟨he,rfl,rfl⟩
  rw[if_neg (show¬e≠0 by simpa using he)]at htn
  have et:IntKind.u64.wrap (ts.length:Int)=(ts.length:Int):=ay (by omega)
  have d1:decide ((v:Int)<(ts.length:Int))=decide (v<ts.length):=by rw[z06];simp
  refine aa ?_ (by simp only[go_sem,↓reduceIte,et,d1]<;>rfl)
  refine cd (fun _=>0) (lc (decide (v<ts.length)) 3 (by decide)) (.pv _ (.pv _ .nil)) (fun he ch hch=> ?_) (fun he=> ?_)
  ·have:=of_decide_eq_false he;rw[←htn,if_pos (by omega)]
   exact jx hch ⟨by simp,rfl,rfl⟩
  have hvt:=of_decide_eq_true he;rw[if_neg (by omega)]at htn
  refine aa ?_;refine cd id (Cz q2 1 (by omega)) (.ptr rfl (.pv _ .nil)) (fun he ch hch=> ?_) (fun he=> ?_)
  ·rw[←htn,if_pos he];exact jx hch ⟨by simp,rfl,rfl⟩
  obtain⟨x,q3,rfl⟩:∃x r,q2=x::r:=by
   cases q2 with
   |nil=>simp at he
   |cons x r=>exact⟨x,r,rfl⟩
  have t1:(x::q3).take 1=[x]:=rfl;have t2:(x::q3).drop 1=q3:=rfl;have t3:(x::q3).headD 0=x:=rfl;rw[if_neg (by omega)]at htn
  rw[t1,t2];rw[t2,t3]at htn;have hx:=hb2 x (by simp)
  have hb3:∀y∈q3,y<256:=fun y hy=>hb2 y (by simp[hy])
  have hl3:q3.length≤q1.length:=by simp at hl2;omega
  have g0:(bytes [x])[0]?=some (.int .u8 (x:Int)):=rfl;have ex:IntKind.i64.wrap (x:Int)=(x:Int):=au (by omega)
  refine aa ?_ (by simp only[go_sem,↓reduceIte,g0,ex]<;>rfl)
  refine ap (Ou (x:Int)) (.pv _ .nil) ?_;have dp:=aco x;have dp':decide ((c9 (x:Int):Int)>0)=decide (x≤8):=by rw[←dp,z06];simp
  refine aa ?_ (by simp only[go_sem,↓reduceIte,dp,dp']<;>rfl)
  refine cd (fun _=>0) (lc (decide (x≤8)) 3 (by decide)) (.pv _ (.pv _ .nil)) (fun he ch hch=> ?_) (fun he=> ?_)
  ·have:=of_decide_eq_false he;rw[←htn,if_pos (by omega)]
   exact jx hch ⟨by simp,rfl,rfl⟩
  have hx8:=of_decide_eq_true he;rw[if_neg (by omega)]at htn
  have hgt:ts[v]?=some (ts.getD v []):=by rw[List.getD_eq_getElem?_getD,z05 hvt];rfl
  have hg:=pf hgt;generalize ts.getD v []=t at*;have r1:((bc.length+1)*24≤aw)=True:=eq_true (by omega)
  have r2:(bc.length+1≤aw)=True:=eq_true (by omega)
  have ei:IntKind.i64.wrap ((bc.length:Int)+1)=((bc.length+1:Nat):Int):=ai (by omega)
  have hsn:=J8 bc t x;have hlen:(bc++[rp t x]).length=bc.length+1:=by simp
  refine aa ?_;refine cr ?_;refine bu [[],[],[],[33,34],[35],[],[37],[38],[39]] ?_ (by simp only[go_sem,↓reduceIte,hg,g0,ex]<;>rfl)
  refine CK.build [36,40] ?_ (hf:=by simp only[go_sem,↓reduceIte,hg,g0,ex]<;>rfl)
  refine CK.list [41] ?_;refine CK.done (M:=11) 2 mixed ?_;refine bp (fuel:=0) (listed':=z07 13 true) [11,12] ?_ (by decide+kernel)
  refine ak ?_ (by simp only[go_sem,↓reduceIte,r1,r2,hsn,z01,z02,z04]<;>rfl)
  refine a8 (by decide+kernel) ?_
  refine aa ?_ (by simp only[go_sem,↓reduceIte,ei]<;>rfl)
  refine ah hK (bc++[rp t x],q3) ⟨by rw[hlen];omega, ?_,hb3,hl3⟩ (by simp only[hlen];omega) (hs:=by simp only[go_sem,↓reduceIte,hlen]<;>rfl)
  rw[←htn];simp only[hlen]
  congr 1
  omega
 have hge:bc.length=n:=by have:=of_decide_eq_false hc;omega
 rw[hge,z22]at htn;rw[←htn];refine bj (.slot 5) ?_;refine aa ?_;refine tj (.pv _ .nil) ⟨rfl,rfl,rfl⟩
end Go.Ck
