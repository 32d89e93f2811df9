/- What is proved here: parts of the proofs of this seat's statements (a verified evaluator for calls over pure values, its laws, and contracts of functions). No condition. -/
import Derived.Test.YtmkoabmapmehdaaGreatDoorKzh
import Derived.Test.YtmkoabmapmehdaaGreatDoorKzc
import Derived.Test.YtmkoabmapmehdaaGreatDoorKzd
import Derived.Test.YtmkoabmapmehdaaGreatDoorKzg
import Derived.Test.YtmkoabmapmehdaaGreatDoorKze
import Derived.Test.YtmkoabmapmehdaaGreatDoorKw
set_option linter.all false
open List renaming getElem?_eq_getElem→z00,length_append→z01,getElem?_eq_some_iff→z03,take_succ_eq_append_getElem→z05,not_mem_nil→z06,mem_of_getElem?→z07,mem_cons→z08,take_length→z09,length_take→z10,length_cons→z11,flatten_nil→z12,length_nil→z13,length_map→z14,take_append_drop→z15,take_zero→z16,replicate→z17,mem_of_mem_take→z18,flatten_append→z19,getElem?_map→z24,append_assoc→z25,append_nil→z27,mem_map→z29
open Nat renaming zero_le→z02,zero_add→z21,le_refl→z22,reduceMul→z28
open Bool renaming eq_iff_iff→z04
open Int renaming toNat_natCast→z20,toNat_of_nonneg→z23
open Array renaming replicate→z26
set_option maxRecDepth 100000
set_option maxHeartbeats 400000
namespace Go.Ck
open Go.Proofs
def B7(v:List Nat)(i:Nat):Nat:=u7 (v.take i)
theorem aba{v:List Nat}{i x:Nat}(h:v[i]?=some x):B7 v (i+1)=B7 v i*256+x:=by
 unfold B7;obtain⟨hi,rfl⟩:=z03.1 h;rw[z05 hi];unfold u7;rw[List.foldl_append];rfl
theorem acb(b:List Nat)(hl:b.length≤2^39)(hb:∀x∈b,x<256):Fn Tryz.prog 13 [] [.pv (.sl 1 (bytes b))]
  (fun rs H'=>rs=[.pv (Ak (afd b).1),.pv (.int .i64 (afd b).2)]∧H'=[]):=by
 refine Fn.ob Tryz.f13 154 [.cell 2 27,.tmp 3] fun C=> ?_
 have hr:aw=140737488355328:=rfl;have hA1:=Cp (n:=4) (s:=(b,0));have hA2:=(C8 (n:=4) (s:=(b,0)) hb).1;have hA3:=Iy (n:=4) (s:=(b,0));have e0:afd b=Hr (mf ((o7 4 (b,0)).1==[67,83,75,49]) 3 (o7 4 (b,0)).2):=rfl;rw[e0];clear e0
 refine aa ?_;refine av (fun _=>18) (Ia (b,0) 4 (by decide) (by simp only;omega)) (.ptr rfl (.pv _ .nil)) ?_
 generalize o7 4 (b,0)=h at*;obtain⟨h,s0⟩:=h;simp only at hA1 hA2 hA3⊢;refine aa ?_;refine av (args:=[.pv (.sl 1 (bytes h)),.pv (.sl 1 (bytes [67,83,75,49]))]) (fun _=>0) (Ds h [67,83,75,49] (by omega)) (.pv _ (.lend rfl c7 .nil)) ?_
 have e1:(h==[67,83,75,49])=decide (h=[67,83,75,49]):=by rw[z04];simp
 rw[e1];clear e1
 refine aa ?_;refine av (fun _=>18) (r6 s0 (decide (h=[67,83,75,49])) 3) (.ptr rfl (.pv _ (.pv _ .nil))) ?_
 have hB1:(mf (decide (h=[67,83,75,49])) 3 s0).1=s0.1:=nl;generalize mf (decide (h=[67,83,75,49])) 3 s0=s1 at*;clear hA3;obtain⟨q1,x1⟩:=s1;simp only at hB1;subst hB1;have hC1:=Cp (n:=8) (s:=(s0.1,x1));have hC2:=C8 (n:=8) (s:=(s0.1,x1)) hA2;have hC3:=Iy (n:=8) (s:=(s0.1,x1));have e0:Hr (s0.1,x1)=Hq (u7 (o7 8 (s0.1,x1)).1) (mf (u7 (o7 8 (s0.1,x1)).1 !=18446744073709551615) 3 (o7 8 (s0.1,x1)).2):=rfl;rw[e0];clear e0
 refine aa ?_;refine av (fun _=>18) (Ia (s0.1,x1) 8 (by decide) (by simp only;omega)) (.ptr rfl (.pv _ .nil)) ?_
 generalize o7 8 (s0.1,x1)=h at*;obtain⟨v,s2⟩:=h;simp only at hC1 hC2 hC3⊢;refine aa ?_;refine ar (.cell 2 1) 5 ?_;refine bj (.cell 2 1) ?_;refine ar (.cell 2 2) 55 ?_;refine bj (.cell 2 2) ?_;refine ar (.cell 2 3) 5 ?_;refine bj (.cell 2 3) ?_;refine ar (.cell 6 1) 5 ?_;refine bj (.cell 6 1) ?_;refine ar (.cell 6 3) 5 ?_;refine bj (.cell 6 3) ?_;refine ar (.cell 6 2) 55 ?_;obtain⟨q2,x2⟩:=s2;simp only at hC1 hC2⊢;obtain⟨hC2,hC4⟩:=hC2;have hvl:∀i,B7 v i<2^64:=fun i=>by
  have h1:=Ik (v.take i) (fun x hx=>hC4 x (z18 hx))
  have h2:256^ (v.take i).length≤256^8:=Nat.pow_le_pow_right (by omega) (by rw[z10];omega)
  unfold B7;omega
 refine aq (fun i:Nat=>⟨154,[(8,.pv (.int .i64 i)),(7,.pv (.sl 1 (bytes v))),(4,.ptr 18 0),(6,.ptr 6 0),(2,.ptr 2 0),(3,.pv (.int .i64 0))],[(6,.cells 27 [.pv (.int .u64 (B7 v i)),.pv (.sl 1 []),.own 55 [],.pv (.sl 1 [])]),(18,.cells 79 [.pv (.sl 1 (bytes q2)),.pv (.int .i64 x2)]),(2,.cells 27 [.pv (.int .u64 0),.pv (.sl 1 []),.pv (.sl 2 []),.pv (.sl 1 [])])]⟩) (fun i=>i≤v.length) (fun i=>v.length-i) [8,7,4,6,2,3] [6,18,2] 0 (z02 _) ?_
 rintro i hi K hK;refine aa ?_;refine AW.cond rfl (fun hc=> ?_) (fun hc=> ?_)
 ·have hlt:i<v.length:=by have:=of_decide_eq_true hc;omega
  obtain⟨x,hx⟩:∃x,v[i]?=some x:=⟨v[i],z00 hlt⟩
  have hx8:=hC4 x (z07 hx);have hg:(bytes v)[i]?=some (.int .u8 (x:Int)):=by unfold bytes;rw[z24,hx];rfl
  have hs:=aba hx;have hs2:=hvl (i+1);have w1:IntKind.u64.wrap ((B7 v i:Int)*256)=((B7 v i*256:Nat):Int):=ay (n:=B7 v i*256) (by omega)
  have w2:IntKind.u64.wrap (((B7 v i*256:Nat):Int)+(x:Int))=((B7 v (i+1):Nat):Int):=by rw[hs];exact ay (n:=B7 v i*256+x) (by omega)
  have w3:IntKind.u64.wrap (x:Int)=(x:Int):=ay (by omega)
  have ei:IntKind.i64.wrap ((i:Int)+1)=((i+1:Nat):Int):=ai (by omega)
  refine aa ?_;refine cr ?_;refine bu [[],[35],[36],[],[],[38,39],[40],[41],[37,42]] ?_ (by simp only[go_sem,↓reduceIte,hg,w1,w2,w3]<;>rfl)
  refine CK.done (M:=9) 2 mixed ?_;refine bp (fuel:=0) (listed':=z26 11 true) [9,10] ?_ (by decide+kernel)
  refine ak ?_;refine a8 (by decide+kernel) ?_
  refine aa ?_ (by simp only[go_sem,↓reduceIte,ei]<;>rfl)
  exact ah hK (i+1) (by omega) (by omega)
 have hge:i=v.length:=by have:=of_decide_eq_false hc;omega
 have hve:B7 v i=u7 v:=by unfold B7;rw[List.take_of_length_le (by omega)]
 have hv64:=hvl i;rw[hve]at hv64⊢;clear hve hvl;generalize u7 v=ver at*;clear hge hi hc hC3 hC4;have dv:((ver:Int) !=18446744073709551615)=(ver !=18446744073709551615):=by rw[z04];simp;omega
 refine aa ?_ (by simp only[go_sem,↓reduceIte,dv]<;>rfl)
 refine av (fun _=>18) (r6 (q2,x2) (ver !=18446744073709551615) 3) (.ptr rfl (.pv _ (.pv _ .nil))) ?_
 have hD1:(mf (ver !=18446744073709551615) 3 (q2,x2)).1=q2:=nl;generalize mf (ver !=18446744073709551615) 3 (q2,x2)=s3 at*;obtain⟨q3,x3⟩:=s3;simp only at hD1;subst hD1;have hE1:=Cp (n:=32) (s:=(q3,x3));have hE2:=(C8 (n:=32) (s:=(q3,x3)) hC2).1;have e0:Hq ver (q3,x3)=Hp ver (o7 32 (q3,x3)).1 (o7 32 (q3,x3)).2:=rfl;rw[e0];clear e0
 refine aa ?_;refine av (fun _=>18) (Ia (q3,x3) 32 (by decide) (by simp only;omega)) (.ptr rfl (.pv _ .nil)) ?_
 generalize o7 32 (q3,x3)=h at*;obtain⟨prev,q4,x4⟩:=h;simp only at hE1 hE2⊢;have e0:Hp ver prev (q4,x4)=Ho ver prev (Qw (q4,x4)).1 (Qw (q4,x4)).2:=rfl;rw[e0];clear e0
 have hF1:=apb (q4,x4) hE2;have hF2:=ah1 (q4,x4) hE2;have hF3:=aG9 (q4,x4);refine aa ?_;refine av (fun _=>18) (aAd (q4,x4) (by simp only;omega) hE2) (.ptr rfl .nil) ?_
 generalize Qw (q4,x4)=h at*;obtain⟨ts,q5,x5⟩:=h;simp only at hF1 hF2 hF3⊢;have e0:Ho ver prev ts (q5,x5)=Hn ver prev (Hf ts (q5,x5)).1 (Hf ts (q5,x5)).2.1 (Hf ts (q5,x5)).2.2:=rfl;rw[e0];clear e0
 have e0:Hf ts (q5,x5)=Ld ts (p8 (q5,x5)).1 (z17 ts.length false) [] (mf (decide ((p8 (q5,x5)).1≤1048576)) 4 (p8 (q5,x5)).2):=rfl;rw[e0];clear e0
 have hG1:=G1 (s:=(q5,x5));obtain⟨hG2,hG3⟩:=yq (s:=(q5,x5)) hF2;refine aa ?_;refine av (fun _=>18) (Vo (q5,x5) (by simp only;omega) hF2) (.ptr rfl .nil) ?_
 generalize p8 (q5,x5)=h at*;obtain⟨n,q6,x6⟩:=h;simp only at hG1 hG2 hG3⊢;have d1:decide ((n:Int)≤1048576)=decide (n≤1048576):=by rw[z04];simp;omega
 refine aa ?_ (by simp only[go_sem,↓reduceIte,d1]<;>rfl)
 refine av (fun _=>18) (r6 (q6,x6) (decide (n≤1048576)) 4) (.ptr rfl (.pv _ (.pv _ .nil))) ?_
 have hH1:(mf (decide (n≤1048576)) 4 (q6,x6)).1=q6:=nl;have hH2:(mf (decide (n≤1048576)) 4 (q6,x6)).2=0→n≤1048576:=fun h=>of_decide_eq_true (C7 (by decide) h).2
 generalize mf (decide (n≤1048576)) 4 (q6,x6)=h at*;obtain⟨q7,x7⟩:=h;simp only at hH1 hH2;subst hH1;have rt:(ts.length≤aw)=True:=eq_true (by omega)
 have hrep:=aef ts.length false;refine aa ?_ (by simp only[go_sem,↓reduceIte,rt,hrep,z20]<;>rfl)
 refine aq (fun a:Nat×List Bool×List je×nh=>⟨154,[(12,.pv (.int .u64 a.1)),(10,.pv (.int .u64 n)),(4,.ptr 18 0),(9,.pv (.sl 1 (c6 ts))),(11,.own 4 (qj a.2.1)),(6,.ptr 6 0),(2,.ptr 2 0),(3,.pv (.int .i64 0))],[(6,.cells 27 [.pv (.int .u64 ver),.pv (.sl 1 (bytes prev)),.own 55 (b9 a.2.2.1),.pv (.sl 1 [])]),(18,.cells 79 [.pv (.sl 1 (bytes a.2.2.2.1)),.pv (.int .i64 a.2.2.2.2)]),(2,.cells 27 [.pv (.int .u64 0),.pv (.sl 1 []),.pv (.sl 2 []),.pv (.sl 1 [])])]⟩) (fun a=>a.1≤n∧Ld ts (n-a.1) a.2.1 a.2.2.1 a.2.2.2=Ld ts n (z17 ts.length false) [] (q7,x7)∧(∀x∈a.2.2.2.1,x<256)∧a.2.2.2.1.length≤b.length∧(a.2.2.2.2=0→n≤1048576)∧a.2.2.1.length≤a.1∧a.2.1.length=ts.length) (fun a=>n-a.1) [12,10,4,9,11,6,2,3] [6,18,2] (0,z17 ts.length false,[],(q7,x7)) ⟨z02 _,rfl,hG2,by simp only;omega,hH2,z22 _,by simp⟩ ?_
 rintro⟨i,us,es,⟨q,x⟩⟩ ⟨hi,htn,hqb,hql,hn,hesl,husl⟩ K hK;simp only at hi htn hqb hql hn hesl husl;by_cases hc:i<n∧x=0
 ·obtain⟨hlt,he⟩:=hc;subst he;have hn:=hn rfl;obtain⟨m,hm⟩:∃m,n-i=m+1:=⟨n-i-1,by omega⟩
  have e0:Ld ts (m+1) us es (q,0)=if(ya ts (q,0)).2=0 then Ld ts m (us.set (p8 (q,0)).1 true) (es++[rp (ts.getD (p8 (q,0)).1 []) ((o7 1 (D6 ts (q,0))).1.headD 0)]) (ya ts (q,0))else Ld ts m us es (ya ts (q,0)):=by conv=>lhs;unfold Ld;rw[if_neg (by simp)]
  rw[hm,e0]at htn;clear e0;have hz:=acd (ts:=ts) (s:=(q,0));have e1:ya ts (q,0)=mf (qg (o7 1 (D6 ts (q,0))).1) 3 (o7 1 (D6 ts (q,0))).2:=rfl;rw[e1]at htn hz;clear e1;have e2:D6 ts (q,0)=mf (decide ((p8 (q,0)).1<ts.length)) 3 (p8 (q,0)).2:=rfl;rw[e2]at htn hz;clear e2;have d1:decide ((i:Int)<(n:Int))=true:=decide_eq_true (by omega)
  have d1':decide (i<n)=true:=decide_eq_true hlt;have g0:((0:Int)==0)=true:=rfl;have ei:IntKind.u64.wrap ((i:Int)+1)=((i+1:Nat):Int):=ay (n:=i+1) (by omega)
  have hV1:=G1 (s:=(q,0));obtain⟨hV2,hV3⟩:=yq (s:=(q,0)) hqb;refine ak ?_ (by simp only[go_sem,↓reduceIte,g0,d1,d1']<;>rfl)
  refine am rfl ?_;refine aa ?_;refine av (fun _=>18) (Vo (q,0) (by simp only;omega) hqb) (.ptr rfl .nil) ?_
  generalize p8 (q,0)=h at*;obtain⟨v,q8,x8⟩:=h;simp only at hV1 hV2 hV3 htn hz;have et:IntKind.u64.wrap (ts.length:Int)=(ts.length:Int):=ay (by omega)
  have dv:decide ((v:Int)<(ts.length:Int))=decide (v<ts.length):=by rw[z04];simp
  refine aa ?_ (by simp only[go_sem,↓reduceIte,et,dv]<;>rfl)
  refine av (fun _=>18) (r6 (q8,x8) (decide (v<ts.length)) 3) (.ptr rfl (.pv _ (.pv _ .nil))) ?_
  have hW1:(mf (decide (v<ts.length)) 3 (q8,x8)).1=q8:=nl;generalize mf (decide (v<ts.length)) 3 (q8,x8)=h at*;obtain⟨q9,x9⟩:=h;simp only at hW1;subst hW1;have hB1:=Cp (n:=1) (s:=(q9,x9));obtain⟨hB2,hB3⟩:=C8 (n:=1) (s:=(q9,x9)) hV2;have hB4:=Iy (n:=1) (s:=(q9,x9));refine aa ?_;refine av (fun _=>18) (Ia (q9,x9) 1 (by decide) (by simp only;omega)) (.ptr rfl (.pv _ .nil)) ?_
  generalize o7 1 (q9,x9)=h at*;obtain⟨kb,q10,x10⟩:=h;simp only at hB1 hB2 hB3 hB4 htn hz;refine aa ?_;refine Aj (T:= ?Tok) (fun hT=> ?_) ?_;rotate_left
  ·by_cases hk1:kb.length=1
   ·obtain⟨y,hkb⟩:∃y,kb=[y]:=by
     match kb,hk1 with
     |[y],_=>exact⟨y,rfl⟩
    have hgy:(bytes kb)[0]?=some (.int .u8 (y:Int)):=by rw[hkb];rfl
    have dy:decide ((y:Int)≤8)=qg kb:=by rw[hkb,Ml,z04];simp;omega
    have d2:((kb.length:Int)==1)=true:=by rw[beq_iff_eq];omega
    refine ak ?_ (by simp only[go_sem,↓reduceIte,hgy,dy,d2]<;>rfl)
    refine av (fun _=>18) (r6 (q10,x10) (qg kb) 3) (.ptr rfl (.pv _ (.pv _ .nil))) ?_
    refine bq [12,10,4,9,11,6,2,3,13,14] [6,18,2] (s':=⟨154,[(12,.pv (.int .u64 i)),(10,.pv (.int .u64 n)),(4,.ptr 18 0),(9,.pv (.sl 1 (c6 ts))),(11,.own 4 (qj us)),(6,.ptr 6 0),(2,.ptr 2 0),(3,.pv (.int .i64 0)),(13,.pv (.int .u64 v)),(14,.pv (.sl 1 (bytes kb)))],[(6,.cells 27 [.pv (.int .u64 ver),.pv (.sl 1 (bytes prev)),.own 55 (b9 es),.pv (.sl 1 [])]),(18,.cells 79 [.pv (.sl 1 (bytes (mf (qg kb) 3 (q10,x10)).1)),.pv (.int .i64 (mf (qg kb) 3 (q10,x10)).2)]),(2,.cells 27 [.pv (.int .u64 0),.pv (.sl 1 []),.pv (.sl 2 []),.pv (.sl 1 [])])]⟩) ?_;exact hT ()
   ·have hk0:kb=[]:=List.eq_nil_of_length_eq_zero (by omega)
    have hok:qg kb=false:=by rw[hk0];rfl
    have d2:((kb.length:Int)==1)=false:=by rw[beq_eq_false_iff_ne];omega
    refine ak ?_ (by simp only[go_sem,↓reduceIte,d2]<;>rfl)
    refine av (fun _=>18) (r6 (q10,x10) false 3) (.ptr rfl (.pv _ (.pv _ .nil))) ?_
    rw[show mf false 3 (q10,x10)=mf (qg kb) 3 (q10,x10)by rw[hok]]
    refine bq [12,10,4,9,11,6,2,3,13,14] [6,18,2] (s':=⟨154,[(12,.pv (.int .u64 i)),(10,.pv (.int .u64 n)),(4,.ptr 18 0),(9,.pv (.sl 1 (c6 ts))),(11,.own 4 (qj us)),(6,.ptr 6 0),(2,.ptr 2 0),(3,.pv (.int .i64 0)),(13,.pv (.int .u64 v)),(14,.pv (.sl 1 (bytes kb)))],[(6,.cells 27 [.pv (.int .u64 ver),.pv (.sl 1 (bytes prev)),.own 55 (b9 es),.pv (.sl 1 [])]),(18,.cells 79 [.pv (.sl 1 (bytes (mf (qg kb) 3 (q10,x10)).1)),.pv (.int .i64 (mf (qg kb) 3 (q10,x10)).2)]),(2,.cells 27 [.pv (.int .u64 0),.pv (.sl 1 []),.pv (.sl 2 []),.pv (.sl 1 [])])]⟩) ?_;exact hT ()
  have hB5:(mf (qg kb) 3 (q10,x10)).1=q10:=nl;generalize mf (qg kb) 3 (q10,x10)=h at*;obtain⟨q11,x11⟩:=h;simp only at hB5 htn hz;subst hB5;by_cases hx11:x11=0
  ·subst hx11;obtain⟨hvt,hok⟩:=hz rfl;rw[if_pos rfl]at htn;obtain⟨y,hkb⟩:∃y,kb=[y]:=by
    unfold qg at hok;rw[Bool.and_eq_true]at hok
    match kb,of_decide_eq_true hok.1 with
    |[y],_=>exact⟨y,rfl⟩
   subst hkb;have hy:=hB3 y (by simp)
   have hgt:ts[v]?=some (ts.getD v []):=by rw[List.getD_eq_getElem?_getD,z00 hvt];rfl
   have hg:=pf hgt;have t3:([y]:List Nat).headD 0=y:=rfl;rw[t3]at htn;generalize ts.getD v []=tn at*;have hgy:(bytes [y])[0]?=some (.int .u8 (y:Int)):=rfl;have hvu:(v<us.length)=True:=eq_true (by omega)
   have hvu':(v<(qj us).length)=True:=by rw[Af];exact hvu
   have hbs:=aee us v true;have hgu:=Nk (z00 (show v<us.length by omega))
   have ey:IntKind.i64.wrap (y:Int)=(y:Int):=au (by omega)
   have r1:((es.length+1)*24≤aw)=True:=eq_true (by omega)
   have r2:(es.length+1≤aw)=True:=eq_true (by omega)
   have hsn:=J8 es tn y;have hlen:(es++[rp tn y]).length=es.length+1:=by simp
   refine aa ?_ (by simp only[go_sem,↓reduceIte,g0]<;>rfl)
   refine am rfl ?_;refine aa ?_ (by simp only[go_sem,↓reduceIte,hvu,hvu',Af,hbs,hgu]<;>rfl)
   refine cr ?_;refine bu [[],[106],[],[],[108,109],[110],[],[112],[113],[114]] ?_ (by simp only[go_sem,↓reduceIte,hg,hgy,ey]<;>rfl)
   refine CK.build [111,115] ?_ (hf:=by simp only[go_sem,↓reduceIte,hg,hgy,ey]<;>rfl)
   refine CK.list [116] ?_;refine CK.done (M:=12) 3 mixed ?_;refine bp (fuel:=0) (listed':=z26 15 true) [12,13,14] ?_ (by decide+kernel)
   refine ak ?_ (by simp only[go_sem,↓reduceIte,r1,r2,hsn,z11,z13,z21]<;>rfl)
   refine a8 (by decide+kernel) ?_
   refine aa ?_ (by simp only[go_sem,↓reduceIte,ei]<;>rfl)
   refine ah hK (i+1,us.set v true,es++[rp tn y],(q11,0)) ⟨by simp only;omega, ?_,hB2,by simp only;omega,fun _=>hn,by simp only[hlen];omega,by simp only[List.length_set];exact husl⟩ (by simp only;omega)
   rw[←htn];simp only
   congr 1
   omega
  ·have g1:(x11==0)=false:=beq_eq_false_iff_ne.2 hx11;rw[if_neg hx11]at htn;refine aa ?_ (by simp only[go_sem,↓reduceIte,g1]<;>rfl)
   refine ae rfl ?_;refine aa ?_ (by simp only[go_sem,↓reduceIte,ei]<;>rfl)
   refine ah hK (i+1,us,es,(q11,x11)) ⟨by simp only;omega, ?_,hB2,by simp only;omega,fun _=>hn,by simp only;omega,husl⟩ (by simp only;omega)
   rw[←htn];simp only
   congr 1
   omega
 have hfin:Ld ts n (z17 ts.length false) [] (q7,x7)=(us,es,(q,x)):=by
  rw[←htn];by_cases h:x=0
  ·rw[show n-i=0 by have:=fun k=>hc ⟨k,h⟩;omega];rfl
  ·exact Co ts _ us es (s:=(q,x)) h
 rw[hfin];clear hfin htn;refine Aj (T:= ?Tend) (fun hT=> ?_) ?_;rotate_left
 ·by_cases hlt:i<n
  ·have d1:decide ((i:Int)<(n:Int))=true:=decide_eq_true (by omega)
   have d1':decide (i<n)=true:=decide_eq_true (by omega)
   have g0:(x==0)=false:=beq_eq_false_iff_ne.2 (fun k=>hc ⟨hlt,k⟩)
   refine ak ?_ (by simp only[go_sem,↓reduceIte,g0,d1,d1']<;>rfl)
   refine bq [73,4,11,6,2,3] [6,18,2] (s':=⟨154,[(73,.pv (.bool false)),(4,.ptr 18 0),(11,.own 4 (qj us)),(6,.ptr 6 0),(2,.ptr 2 0),(3,.pv (.int .i64 0))],[(6,.cells 27 [.pv (.int .u64 ver),.pv (.sl 1 (bytes prev)),.own 55 (b9 es),.pv (.sl 1 [])]),(18,.cells 79 [.pv (.sl 1 (bytes q)),.pv (.int .i64 x)]),(2,.cells 27 [.pv (.int .u64 0),.pv (.sl 1 []),.pv (.sl 2 []),.pv (.sl 1 [])])]⟩) ?_;exact hT ()
  ·have d1:decide ((i:Int)<(n:Int))=false:=decide_eq_false (by omega)
   have d1':decide (i<n)=false:=decide_eq_false (by omega)
   refine ak ?_ (by simp only[go_sem,↓reduceIte,d1,d1']<;>rfl)
   refine bq [73,4,11,6,2,3] [6,18,2] (s':=⟨154,[(73,.pv (.bool false)),(4,.ptr 18 0),(11,.own 4 (qj us)),(6,.ptr 6 0),(2,.ptr 2 0),(3,.pv (.int .i64 0))],[(6,.cells 27 [.pv (.int .u64 ver),.pv (.sl 1 (bytes prev)),.own 55 (b9 es),.pv (.sl 1 [])]),(18,.cells 79 [.pv (.sl 1 (bytes q)),.pv (.int .i64 x)]),(2,.cells 27 [.pv (.int .u64 0),.pv (.sl 1 []),.pv (.sl 2 []),.pv (.sl 1 [])])]⟩) ?_;exact hT ()
 refine ae rfl ?_;have hP1:=Cp (n:=32) (s:=(q,x));refine aa ?_;refine av (fun _=>18) (Ia (q,x) 32 (by decide) (by simp only;omega)) (.ptr rfl (.pv _ .nil)) ?_
 have e0:Hn ver prev us es (q,x)=if(Yl us (mf (decide ((o7 32 (q,x)).2.1.length=0)) 3 (o7 32 (q,x)).2)).2≠0 then Fr (Yl us (mf (decide ((o7 32 (q,x)).2.1.length=0)) 3 (o7 32 (q,x)).2)).2 else(⟨ver,prev,es,(o7 32 (q,x)).1⟩,0):=rfl
 rw[e0];clear e0;generalize o7 32 (q,x)=h at*;obtain⟨root,qa,xa⟩:=h;simp only at hP1⊢;have dq:((qa.length:Int)==0)=decide (qa.length=0):=by rw[z04];simp
 refine aa ?_ (by simp only[go_sem,↓reduceIte,dq]<;>rfl)
 refine av (fun _=>18) (r6 (qa,xa) (decide (qa.length=0)) 3) (.ptr rfl (.pv _ (.pv _ .nil))) ?_
 generalize mf (decide (qa.length=0)) 3 (qa,xa)=sb at*;refine aa ?_;refine aq (fun a:Nat×nh=>⟨154,[(15,.pv (.int .i64 a.1)),(4,.ptr 18 0),(11,.own 4 (qj us)),(6,.ptr 6 0),(2,.ptr 2 0),(3,.pv (.int .i64 0))],[(6,.cells 27 [.pv (.int .u64 ver),.pv (.sl 1 (bytes prev)),.own 55 (b9 es),.pv (.sl 1 (bytes root))]),(18,.cells 79 [.pv (.sl 1 (bytes a.2.1)),.pv (.int .i64 a.2.2)]),(2,.cells 27 [.pv (.int .u64 0),.pv (.sl 1 []),.pv (.sl 2 []),.pv (.sl 1 [])])]⟩) (fun a=>a.1≤us.length∧Yl (us.drop a.1) a.2=Yl us sb) (fun a=>us.length-a.1) [15,4,11,6,2,3] [6,18,2] (0,sb) ⟨z02 _,rfl⟩ ?_
 rintro⟨j,qc,xc⟩ ⟨hj,hju⟩ K hK;simp only at hj hju;refine aa ?_ (by simp only[go_sem,↓reduceIte,Af]<;>rfl)
 refine AW.cond rfl (fun hc=> ?_) (fun hc=> ?_)
 ·have hlt:j<us.length:=by have:=of_decide_eq_true hc;omega
  obtain⟨u,hu⟩:∃u,us[j]?=some u:=⟨us[j],z00 hlt⟩
  have hgu:=Nk hu;have hul:(j<us.length)=True:=eq_true hlt;have ej:IntKind.i64.wrap ((j:Int)+1)=((j+1:Nat):Int):=ai (by omega)
  rw[aAa hu]at hju;refine aa ?_ (by simp only[go_sem,↓reduceIte,Af,hgu,hul]<;>rfl)
  refine av (fun _=>18) (r6 (qc,xc) u 3) (.ptr rfl (.pv _ (.pv _ .nil))) ?_
  refine aa ?_ (by simp only[go_sem,↓reduceIte,ej]<;>rfl)
  exact ah hK (j+1,mf u 3 (qc,xc)) ⟨by simp only;omega,hju⟩ (by simp only;omega)
 have hge:us.length≤j:=by have:=of_decide_eq_false hc;omega
 rw[az9 hge]at hju;rw[←hju];refine aa ?_;refine AW.cond rfl (fun hc=> ?_) (fun hc=> ?_)
 ·have hx:xc≠0:=by simpa using hc
  rw[if_pos hx];refine aa ?_;refine tl mixed ?_;refine Aj (T:= ?Tz) (fun hT=> ?_) ?_;rotate_left
  ·skip
   refine AW.takes (fuel:=6) [1] ?_ (by simp only[go_sem,↓reduceIte]<;>rfl) dt (listed':= #[false,true,false,false,false,false,false]) (by decide+kernel) (by decide+kernel)
   refine ce (fuel:=5) (rs:=[0,2]) ?_ (by decide+kernel) (by simp)
   intro j hj;simp only[z08,z06,or_false]at hj;rcases hj with rfl|rfl
   ·skip
    refine ak ?_;refine ce (fuel:=4) (rs:=[2,5]) ?_ (by decide+kernel) (by simp)
    intro j hj;simp only[z08,z06,or_false]at hj;rcases hj with rfl|rfl
    ·skip
     refine ak ?_;refine AW.takes (fuel:=3) [3] ?_ (by simp only[go_sem,↓reduceIte]<;>rfl) dt (listed':= #[true,true,true,true,false,false,false]) (by decide+kernel) (by decide+kernel)
     refine ce (fuel:=2) (rs:=[4,5]) ?_ (by decide+kernel) (by simp)
     intro j hj;simp only[z08,z06,or_false]at hj;rcases hj with rfl|rfl
     ·skip
      refine ak ?_;refine bp (fuel:=0) (listed':= #[true,true,true,true,true,true,true]) [5,6] ?_ (by decide+kernel)
      refine ak ?_;refine a8 (by decide+kernel) ?_
      refine bq [3,2] [2] (s':=⟨154,[(3,.pv (.int .i64 xc)),(2,.ptr 2 0)],[(2,.cells 27 [.pv (.int .u64 0),.nils,.nils,.nils])]⟩) ?_;exact hT ()
     ·skip
      refine ak ?_;refine bp (fuel:=0) (listed':= #[true,true,true,true,true,true,true]) [4,6] ?_ (by decide+kernel)
      refine ak ?_;refine a8 (by decide+kernel) ?_
      refine bq [3,2] [2] (s':=⟨154,[(3,.pv (.int .i64 xc)),(2,.ptr 2 0)],[(2,.cells 27 [.pv (.int .u64 0),.nils,.nils,.nils])]⟩) ?_;exact hT ()
    ·skip
     refine ak ?_;refine bp (fuel:=0) (listed':= #[true,true,true,true,true,true,true]) [2,3,4,6] ?_ (by decide+kernel)
     refine ak ?_;refine a8 (by decide+kernel) ?_
     refine bq [3,2] [2] (s':=⟨154,[(3,.pv (.int .i64 xc)),(2,.ptr 2 0)],[(2,.cells 27 [.pv (.int .u64 0),.nils,.nils,.nils])]⟩) ?_;exact hT ()
   ·skip
    refine ak ?_;refine AW.takes (fuel:=4) [3] ?_ (by simp only[go_sem,↓reduceIte]<;>rfl) dt (listed':= #[false,true,true,true,false,false,false]) (by decide+kernel) (by decide+kernel)
    refine ce (fuel:=3) (rs:=[0,4]) ?_ (by decide+kernel) (by simp)
    intro j hj;simp only[z08,z06,or_false]at hj;rcases hj with rfl|rfl
    ·skip
     refine ak ?_;refine ce (fuel:=2) (rs:=[4,5]) ?_ (by decide+kernel) (by simp)
     intro j hj;simp only[z08,z06,or_false]at hj;rcases hj with rfl|rfl
     ·skip
      refine ak ?_;refine bp (fuel:=0) (listed':= #[true,true,true,true,true,true,true]) [5,6] ?_ (by decide+kernel)
      refine ak ?_;refine a8 (by decide+kernel) ?_
      refine bq [3,2] [2] (s':=⟨154,[(3,.pv (.int .i64 xc)),(2,.ptr 2 0)],[(2,.cells 27 [.pv (.int .u64 0),.nils,.nils,.nils])]⟩) ?_;exact hT ()
     ·skip
      refine ak ?_;refine bp (fuel:=0) (listed':= #[true,true,true,true,true,true,true]) [4,6] ?_ (by decide+kernel)
      refine ak ?_;refine a8 (by decide+kernel) ?_
      refine bq [3,2] [2] (s':=⟨154,[(3,.pv (.int .i64 xc)),(2,.ptr 2 0)],[(2,.cells 27 [.pv (.int .u64 0),.nils,.nils,.nils])]⟩) ?_;exact hT ()
    ·skip
     refine ak ?_;refine bp (fuel:=0) (listed':= #[true,true,true,true,true,true,true]) [0,5,6] ?_ (by decide+kernel)
     refine ak ?_;refine a8 (by decide+kernel) ?_
     refine bq [3,2] [2] (s':=⟨154,[(3,.pv (.int .i64 xc)),(2,.ptr 2 0)],[(2,.cells 27 [.pv (.int .u64 0),.nils,.nils,.nils])]⟩) ?_;exact hT ()
  refine ar (.cell 2 1) 5 ?_;refine bj (.cell 2 1) ?_;refine ar (.cell 2 2) 55 ?_;refine bj (.cell 2 2) ?_;refine ar (.cell 2 3) 5 ?_;refine bj (.cell 2 3) ?_;refine aa ?_;refine ac (.pv _ (.pv _ .nil)) rfl
 have hx:¬xc≠0:=by simpa using hc
 rw[if_neg hx];refine bj (.cell 6 2) ?_;refine aa ?_;refine ac (.pv _ (.pv _ .nil)) rfl
theorem vz(v:Nat)(p:List Nat)(es:List je)(r:List Nat):Ak ⟨v,p,es,r⟩= .agg [.int .u64 (v:Int),.sl 1 (bytes p),.sl 2 (b9 es),.sl 1 (bytes r)]:=rfl
theorem wx{b:List Nat}(hb:∀x∈b,x<256):(kz b).1.es.length≤1048576∧(kz b).1.prev.length≤32∧(kz b).1.root.length≤32:=by
 by_cases h:(kz b).2=0
 ·obtain⟨hen,hv⟩:=ajt hb h;have hw:fm (kz b).1=0:=by
   unfold tw at hen;split at hen
   ·rename_i h;rw[Prod.mk.injEq]at hen;exact hen.2
   ·rename_i h;simpa using h
  obtain⟨_,h2,h3,_,h5,_⟩:=jt hw;exact⟨h5,by omega,by omega⟩
 ·rw[Jb h];exact⟨z02 _,z02 _,z02 _⟩
theorem Jo(b:List Nat)(hl:b.length≤2^38)(hb:∀x∈b,x<256):Fn Tryz.prog 5 [] [.pv (.sl 1 (bytes b))]
  (fun rs H'=>rs=[.pv (Ak (fp b).m),.pv (.sl 1 (bytes (fp b).signed)),.pv (.sl 1 (az (fp b).sealed)),.pv (.int .i64 (fp b).e)]∧H'=[]):=by
 refine Fn.ob Tryz.f5 81 [.cell 2 27,.tmp 3,.tmp 4,.tmp 5] fun C=> ?_
 have hr:aw=140737488355328:=rfl;have m1:(1≤maxLen)=True:=eq_true (by unfold maxLen;decide)
 have hno:∀e,[SV.pv (.agg [.int .u64 0,.sl 1 [],.sl 2 [],.sl 1 []]),.pv (.sl 1 []),.pv (.sl 1 []),.pv (.int .i64 e)]=[SV.pv (Ak (pa e).m),.pv (.sl 1 (bytes (pa e).signed)),.pv (.sl 1 (az (pa e).sealed)),.pv (.int .i64 (pa e).e)]:=fun e=>rfl
 obtain⟨hbb,hrb,hbl,hrl⟩:=j8 (m:=268435456) hb;have hbf:=F2 b 268435456 (by decide) (by omega) hb
 unfold fp;generalize blk b 268435456=B at*;obtain⟨s,e,q0⟩:=B;simp only at hbb hrb hrl hbf hbl⊢;refine aa ?_;refine ar (.cell 2 1) 5 ?_;refine bj (.cell 2 1) ?_;refine ar (.cell 2 2) 55 ?_;refine bj (.cell 2 2) ?_;refine ar (.cell 2 3) 5 ?_;refine bj (.cell 2 3) ?_;refine ar (.cell 6 1) 5 ?_;refine bj (.cell 6 1) ?_;refine ar (.cell 6 2) 55 ?_;refine bj (.cell 6 2) ?_;refine ar (.cell 6 3) 5 ?_;refine bj (.cell 6 3) ?_;refine ap hbf (.pv _ (.pv _ .nil)) ?_;by_cases he:e=0
 rotate_left
 ·have d1:(e !=0)=true:=by rw[bne_iff_ne];exact he
  rw[if_pos he];refine aa ?_ (by simp only[go_sem,↓reduceIte,d1]<;>rfl)
  refine am rfl ?_;refine aa ?_;refine ac (.pv _ (.lend rfl c7 (.lend rfl ry (.pv _ .nil)))) rfl
 have d1:(e !=0)=false:=by rw[he];rfl
 rw[if_neg (not_not_intro he)];refine aa ?_ (by simp only[go_sem,↓reduceIte,d1]<;>rfl)
 refine ae rfl ?_;by_cases h32:s.length<32
 ·have d2:decide ((s.length:Int)<32)=true:=decide_eq_true (by omega)
  have d2':decide (s.length<32)=true:=decide_eq_true h32;rw[if_pos h32];refine aa ?_ (by simp only[go_sem,↓reduceIte,d2,d2']<;>rfl)
  refine am rfl ?_;refine aa ?_;refine ac (.pv _ (.lend rfl c7 (.lend rfl ry (.pv _ .nil)))) rfl
 have d2:decide ((s.length:Int)<32)=false:=decide_eq_false (by omega)
 have d2':decide (s.length<32)=false:=decide_eq_false h32;rw[if_neg h32];refine aa ?_ (by simp only[go_sem,↓reduceIte,d2,d2']<;>rfl)
 refine ae rfl ?_;refine bj (.slot 7) ?_;have hmb:∀x∈s.take (s.length-32),x<256:=fun x hx=>hbb x (z18 hx)
 have hdf:=acb (s.take (s.length-32)) (by rw[z10];omega) hmb
 rw[ahv hmb]at hdf;obtain⟨hs1,hs2,hs3⟩:=wx hmb;have hbad:=Jb (b:=s.take (s.length-32));generalize kz (s.take (s.length-32))=D at*;obtain⟨⟨v,p,es,r⟩,de⟩:=D;simp only at hdf hs1 hs2 hs3 hbad⊢;have hm:=vz v p es r;rw[hm]at hdf;have w32:IntKind.i64.wrap ((s.length:Int)-32)=((s.length-32:Nat):Int):=by rw[an (by omega) (by omega)];omega
 have hk1:(s.length-32≤s.length)=True:=eq_true (by omega)
 have htk:=dz s (s.length-32);refine aa ?_ (by simp only[go_sem,↓reduceIte,w32,hk1,htk]<;>rfl)
 refine ap hdf (.pv _ .nil) ?_;by_cases hde:de=0
 rotate_left
 ·have d3:(de !=0)=true:=by rw[bne_iff_ne];exact hde
  rw[if_pos hde];refine aa ?_ (by simp only[go_sem,↓reduceIte,d3]<;>rfl)
  refine am rfl ?_;refine aa ?_;refine ac (.pv _ (.lend rfl c7 (.lend rfl ry (.pv _ .nil)))) rfl
 have d3:(de !=0)=false:=by rw[hde];rfl
 rw[if_neg (not_not_intro hde)];refine aa ?_ (by simp only[go_sem,↓reduceIte,d3]<;>rfl)
 refine ae rfl ?_;refine aa ?_;have hel:(b9 es).length=es.length:=by simp[b9]
 refine aq (fun a:Nat×List (List Nat)×List Nat=>⟨81,[(12,.pv (.int .i64 a.1)),(8,.pv (.sl 1 (bytes a.2.2))),(7,.pv (.sl 1 (bytes s))),(11,.own 22 (az a.2.1)),(10,.ptr 10 0),(6,.ptr 6 0),(2,.ptr 2 0)],[(10,.cells 27 [.pv (.int .u64 v),.pv (.sl 1 (bytes p)),.pv (.sl 2 (b9 es)),.pv (.sl 1 (bytes r))]),(6,.cells 27 [.pv (.int .u64 0),.pv (.sl 1 []),.pv (.sl 2 []),.pv (.sl 1 [])]),(2,.cells 27 [.pv (.int .u64 0),.pv (.sl 1 []),.pv (.sl 2 []),.pv (.sl 1 [])])]⟩)
  (fun a=>a.1≤es.length∧ir (es.drop a.1) a.2.1 a.2.2=ir es [] q0∧a.2.1.length=a.1∧a.2.2.length≤b.length∧∀x∈a.2.2,x<256) (fun a=>es.length-a.1) [12,8,7,11,10,6,2] [10,6,2] (0,[],q0) ⟨z02 _,rfl,rfl,hrl,hrb⟩ ?_
 rintro⟨i,bc,q⟩ ⟨hi,hcut,hal,hql,hqb⟩ K hK;simp only at hi hcut hal hql hqb;unfold Cl;rw[←hcut];refine aa ?_ (by simp only[go_sem,↓reduceIte,hel]<;>rfl)
 refine AW.cond rfl (fun hc=> ?_) (fun hc=> ?_)
 ·have hlt:i<es.length:=by have:=of_decide_eq_true hc;omega
  obtain⟨⟨en,ek⟩,hen⟩:∃x,es[i]?=some x:=⟨es[i],z00 hlt⟩
  have hg:(b9 es)[i]?=some (.agg [.str en,.int .i64 ek]):=by unfold b9;rw[z24,hen];rfl
  have ei:IntKind.i64.wrap ((i:Int)+1)=((i+1:Nat):Int):=ai (by omega)
  have hdrop:es.drop i=(en,ek)::es.drop (i+1):=by
   obtain⟨h,he'⟩:=z03.1 hen;rw[←he',List.drop_eq_getElem_cons h]
  have hsz:=yt ek;have w16:IntKind.i64.wrap ((c9 ek:Int)+16)=((c9 ek+16:Nat):Int):=au (n:=c9 ek+16) (by omega)
  rw[hdrop]at hcut⊢;have hstep:ir ((en,ek)::es.drop (i+1)) bc q=if c9 ek+16≤q.length then ir (es.drop (i+1)) (bc++[q.take (c9 ek+16)]) (q.drop (c9 ek+16))else([],[],2):=rfl
  rw[hstep]at hcut⊢;have hbf2:=y4 q (c9 ek+16) (by omega) (by omega)
  generalize c9 ek+16=n at*;refine aa ?_ (by simp only[go_sem,↓reduceIte,hg]<;>rfl)
  refine ap (Et ek) (.pv _ .nil) ?_;refine aa ?_ (by simp only[go_sem,↓reduceIte,w16]<;>rfl)
  refine ap hbf2 (.pv _ (.pv _ .nil)) ?_;by_cases hq:n≤q.length
  ·rw[if_pos hq]at hcut⊢;simp only[if_pos hq];have hs:az bc++[.sl 1 (bytes (q.take n))]=az (bc++[q.take n]):=by rw[←ia];rfl
   have r1:((i+1)*24≤aw)=True:=eq_true (by omega)
   have r2:(i+1≤aw)=True:=eq_true (by omega)
   refine aa ?_;refine ae rfl ?_;refine bj (.slot 13) ?_;refine aa ?_ (by simp only[go_sem,↓reduceIte,m1,hs,bf,hal,z11,z13,z21,r1,r2,ei]<;>rfl)
   exact ah hK (i+1,bc++[q.take n],q.drop n) ⟨by simp only;omega,hcut,by simp only[z01,List.length_singleton];omega,by simp only[List.length_drop];omega,fun x hx=>hqb x (List.mem_of_mem_drop hx)⟩ (by simp only;omega)
  ·rw[if_neg hq];simp only[if_neg hq];refine aa ?_;refine am rfl ?_;refine aa ?_;refine ac (.pv _ (.lend rfl c7 (.lend rfl ry (.pv _ .nil)))) rfl
 have hge:i=es.length:=by have:=of_decide_eq_false hc;omega
 subst hge;rw[List.drop_length];have hend:ir [] bc q=(bc,q,0):=rfl;rw[hend];rw[if_neg (not_not_intro rfl)];by_cases hq:q=[]
 ·rw[if_neg (not_not_intro hq)];have d4:decide ((q.length:Int)>0)=false:=by rw[hq];rfl
  have d4':decide (0<q.length)=false:=by rw[hq];rfl
  simp only;rw[hm];refine aa ?_ (by simp only[go_sem,↓reduceIte,d4,d4']<;>rfl)
  refine ae rfl ?_;refine aa ?_;refine ac (.pv _ (.pv _ (.lend rfl ry (.pv _ .nil)))) rfl
 ·rw[if_pos hq];have hpos:=List.length_pos_iff.2 hq;have d4:decide ((q.length:Int)>0)=true:=decide_eq_true (by omega)
  have d4':decide (0<q.length)=true:=decide_eq_true hpos;refine aa ?_ (by simp only[go_sem,↓reduceIte,d4,d4']<;>rfl)
  refine am rfl ?_;refine aa ?_;refine ac (.pv _ (.lend rfl c7 (.lend rfl ry (.pv _ .nil)))) rfl
theorem uz{l:List (List Nat)}{i:Nat}{x:List Nat}(h:l[i]?=some x):(l.take (i+1)).flatten=(l.take i).flatten++x:=by
 obtain⟨hi,rfl⟩:=z03.1 h;rw[z05 hi,z19,List.flatten_singleton]
theorem sy{l:List (List Nat)}{N:Nat}(h:∀x∈l,x.length≤N):l.flatten.length≤N*l.length:=by
 induction l with
 |nil=>simp
 |cons x r ih=>
  have h1:=h x (by simp)
  have h2:=ih (fun y hy=>h y (by simp[hy]))
  rw[List.flatten_cons,z01,z11,Nat.mul_succ];omega
theorem Qd(b:List Nat)(i j:Int)(hl:b.length≤2^30)(hb:∀x∈b,x<256)(hsl:(fp b).signed.length≤b.length)(hse:(fp b).sealed.length≤1048576)(hsb:∀x∈(fp b).sealed,x.length≤2^25)(hfl:(fp b).sealed.flatten.length≤b.length):
  Fn Tryz.prog 7 [] [.pv (.sl 1 (bytes b)),.pv (.int .i64 i),.pv (.int .i64 j)] (fun rs H'=>rs=[.own 5 (bytes (xx b i j).1),.pv (.int .i64 (xx b i j).2)]∧H'=[]):=by
 refine Fn.ob Tryz.f7 77 [.tmp 6,.tmp 7] fun C=> ?_
 have hr:aw=140737488355328:=rfl;have hsf:=Jo b (by omega) hb
 unfold xx;generalize fp b=A at*;obtain⟨⟨v,p,es,r⟩,sg,se,e⟩:=A;simp only at hsf hsl hse hsb hfl⊢;have hm:=vz v p es r;rw[hm]at hsf;refine aa ?_;refine ap hsf (.pv _ .nil) ?_;by_cases he:e=0
 rotate_left
 ·have d1:(e !=0)=true:=by rw[bne_iff_ne];exact he
  rw[if_pos he];refine aa ?_ (by simp only[go_sem,↓reduceIte,d1]<;>rfl)
  refine am rfl ?_;refine aa ?_;refine ac (.move rfl (.pv _ .nil)) rfl
 have d1:(e !=0)=false:=by rw[he];rfl
 rw[if_neg (not_not_intro he)];refine aa ?_ (by simp only[go_sem,↓reduceIte,d1]<;>rfl)
 refine ae rfl ?_;refine aa ?_;refine ap (Ue se (by omega) (fun x hx=>Nat.le_trans (hsb x hx) (by decide))) (.pv _ .nil) ?_
 have hpf:=Wo (se.map br) i j (by rw[z14];omega) (fun x hx=>by
  obtain⟨y,_,rfl⟩:=z29.1 hx;rw[le];decide)
 have hext:∀a c,aaz ⟨⟨v,p,es,r⟩,sg,se,e⟩ a c=cg sg.length++sg++cg a++cg (c-a)++((se.drop a).take (c+1-a)).flatten++cg (cu (se.map br) a c).1.length++(cu (se.map br) a c).1.flatten:=fun a c=>rfl
 have hpl:(cu (se.map br) i j).1.length≤se.length∧∀x∈(cu (se.map br) i j).1,x.length≤32:=by
  unfold cu;split
  ·exact⟨z02 _,by simp⟩
  ·rename_i hnb;have h0:0<(se.map br).length:=by omega
   have h1:=m3 (se.map br) i.toNat j.toNat _ 0 (se.map br).length (z22 _) h0;rw[z14]at h1;refine⟨by simpa using h1, ?_⟩
   exact pj (N:=32) (by decide) (fun x hx=>by
    obtain⟨y,_,rfl⟩:=z29.1 hx;rw[le];decide) _ _ _ (z22 _)
 have hpe:(cu (se.map br) i j).2=0→0≤i∧i≤j∧j<(se.length:Int):=fun h=>by
  unfold cu at h;split at h
  ·exact absurd h (by decide)
  ·rename_i hnb;rw[z14]at hnb;omega
 have hPE:∀P,cu (se.map br) i j=P→0≤i→0≤j→cu (se.map br) (i.toNat:Int) (j.toNat:Int)=P:=fun P h h1 h2=>by rw[z23 h1,z23 h2];exact h
 generalize hP:cu (se.map br) i j=P at*;obtain⟨pr,pe⟩:=P;simp only at hpf hpl hpe⊢;refine bj (.slot 28) ?_;refine aa ?_;refine ap hpf (.pv _ (.pv _ (.pv _ .nil))) ?_;by_cases hpe0:pe=0
 rotate_left
 ·have d2:(pe !=0)=true:=by rw[bne_iff_ne];exact hpe0
  rw[if_pos hpe0];refine aa ?_ (by simp only[go_sem,↓reduceIte,d2]<;>rfl)
  refine am rfl ?_;refine aa ?_;refine ac (.move rfl (.pv _ .nil)) rfl
 have d2:(pe !=0)=false:=by rw[hpe0];rfl
 rw[if_neg (not_not_intro hpe0)];obtain⟨h0,h1,h2⟩:=hpe hpe0;have hPQ:=hPE (pr,pe) rfl h0 (by omega)
 obtain⟨a,rfl⟩:∃a:Nat,i=(a:Int):=⟨i.toNat,by omega⟩
 obtain⟨c,rfl⟩:∃c:Nat,j=(c:Int):=⟨j.toNat,by omega⟩
 rw[z20,z20]at*;rw[hext,hPQ];simp only;have ea:IntKind.u64.wrap (a:Int)=(a:Int):=ay (by omega)
 have ws:IntKind.i64.wrap ((c:Int)-(a:Int))=((c-a:Nat):Int):=by rw[an (by omega) (by omega)];omega
 have es2:IntKind.u64.wrap ((c-a:Nat):Int)=((c-a:Nat):Int):=ay (by omega)
 have l10:=bn (v:=sg.length) (by omega)
 have l11:=bn (v:=a) (by omega)
 have l12:=bn (v:=c-a) (by omega)
 have hbl1:(cg sg.length++sg).length≤2^31:=by rw[z01];omega
 have hbl2:(cg sg.length++sg++cg a).length≤2^31+10:=by rw[z01];omega
 refine aa ?_ (by simp only[go_sem,↓reduceIte,d2]<;>rfl)
 refine ae rfl ?_;refine bj (.slot 12) ?_;refine aa ?_;refine ap (im sg (by omega)) (.pv _ .nil) ?_
 refine aa ?_ (by simp only[go_sem,↓reduceIte,ea]<;>rfl)
 refine av (args:=[.pv (.sl 1 (bytes (cg sg.length++sg))),.pv (.int .u64 a)]) (fun _=>0) (cx (cg sg.length++sg) a (by omega) (by omega)) (.lend rfl c7 (.pv _ .nil)) ?_
 refine aa ?_ (by simp only[go_sem,↓reduceIte,ws,es2]<;>rfl)
 refine av (args:=[.pv (.sl 1 (bytes (cg sg.length++sg++cg a))),.pv (.int .u64 ((c-a:Nat):Int))]) (fun _=>0) (cx (cg sg.length++sg++cg a) (c-a) (by omega) (by omega)) (.lend rfl c7 (.pv _ .nil)) ?_
 have hbl3:(cg sg.length++sg++cg a++cg (c-a)).length≤2^31+20:=by rw[z01];omega
 generalize cg sg.length++sg++cg a++cg (c-a)=base at*;refine aa ?_;have hfl2:∀k,((se.drop a).take k).flatten.length≤b.length:=fun k=>by
  have e1:se=se.take a++((se.drop a).take k++(se.drop a).drop k):=by rw[z15,z15]
  have e2:=congrArg (fun z=>z.flatten.length) e1
  simp only[z19,z01]at e2;omega
 refine aq (fun k:Nat=>⟨77,[(14,.pv (.int .i64 ((a+k:Nat):Int))),(2,.pv (.int .i64 c)),(10,.pv (.sl 1 (az se))),(12,.pv (.sl 1 (az pr))),(13,.own 5 (bytes (base++((se.drop a).take k).flatten)))],[]⟩) (fun k=>a+k≤c+1) (fun k=>c+1-a-k) [14,2,10,12,13] [] 0 (by omega) ?_ (hs:=by simp only[go_sem,↓reduceIte,z16,z12,z27]<;>rfl)
 rintro k hk K hK;refine aa ?_;refine AW.cond rfl (fun hc=> ?_) (fun hc=> ?_)
 ·have hlt:a+k≤c:=by have:=of_decide_eq_true hc;omega
  have hlt2:a+k<se.length:=by omega
  obtain⟨x,hx⟩:∃x,se[a+k]?=some x:=⟨se[a+k],z00 hlt2⟩
  have hg:=gz hx;have hx2:(se.drop a)[k]?=some x:=by rw[List.getElem?_drop];exact hx
  have hst:=uz hx2;have ek:IntKind.i64.wrap (((a+k:Nat):Int)+1)=((a+(k+1):Nat):Int):=au (n:=a+k+1) (by omega)
  have hs:bytes (base++((se.drop a).take k).flatten)++bytes x=bytes (base++((se.drop a).take (k+1)).flatten):=by rw[bx,hst,z25]
  have hxl:=hsb x (z07 hx);have hf:=hfl2 k;have r1:((base++((se.drop a).take k).flatten).length+x.length≤aw)=True:=eq_true (by rw[z01];omega)
  generalize base++((se.drop a).take k).flatten=cur at*;refine aa ?_ (by simp only[go_sem,↓reduceIte,hg,ba,hs,r1,ek]<;>rfl)
  exact ah hK (k+1) (by omega) (by omega)
 have hge:k=c+1-a:=by have:=of_decide_eq_false hc;omega
 subst hge;have hf:=hfl2 (c+1-a);have hcl:(base++((se.drop a).take (c+1-a)).flatten).length≤2^33:=by rw[z01];omega
 generalize base++((se.drop a).take (c+1-a)).flatten=cur at*;have ep:IntKind.u64.wrap (pr.length:Int)=(pr.length:Int):=ay (by omega)
 have hbl4:(cur++cg pr.length).length≤2^33+10:=by
  have:=bn (v:=pr.length) (by omega)
  rw[z01];omega
 refine aa ?_ (by simp only[go_sem,↓reduceIte,bf,ep]<;>rfl)
 refine av (args:=[.pv (.sl 1 (bytes cur)),.pv (.int .u64 pr.length)]) (fun _=>0) (cx cur pr.length (by omega) (by omega)) (.lend rfl c7 (.pv _ .nil)) ?_
 generalize cur++cg pr.length=cur2 at*;have hprl:∀k,(pr.take k).flatten.length≤32*k:=fun k=>by
  have:=sy (l:=pr.take k) (N:=32) (fun x hx=>hpl.2 x (z18 hx))
  rw[z10]at this;omega
 refine aa ?_;refine aq (fun k:Nat=>⟨77,[(15,.pv (.int .i64 k)),(12,.pv (.sl 1 (az pr))),(13,.own 5 (bytes (cur2++(pr.take k).flatten)))],[]⟩) (fun k=>k≤pr.length) (fun k=>pr.length-k) [15,12,13] [] 0 (z02 _) ?_ (hs:=by simp only[go_sem,↓reduceIte,z16,z12,z27]<;>rfl)
 rintro k hk K hK;refine aa ?_ (by simp only[go_sem,↓reduceIte,bf]<;>rfl)
 refine AW.cond rfl (fun hc=> ?_) (fun hc=> ?_)
 ·have hlt:k<pr.length:=by have:=of_decide_eq_true hc;omega
  obtain⟨x,hx⟩:∃x,pr[k]?=some x:=⟨pr[k],z00 hlt⟩
  have hg:=gz hx;have hst:=uz hx;have ek:IntKind.i64.wrap ((k:Int)+1)=((k+1:Nat):Int):=ai (by omega)
  have hs:bytes (cur2++(pr.take k).flatten)++bytes x=bytes (cur2++(pr.take (k+1)).flatten):=by rw[bx,hst,z25]
  have hxl:=hpl.2 x (z07 hx);have hf:=hprl k;have r1:((cur2++(pr.take k).flatten).length+x.length≤aw)=True:=eq_true (by rw[z01];omega)
  generalize cur2++(pr.take k).flatten=cur3 at*;refine aa ?_ (by simp only[go_sem,↓reduceIte,hg,ba,hs,r1,ek]<;>rfl)
  exact ah hK (k+1) (by omega) (by omega)
 have hge:k=pr.length:=by have:=of_decide_eq_false hc;omega
 subst hge;rw[z09];refine aa ?_;refine ac (.move rfl (.pv _ .nil)) rfl
theorem V1(root:List Nat)(n i:Int)(ls ps:List (List Nat))(hll:ls.length≤2^38)(hx:BN (2^27) ls)(hps:BN (2^27) ps)(hpl:ps.length≤2^40)(hn:n≤2^62)(hi: -(2^62)≤i∧i≤2^62)(hr:∀x∈root,x<256)(hrb:∀x∈(gm n i ls ps).1,x<256)(hrl:(gm n i ls ps).1.length<2^62):Fn Tryz.prog 38 [] [.pv (.sl 1 (bytes root)),.pv (.int .i64 n),.pv (.int .i64 i),.pv (.sl 1 (az ls)),.pv (.sl 1 (az ps))] (fun rs H'=>rs=[.pv (.bool (Ch root n i ls ps))]∧H'=[]):=by
 refine Fn.ob Tryz.f38 28 [.tmp 10] fun C=> ?_
 have hf:=T6 n i ls ps hll hx hps hpl hn hi;have hs:=ajb (gm n i ls ps).1 root hrb hr hrl;unfold Ch;generalize gm n i ls ps=q at*;obtain⟨q1,q2⟩:=q;simp only at hf hs⊢;refine aa ?_;refine ap hf (.pv _ (.pv _ (.pv _ (.pv _ .nil)))) ?_;by_cases h0:q2=0
 ·have d1:(q2==0)=true:=by rw[beq_iff_eq];exact h0
  rw[d1,Bool.true_and];refine ak ?_ (by simp only[go_sem,↓reduceIte,d1]<;>rfl)
  refine iq rfl rfl ?_;refine ap hs (.pv _ (.pv _ .nil)) ?_;refine aa ?_;refine ac (.pv _ .nil) rfl
 ·have d1:(q2==0)=false:=by rw[beq_eq_false_iff_ne];exact h0
  rw[d1,Bool.false_and];refine ak ?_ (by simp only[go_sem,↓reduceIte,d1]<;>rfl)
  refine ac (.pv _ .nil) rfl
theorem ajc(n:Nat)(hn:n≤2^40):Fn Tryz.prog 55 [] [.nils,.pv (.int .i64 (n:Int))] (fun rs H'=>rs=[.own 5 []]∧H'=[]):=by
 refine Fn.ob Tryz.f55 27 [.tmp 4] fun C=> ?_
 have hr:aw=140737488355328:=rfl;have d1:decide ((n:Int)<0)=false:=decide_eq_false (by omega)
 have w0:IntKind.i64.wrap 0=0:=by decide
 have w1:IntKind.i64.wrap (n:Int)=(n:Int):=au (by omega)
 have w2:IntKind.i64.wrap ((n:Int)-0)=(n:Int):=by rw[Int.sub_zero];exact w1
 have w3:IntKind.i64.wrap ((0:Int)-0)=0:=by decide
 have w4:IntKind.i64.wrap ((0:Int)-((0:Nat):Int))=0:=by decide
 refine aa ?_ (by simp only[go_sem,↓reduceIte,d1]<;>rfl)
 refine ae rfl ?_;refine aa ?_;refine Nx rfl s9 ?_;refine aa ?_ (by simp only[go_sem,↓reduceIte,w0,w1,w2,w3,w4]<;>rfl)
 refine AW.cond rfl (fun hc=> ?_) (fun hc=> ?_)
 ·have h0:0<n:=by have:=of_decide_eq_true hc;omega
  refine aa ?_;refine Nx rfl s9 ?_;refine vn 2 ?_ (by simp only[go_sem,↓reduceIte,w0,w1,z28]<;>rfl)
  refine Yf (d:=20) (t:=5) rfl ?_;have zp:ax Tryz.prog 5=some (.int .u8 0):=aru;refine AW.appendZ (n:=n) (p:= .slot 20) rfl rfl rfl s9 arw zp (by decide) (by show(0+n)*1≤aw;omega) (by show 0+n≤aw;omega) ?_
  refine vn 2 ?_ (by simp only[go_sem,↓reduceIte,w0,w1,z28]<;>rfl)
  refine aal (m:=0) (p:= .slot 22) rfl rfl rfl rfl rfl (z02 _) s9 (by decide) ?_
  refine aa ?_;refine ac (.move rfl .nil) rfl
 ·refine aa ?_;refine ac (.move rfl .nil) rfl
theorem Pg{l:List (List Nat)}(i:Nat):(l.take i).flatten.length≤l.flatten.length:=by
 conv=>rhs;rw[←z15 i l,z19,z01]
 omega
theorem Kc(l:List (List Nat))(hll:l.length≤2^40)(hfl:l.flatten.length≤2^40):Fn Tryz.prog 21 [] [.pv (.sl 1 (az l))] (fun rs H'=>rs=[.own 5 (bytes l.flatten)]∧H'=[]):=by
 refine Fn.ob Tryz.f21 36 [.tmp 2] fun C=> ?_
 have hr:aw=140737488355328:=rfl;refine aa ?_;refine aq (fun i:Nat=>⟨36,[(11,.pv (.int .i64 i)),(10,.pv (.int .i64 l.length)),(9,.pv (.sl 1 (az l))),(3,.pv (.int .i64 ((l.take i).flatten.length:Nat))),(0,.pv (.sl 1 (az l)))],[]⟩) (fun i=>i≤l.length) (fun i=>l.length-i) [11,10,9,3,0] [] 0 (z02 _) ?_ (hs:=by simp only[go_sem,↓reduceIte,bf,z16,z12,z13]<;>rfl)
 rintro i hi K hK;refine aa ?_;refine AW.cond rfl (fun hc=> ?_) (fun hc=> ?_)
 ·have hlt:i<l.length:=by have:=of_decide_eq_true hc;omega
  obtain⟨x,hx⟩:∃b,l[i]?=some b:=⟨l[i],z00 hlt⟩
  have hg:=gz hx;have hst:=uz hx;have hle:=Pg (l:=l) (i+1);have hsl:(l.take (i+1)).flatten.length=(l.take i).flatten.length+x.length:=by rw[hst,z01]
  have ei:IntKind.i64.wrap ((i:Int)+1)=((i+1:Nat):Int):=ai (by omega)
  have w1:IntKind.i64.wrap (((l.take i).flatten.length:Int)+(x.length:Int))=((l.take (i+1)).flatten.length:Nat):=by rw[hsl];exact au (n:=(l.take i).flatten.length+x.length) (by omega)
  have d1:decide ((((l.take (i+1)).flatten.length:Nat):Int)<0)=false:=decide_eq_false (by omega)
  generalize(l.take i).flatten.length=u at*;refine aa ?_ (by simp only[go_sem,↓reduceIte,hg,ba,w1,d1]<;>rfl)
  refine ae rfl ?_;refine aa ?_ (by simp only[go_sem,↓reduceIte,ei]<;>rfl)
  exact ah hK (i+1) (by omega) (by omega)
 have hge:i=l.length:=by have:=of_decide_eq_false hc;omega
 subst hge;rw[z09];refine aa ?_;refine ap (ajc l.flatten.length hfl) (.nils (.pv _ .nil)) ?_;refine aa ?_;refine aq (fun i:Nat=>⟨36,[(27,.pv (.int .i64 i)),(26,.pv (.int .i64 l.length)),(25,.pv (.sl 1 (az l))),(6,.own 5 (bytes (l.take i).flatten))],[]⟩) (fun i=>i≤l.length) (fun i=>l.length-i) [27,26,25,6] [] 0 (z02 _) ?_ (hs:=by simp only[go_sem,↓reduceIte,bf,z16,z12]<;>rfl)
 rintro i hi K2 hK2;refine aa ?_;refine AW.cond rfl (fun hc=> ?_) (fun hc=> ?_)
 ·have hlt:i<l.length:=by have:=of_decide_eq_true hc;omega
  obtain⟨x,hx⟩:∃b,l[i]?=some b:=⟨l[i],z00 hlt⟩
  have hg:=gz hx;have hst:=uz hx;have hle:=Pg (l:=l) (i+1);have hsl:(l.take (i+1)).flatten.length=(l.take i).flatten.length+x.length:=by rw[hst,z01]
  have ei:IntKind.i64.wrap ((i:Int)+1)=((i+1:Nat):Int):=ai (by omega)
  have hs:bytes (l.take i).flatten++bytes x=bytes (l.take (i+1)).flatten:=by rw[bx,hst]
  have r1:((l.take i).flatten.length+x.length≤aw)=True:=eq_true (by omega)
  generalize hu:(l.take i).flatten=u at*;refine aa ?_ (by simp only[go_sem,↓reduceIte,hg,ba,hs,r1,ei]<;>rfl)
  exact ah hK2 (i+1) (by omega) (by omega)
 have hge:i=l.length:=by have:=of_decide_eq_false hc;omega
 subst hge;rw[z09];refine aa ?_;refine ac (.move rfl .nil) rfl
theorem J0(l:List (List Nat))(hll:l.length≤2^40)(hx:∀x∈l,x.length≤2^27):Fn Tryz.prog 18 [] [.pv (.sl 1 (az l))] (fun rs H'=>rs=[.own 22 (az (l.map br))]∧H'=[]):=by
 refine Fn.ob Tryz.f18 19 [.tmp 2] fun C=> ?_
 have hr:aw=140737488355328:=rfl;have m1:(1≤maxLen)=True:=eq_true (by unfold maxLen;decide)
 refine aa ?_;refine aq (fun i:Nat=>⟨19,[(8,.pv (.int .i64 i)),(7,.pv (.int .i64 l.length)),(6,.pv (.sl 1 (az l))),(3,.own 22 (az ((l.take i).map br)))],[]⟩) (fun i=>i≤l.length) (fun i=>l.length-i) [8,7,6,3] [] 0 (z02 _) ?_ (hs:=by simp only[go_sem,↓reduceIte,bf]<;>rfl)
 rintro i hi K hK;refine aa ?_;refine AW.cond rfl (fun hc=> ?_) (fun hc=> ?_)
 ·have hlt:i<l.length:=by have:=of_decide_eq_true hc;omega
  obtain⟨b,hb⟩:∃b,l[i]?=some b:=⟨l[i],z00 hlt⟩
  have hg:=gz hb;have hbl:=hx b (z07 hb);have ei:IntKind.i64.wrap ((i:Int)+1)=((i+1:Nat):Int):=ai (by omega)
  have hs:az ((l.take i).map br)++[.sl 1 (bytes (br b))]=az ((l.take (i+1)).map br):=by
   have h1:l.take (i+1)=l.take i++[b]:=by
    obtain⟨h,rfl⟩:=z03.1 hb;exact z05 h
   rw[h1,List.map_append,←ia];rfl
  have hl2:((l.take i).map br).length=i:=by rw[z14,z10];omega
  have r1:((i+1)*24≤aw)=True:=eq_true (by omega)
  have r2:(i+1≤aw)=True:=eq_true (by omega)
  refine aa ?_ (by simp only[go_sem,↓reduceIte,hg]<;>rfl)
  refine ap (aix b (by omega)) (.pv _ .nil) ?_
  refine aa ?_ (by simp only[go_sem,↓reduceIte,m1,hs,bf,hl2,z11,z13,z21,r1,r2,ei]<;>rfl)
  exact ah hK (i+1) (by omega) (by omega)
 have hge:i=l.length:=by have:=of_decide_eq_false hc;omega
 subst hge;rw[z09];refine aa ?_;refine ac (.move rfl .nil) rfl
end Go.Ck
