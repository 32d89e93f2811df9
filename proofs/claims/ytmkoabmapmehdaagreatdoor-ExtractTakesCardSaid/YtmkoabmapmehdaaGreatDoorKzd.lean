/- What is proved here: parts of the proofs of this seat's statements (a verified evaluator for calls over pure values, its laws, and contracts of functions). No condition. -/
import Derived.Test.YtmkoabmapmehdaaGreatDoorKzc
import Derived.Test.YtmkoabmapmehdaaGreatDoorKza
import Derived.Test.YtmkoabmapmehdaaGreatDoorKy
import Derived.Test.YtmkoabmapmehdaaGreatDoorKz
import Derived.Test.YtmkoabmapmehdaaGreatDoorKzb
import Derived.Test.YtmkoabmapmehdaaGreatDoorKx
import Derived.Test.YtmkoabmapmehdaaGreatDoorKw
set_option linter.all false
open List renaming not_mem_nil→z00,mem_cons→z01,length_drop→z03,length_cons→z04,length_append→z05,mem_of_mem_drop→z06,length_nil→z09,mem_of_mem_take→z10,length_pos_iff→z11,flatten_append→z12,take_succ_eq_append_getElem→z13,length_take→z15,getElem?_eq_some_iff→z16,getElem?_eq_getElem→z17,length_singleton→z18,eq_nil_or_concat→z19,mem_singleton→z22,take_length→z23,nil_append→z25,mem_append→z26,append_nil→z27
open Bool renaming eq_iff_iff→z02
open Nat renaming le_refl→z07,zero_add→z14,zero_le→z20,pow_le_pow_right→z21
open Array renaming replicate→z08
open Int renaming toNat_natCast→z24
set_option maxRecDepth 100000
set_option maxHeartbeats 400000
namespace Go.Ck
open Go.Proofs
def mO(a b c d:PV)(e:Int):List (Nat×HO):=[(1002,.cells 27 [.pv a,.pv b,.pv c,.pv d]),(1003,.cells 29 [.pv (.int .i64 e)])]
attribute [go_sem] mO
theorem W2(a b c d:PV)(e:Int):FnD Tryz.prog 77 (mO a b c d e) (tv [1002,1003]) .returning .returning (fun H'=>H'=mO a b c d e):=by
 refine Ko (fn:=Tryz.f77) (n:=14) (d:=5) (p:= .nili) (by kernel_rfl) rfl rfl rfl rfl rfl rfl rfl rfl rfl (.inl ⟨rfl,rfl,rfl⟩) (fun C=> ?_)
 refine aa ?_;refine Nw afl ?_;refine am (by simp only[go_sem,↓reduceIte]) ?_
 refine aa ?_;refine ac .nil rfl
theorem jb(a b c d:PV)(e0 e:Int){ch:List PanicEntry}(hch:Pan ch (Au e)):FnD Tryz.prog 77 (mO a b c d e0) (tv [1002,1003]) (.panicking ch) (Vd ch) (fun H'=>H'=mO (.int .u64 0) (.sl 1 []) (.sl 2 []) (.sl 1 []) e):=by
 refine Ko (fn:=Tryz.f77) (n:=14) (d:=5) (p:=Au e) (by kernel_rfl) rfl rfl rfl rfl rfl rfl rfl rfl rfl (.inr ⟨ch,rfl,hch,rfl⟩) (fun C=> ?_)
 refine aa ?_;refine Nw afl ?_;refine ae (by simp only[go_sem,↓reduceIte]) ?_
 refine aa ?_;refine Yi afz ?_;refine aa ?_;refine am rfl ?_;refine aa ?_;refine tl mixed ?_;refine AW.takes (fuel:=4) [1] ?_ (by simp only[go_sem,↓reduceIte]<;>rfl) dt (listed':= #[false,true,false,false,false]) (by decide+kernel) (by decide+kernel)
 refine Aj (T:= ?Tend) (fun hT=> ?_) ?_;rotate_left
 ·refine ce (fuel:=3) (rs:=[0,2]) ?_ (by decide+kernel) (by simp)
  intro j hj;simp only[z01,z00,or_false]at hj;rcases hj with rfl|rfl
  ·skip
   refine ak ?_;refine ce (fuel:=2) (rs:=[2,3]) ?_ (by decide+kernel) (by simp)
   intro j hj;simp only[z01,z00,or_false]at hj;rcases hj with rfl|rfl
   ·skip
    refine ak ?_;refine bp (fuel:=0) (listed':= #[true,true,true,true,true]) [3,4] ?_ (by decide+kernel)
    refine ak ?_;refine a8 (by decide+kernel) ?_
    refine bq [] [1002,1003] (s':=⟨14,[],[(1002,.cells 27 [.pv (.int .u64 0),.nils,.nils,.nils]),(1003,.cells 29 [.pv (.int .i64 e)])]⟩) ?_;exact hT ()
   ·skip
    refine ak ?_;refine bp (fuel:=0) (listed':= #[true,true,true,true,true]) [2,4] ?_ (by decide+kernel)
    refine ak ?_;refine a8 (by decide+kernel) ?_
    refine bq [] [1002,1003] (s':=⟨14,[],[(1002,.cells 27 [.pv (.int .u64 0),.nils,.nils,.nils]),(1003,.cells 29 [.pv (.int .i64 e)])]⟩) ?_;exact hT ()
  ·skip
   refine ak ?_;refine bp (fuel:=0) (listed':= #[true,true,true,true,true]) [0,3,4] ?_ (by decide+kernel)
   refine ak ?_;refine a8 (by decide+kernel) ?_
   refine bq [] [1002,1003] (s':=⟨14,[],[(1002,.cells 27 [.pv (.int .u64 0),.nils,.nils,.nils]),(1003,.cells 29 [.pv (.int .i64 e)])]⟩) ?_;exact hT ()
 refine aa ?_;refine ar (.cell 1002 1) 5 ?_;refine bj (.cell 1002 1) ?_;refine ar (.cell 1002 2) 55 ?_;refine bj (.cell 1002 2) ?_;refine ar (.cell 1002 3) 5 ?_;refine bj (.cell 1002 3) ?_;refine ac .nil rfl
theorem aEu{l:List Nat}(hb:∀x∈l,x<256):(ub l==[67,83,75,49])=decide (l=[67,83,75,49]):=by
 rw[z02];simp only[beq_iff_eq,decide_eq_true_eq];constructor
 ·intro h;rw[←aq6 hb,h];rfl
 ·rintro rfl;rfl
theorem Ms(b:List Nat)(hl:b.length≤2^40)(hb:∀x∈b,x<256):Fn Tryz.prog 45 [] [.pv (.sl 1 (bytes b))]
  (fun rs H'=>rs=[.pv (Ak (kz b).1),.pv (.int .i64 (kz b).2)]∧H'=[]):=by
 refine U3 77 [1002,1003] (fn:=Tryz.f45) (n:=55) (res:=[.cell 2 27,.cell 3 29]) (by kernel_rfl) rfl rfl rfl rfl rfl (fun C=> ?_)
 have hr:aw=140737488355328:=rfl;have hbad:∀e,kz b=Fr e→ [SV.pv (.agg [.int .u64 0,.sl 1 [],.sl 2 [],.sl 1 []]),.pv (.int .i64 e)]=[SV.pv (Ak (kz b).1),.pv (.int .i64 (kz b).2)]:=fun e h=>by rw[h];rfl
 refine AW.seq ?_;refine AW.region ?_;refine Kp 1002 ?_;refine Kp 1003 ?_;refine ar (.cell 1002 1) 5 ?_;refine bj (.cell 1002 1) ?_;refine ar (.cell 1002 2) 55 ?_;refine bj (.cell 1002 2) ?_;refine ar (.cell 1002 3) 5 ?_;refine bj (.cell 1002 3) ?_;refine aa ?_;refine AW.defer [1002,1003] ?_;refine aa ?_;refine av (fun _=>4) (E8 b (by omega)) (.pv _ .nil) ?_
 refine aa ?_;refine cd (fun _=>4) (Cz b 4 (by omega)) (.ptr rfl (.pv _ .nil)) (fun he ch hch=> ?_) (fun he=> ?_)
 ·exact mb hch (jb _ _ _ _ _ _ hch) (.pv _ (.pv _ .nil)) ⟨hbad 2 (by unfold kz;rw[if_pos he]),rfl⟩
 have e1:kz b=if b.take 4≠ [67,83,75,49]then Fr 3 else te (b.drop 4):=by unfold kz;rw[if_neg (by omega)]
 rw[e1]at hbad⊢;have hu:=aEu (l:=b.take 4) (fun x hx=>hb x (z10 hx))
 have hb1:∀x∈b.drop 4,x<256:=fun x hx=>hb x (z06 hx)
 have hl1:(b.drop 4).length≤2^40:=by rw[z03];omega
 clear e1 he hb hl;generalize b.take 4=m4 at*;generalize b.drop 4=q1 at*;refine aa ?_ (by simp only[go_sem,↓reduceIte,sw,ux,hu]<;>rfl)
 refine cd (fun _=>0) (lc (decide (m4=[67,83,75,49])) 3 (by decide)) (.pv _ (.pv _ .nil)) (fun he ch hch=> ?_) (fun he=> ?_)
 ·exact mb hch (jb _ _ _ _ _ _ hch) (.pv _ (.pv _ .nil)) ⟨hbad 3 (by rw[if_pos (of_decide_eq_false he)]),rfl⟩
 have e2:(if m4≠ [67,83,75,49]then Fr 3 else te q1)=te q1:=if_neg (by simpa using of_decide_eq_true he)
 rw[e2]at hbad⊢;clear e2 he hu;refine aa ?_;refine av (fun _=>4) (Up q1 8 (by omega) (by omega) hb1) (.ptr rfl (.pv _ .nil)) ?_
 have hv:=Ik (q1.take 8) (fun x hx=>hb1 x (z10 hx))
 have hvp:256^ (q1.take 8).length≤256^8:=z21 (by omega) (by rw[z15];omega)
 have hb2:∀x∈q1.drop 8,x<256:=fun x hx=>hb1 x (z06 hx)
 have hl2:(q1.drop 8).length≤2^40:=by rw[z03];omega
 by_cases h8:q1.length<8
 ·have h8':¬8≤q1.length:=by omega
  simp only[if_neg h8'];refine aa ?_;refine cd (fun _=>0) (Df 0 2) (.pv _ (.pv _ .nil)) (fun he ch hch=> ?_) (fun he=>absurd he (by decide))
  exact mb hch (jb _ _ _ _ _ _ hch) (.pv _ (.pv _ .nil)) ⟨hbad 2 (by unfold te;rw[if_pos h8]),rfl⟩
 have h8':8≤q1.length:=by omega
 simp only[if_pos h8'];have e3:te q1=if u7 (q1.take 8)=18446744073709551615 then Fr 3 else xo (u7 (q1.take 8)) (q1.drop 8):=by unfold te;rw[if_neg h8]
 rw[e3]at hbad⊢;clear e3 h8 h8';generalize u7 (q1.take 8)=v at*;generalize q1.drop 8=q2 at*;clear hvp;refine aa ?_;refine cd (fun _=>0) (Df v 0) (.pv _ (.pv _ .nil)) (fun he ch hch=>absurd rfl he) (fun he=> ?_)
 clear he;have dv:((v:Int) !=18446744073709551615)= !decide (v=18446744073709551615):=by rw[z02];simp;omega
 refine aa ?_ (by simp only[go_sem,↓reduceIte,dv]<;>rfl)
 refine cd (fun _=>0) (lc (!decide (v=18446744073709551615)) 3 (by decide)) (.pv _ (.pv _ .nil)) (fun he ch hch=> ?_) (fun he=> ?_)
 ·have hv1:v=18446744073709551615:=by simpa using he
  exact mb hch (jb _ _ _ _ _ _ hch) (.pv _ (.pv _ .nil)) ⟨hbad 3 (by rw[if_pos hv1]),rfl⟩
 have hv1:v≠18446744073709551615:=by simpa using he
 rw[if_neg hv1]at hbad⊢;clear he;refine aa ?_;refine cd (fun _=>4) (Cz q2 32 (by omega)) (.ptr rfl (.pv _ .nil)) (fun he ch hch=> ?_) (fun he=> ?_)
 ·exact mb hch (jb _ _ _ _ _ _ hch) (.pv _ (.pv _ .nil)) ⟨hbad 2 (by unfold xo;rw[if_pos he]),rfl⟩
 have e4:xo v q2=yg v (q2.take 32) (q2.drop 32):=by unfold xo;rw[if_neg (by omega)]
 rw[e4]at hbad⊢;have hb3:∀x∈q2.drop 32,x<256:=fun x hx=>hb2 x (z06 hx)
 have hl3:(q2.drop 32).length≤2^40:=by rw[z03];omega
 clear e4 he;generalize q2.take 32=prev at*;generalize q2.drop 32=q3 at*;refine aa ?_;refine cd (fun _=>4) (aip q3 (by omega) hb3) (.ptr rfl .nil) (fun he ch hch=> ?_) (fun he=> ?_)
 ·exact mb hch (jb _ _ _ _ _ _ hch) (.pv _ (.pv _ .nil)) ⟨hbad _ (by unfold yg;rw[if_pos he]),rfl⟩
 have e5:yg v prev q3=Aw v prev (ed q3).1 (ed q3).2.2:=by unfold yg;rw[if_neg (by simpa using he)]
 rw[e5]at hbad⊢;have hb4:=Be hb3;have hl4:=abi hb3;have htl:=ao1 q3;clear e5 he;generalize(ed q3).1=ts at*;generalize(ed q3).2.2=q4 at*;refine aa ?_;refine cd (fun _=>4) (air ts (by omega) q4 (by omega) hb4) (.ptr rfl (.pv _ .nil)) (fun he ch hch=> ?_) (fun he=> ?_)
 ·exact mb hch (jb _ _ _ _ _ _ hch) (.pv _ (.pv _ .nil)) ⟨hbad _ (by unfold Aw;rw[if_pos he]),rfl⟩
 have e6:Aw v prev ts q4=Av v prev ts (fc ts q4).1 (fc ts q4).2.2:=by unfold Aw;rw[if_neg (by simpa using he)]
 rw[e6]at hbad⊢;have hb5:=Xi ts hb4;have hl5:=adx ts q4;have hel:=Z4 ts q4;clear e6 he;generalize(fc ts q4).1=es at*;generalize(fc ts q4).2.2=q5 at*;refine aa ?_;refine cd (fun _=>4) (Cz q5 32 (by omega)) (.ptr rfl (.pv _ .nil)) (fun he ch hch=> ?_) (fun he=> ?_)
 ·exact mb hch (jb _ _ _ _ _ _ hch) (.pv _ (.pv _ .nil)) ⟨hbad 2 (by unfold Av;rw[if_pos he]),rfl⟩
 have e7:Av v prev ts es q5=if q5.drop 32≠ []then Fr 3 else if(iw es).length≠ts.length then Fr 3 else(⟨v,prev,es,q5.take 32⟩,0):=by unfold Av;rw[if_neg (by omega)]
 rw[e7]at hbad⊢;clear e7 he;generalize q5.take 32=root at*;generalize q5.drop 32=q6 at*;refine aa ?_;refine av (fun _=>4) (E9 q6) (.ptr rfl .nil) ?_
 refine aa ?_;refine cd (fun _=>0) (G4 _) (.pv _ .nil) (fun he ch hch=> ?_) (fun he=> ?_)
 ·have h6:q6≠ []:=fun h=>he (if_pos h)
  rw[if_neg h6]at hch;exact mb hch (jb _ _ _ _ _ _ hch) (.pv _ (.pv _ .nil)) ⟨hbad _ (by rw[if_pos h6]),rfl⟩
 have h6:q6=[]:=Classical.byContradiction fun h=>by rw[if_neg h]at he;exact absurd he (by decide)
 rw[if_neg (by simpa using h6)]at hbad⊢
 clear he;have hdf:=Qf es (by omega)
 have hdl:=yw es;have hnl:=vv es;generalize iw es=ns at*;refine aa ?_;refine av (fun _=>6) hdf (.pv _ .nil) ?_
 refine aa ?_;refine U5 rfl ⟨_,rfl⟩ ?_;have dn:((ns.length:Int)==(ts.length:Int))=decide (ns.length=ts.length):=by rw[z02];simp;omega
 refine aa ?_ (by simp only[go_sem,↓reduceIte,dn]<;>rfl)
 refine cd (fun _=>0) (lc (decide (ns.length=ts.length)) 3 (by decide)) (.pv _ (.pv _ .nil)) (fun he ch hch=> ?_) (fun he=> ?_)
 ·exact mb hch (jb _ _ _ _ _ _ hch) (.pv _ (.pv _ .nil)) ⟨hbad 3 (by rw[if_pos (of_decide_eq_false he)]),rfl⟩
 rw[if_neg (by simpa using of_decide_eq_true he)]
 refine aa ?_;exact aqp (W2 _ _ _ _ _) (.pv _ (.pv _ .nil)) ⟨rfl,rfl⟩
theorem Jm(x:Nat)(l:List (List Nat))(hll:l.length≤2^40)(hx:l.flatten.length<2^58):Fn Tryz.prog 91 [] [.pv (.int .u8 (x:Nat)),.pv (.sl 1 (az l))] (fun rs H'=>rs=[.own 5 (bytes (Gi (x::l.flatten)))]∧H'=[]):=by
 refine Fn.ob Tryz.f91 26 [.tmp 4] fun C=> ?_
 have m1:(1≤maxLen)=True:=eq_true (by unfold maxLen;decide)
 have hs1:[PV.int .u8 ((x:Nat):Int)]=bytes [x]:=rfl;have hz:HC [x] (wr h00 [x]):=(HC.zero.wr (b:=[x])).1;refine aa ?_ (by simp only[go_sem,↓reduceIte,m1]<;>rfl)
 refine AW.keepB [10,12,5,1] [9] (by simp only[go_sem,↓reduceIte]) (s':=⟨26,[(10,.ptr 9 0),(12,.own 5 (bytes [x])),(5,.ptr 9 0),(1,.pv (.sl 1 (az l)))],[(9,.cells 160 (s7 h00))]⟩) (by simp only[go_sem,↓reduceIte]<;>rfl) ?_
 refine av (args:=[.ptr 1000 0,.pv (.sl 1 (bytes [x]))]) (fun _=>9) (Dn h00 [x] rfl (by show 0+1<2^60;decide)) (.ptr rfl (.lend rfl c7 .nil)) ?_
 refine aa ?_;refine aq (fun a:Nat×HS=>⟨26,[(16,.pv (.int .i64 a.1)),(15,.pv (.int .i64 l.length)),(14,.pv (.sl 1 (az l))),(5,.ptr 9 0)],[(9,.cells 160 (s7 a.2))]⟩) (fun a=>a.1≤l.length∧HC (x::(l.take a.1).flatten) a.2) (fun a=>l.length-a.1) [16,15,14,5] [9] (0,wr h00 [x]) ⟨z20 _,hz⟩ ?_ (hs:=by simp only[go_sem,↓reduceIte,bf]<;>rfl)
 rintro⟨i,h⟩ ⟨hi,hc⟩ K hK;simp only at hi hc;simp only;refine aa ?_;refine AW.cond rfl (fun hcd=> ?_) (fun hcd=> ?_)
 ·have hlt:i<l.length:=by have:=of_decide_eq_true hcd;omega
  obtain⟨b,hb⟩:∃b,l[i]?=some b:=⟨l[i],z17 hlt⟩
  have hg:=gz hb;have h1:l.take (i+1)=l.take i++[b]:=by
   obtain⟨h,rfl⟩:=z16.1 hb;exact z13 h
  have hfl:(l.take (i+1)).flatten.length≤l.flatten.length:=by
   conv=>rhs;rw[←List.take_append_drop (i+1) l,z12,z05]
   omega
  have hn:h.n+b.length<2^60:=by
   rw[hc.n,z04];rw[h1,z12,z05]at hfl;simp only[List.flatten_cons,List.flatten_nil,z27]at hfl;omega
  have hnx:HC (x::(l.take (i+1)).flatten) (wr h b):=by
   have:=(hc.wr (b:=b)).1;rw[h1,z12];simpa using this
  have ei:IntKind.i64.wrap ((i:Int)+1)=((i+1:Nat):Int):=ai (by omega)
  refine aa ?_ (by simp only[go_sem,↓reduceIte,hg]<;>rfl)
  refine av (fun _=>9) (Dn h b hc.len hn) (.ptr rfl (.pv _ .nil)) ?_
  refine aa ?_ (by simp only[go_sem,↓reduceIte,ei]<;>rfl)
  exact ah hK (i+1,wr h b) ⟨by show i+1≤l.length;omega,hnx⟩ (by show l.length-(i+1)<l.length-i;omega)
 have hge:i=l.length:=by have:=of_decide_eq_false hcd;omega
 subst hge;rw[z23]at hc;refine aa ?_;refine av (fun _=>9) (Z2 h (x::l.flatten) hc (by rw[z04];omega)) (.ptr rfl .nil) ?_
 refine aa ?_;refine ac (.move rfl .nil) rfl
theorem aix(b:List Nat)(hb:b.length<2^57):Fn Tryz.prog 52 [] [.pv (.sl 1 (bytes b))] (fun rs H'=>rs=[.pv (.sl 1 (bytes (br b)))]∧H'=[]):=by
 refine Fn.ob Tryz.f52 6 [.tmp 2] fun C=> ?_
 have m1:(1≤maxLen)=True:=eq_true (by unfold maxLen;decide)
 have e:br b=Gi (0::[b].flatten):=by simp[br]
 rw[e];refine aa ?_ (by simp only[go_sem,↓reduceIte,m1]<;>rfl)
 refine av (args:=[.pv (.int .u8 ((0:Nat):Int)),.pv (.sl 1 (az [b]))]) (fun _=>0) (Jm 0 [b] (by simp) (by simp;omega)) (.pv _ (.lend rfl ry .nil)) ?_
 refine aa ?_;refine ac (.lend rfl c7 .nil) rfl
theorem Ru(a b:List Nat)(ha:a.length<2^56)(hb:b.length<2^56):Fn Tryz.prog 88 [] [.pv (.sl 1 (bytes a)),.pv (.sl 1 (bytes b))] (fun rs H'=>rs=[.pv (.sl 1 (bytes (kf a b)))]∧H'=[]):=by
 refine Fn.ob Tryz.f88 9 [.tmp 4] fun C=> ?_
 have m1:(2≤maxLen)=True:=eq_true (by unfold maxLen;decide)
 have e:kf a b=Gi (1::[a,b].flatten):=by simp[kf]
 rw[e];refine aa ?_ (by simp only[go_sem,↓reduceIte,m1]<;>rfl)
 refine av (args:=[.pv (.int .u8 ((1:Nat):Int)),.pv (.sl 1 (az [a,b]))]) (fun _=>0) (Jm 1 [a,b] (by simp) (by simp;omega)) (.pv _ (.lend rfl ry .nil)) ?_
 refine aa ?_;refine ac (.lend rfl c7 .nil) rfl
theorem apw(v:Nat)(hv:v<2^64):Fn Tryz.prog 116 [] [.pv (.int .u64 v)] (fun rs H'=>rs=[.pv (.int .i64 (dg v:Nat))]∧H'=[]):=by
 refine Fn.ob Tryz.f116 8 [.tmp 2] fun C=> ?_
 refine aa ?_;refine ae rfl ?_;refine aa ?_;refine ap (R4 v hv) (.pv _ .nil) ?_;refine aa ?_;refine ac (.pv _ .nil) rfl
theorem avk(v:Nat)(hv:v<2^64):Fn Tryz.prog 89 [] [.pv (.int .u64 v)] (fun rs H'=>rs=[.pv (.int .i64 ((if v=0 then 64 else zi v:Nat):Int))]∧H'=[]):=by
 refine Fn.ob Tryz.f89 8 [.tmp 2] fun C=> ?_
 refine aa ?_;refine ae rfl ?_;refine aa ?_;refine ap (aEv v hv) (.pv _ .nil) ?_;refine aa ?_;refine ac (.pv _ .nil) rfl
theorem adp{n:Nat}(h:2≤n):co n=2^ (dg (n-1)-1):=by
 have h0:dg (n-1)≠0:=by
  intro he;have:=v7 (v:=n-1);rw[he]at this;omega
 have h1:=v7 (v:=n-1);have h2:¬n-1<2^ (dg (n-1)-1):=fun h=>by
  have:=fh.2 h;omega
 have h3:2^dg (n-1)=2^ (dg (n-1)-1)*2:=by rw[←Nat.pow_succ];congr 1;omega
 exact rk h (by omega) (by omega)
theorem aja(n:Nat)(h:2≤n)(hn:n≤2^40):Fn Tryz.prog 90 [] [.pv (.int .i64 n)] (fun rs H'=>rs=[.pv (.int .i64 (co n))]∧H'=[]):=by
 refine Fn.ob Tryz.f90 9 [.tmp 2] fun C=> ?_
 have w1:IntKind.i64.wrap ((n:Int)-1)=((n-1:Nat):Int):=by rw[an (by omega) (by omega)];omega
 have w2:IntKind.u64.wrap ((n-1:Nat):Int)=((n-1:Nat):Int):=ay (by omega)
 have hb1:dg (n-1)≤40:=fh.2 (by omega)
 have hb0:1≤dg (n-1):=by
  rcases Nat.eq_zero_or_pos (dg (n-1))with he|he
  ·have:=v7 (v:=n-1);rw[he]at this;omega
  ·exact he
 have w3:IntKind.i64.wrap ((dg (n-1):Int)-1)=((dg (n-1)-1:Nat):Int):=by rw[an (by omega) (by omega)];omega
 have sh:∀k:Nat,k≤39→xw .i64 1 (k:Int)=((2^k:Nat):Int):=by
  intro k hk;have hp:2^k≤2^39:=z21 (by decide) hk
  have:xw .i64 ((1:Nat):Int) (k:Int)=IntKind.i64.wrap (((1*2^k:Nat)):Int):=by
   unfold xw;simp;rw[Nat.min_eq_left (show k≤IntKind.i64.bits from by show k≤64;omega)]
  have h2:=this;rw[au (n:=1*2^k) (by omega),Nat.one_mul]at h2
  exact h2
 have sh2:=sh (dg (n-1)-1) (by omega)
 rw[adp h];refine aa ?_ (by simp only[go_sem,↓reduceIte,w1,w2]<;>rfl)
 refine ap (apw (n-1) (by omega)) (.pv _ .nil) ?_
 have k0:((0:Int)≤((dg (n-1)-1:Nat):Int))=True:=eq_true (by omega)
 refine aa ?_ (by simp only[go_sem,↓reduceIte,w3,sh2,k0]<;>rfl)
 refine ac (.pv _ .nil) rfl
theorem sx:∀(n:Nat) (t:List (List Nat)),joinN (n+1) t=n8 (joinN n t)
 |0,t=>rfl
 |n+1,t=>by
  show joinN (n+1) (n8 t)=n8 (joinN (n+1) t)
  rw[sx n (n8 t)];rfl
theorem Ey:∀(n:Nat) (t:List (List Nat)),n<t.length→(joinN n t).length=t.length-n
 |0,t,h=>rfl
 |n+1,t,h=>by
  have h1:=Ey n t (by omega)
  rw[sx,uy _ (by omega),h1];omega
theorem Ok{t:List (List Nat)}(h:2≤t.length):∃A a b,t=A++[a,b]:=by
 rcases z19 t with rfl|⟨B,b,rfl⟩
 ·simp at h
 ·rcases z19 B with rfl|⟨A,a,rfl⟩
  ·simp at h
  ·exact⟨A,a,b,by simp⟩
theorem zy(a b:List Nat):(kf a b).length=32:=qo _
def BN(N:Nat)(t:List (List Nat)):Prop:=∀x∈t,0<x.length∧x.length≤N
theorem BN.join{N:Nat}(hN:32≤N){t:List (List Nat)}(h:BN N t):BN N (n8 t):=by
 by_cases h2:2≤t.length
 ·obtain⟨A,a,b,rfl⟩:=Ok h2;rw[wu];intro x hx;rcases z26.1 hx with hx|hx
  ·exact h x (List.mem_append_left _ hx)
  ·rw[z22]at hx;subst hx;rw[zy];omega
 ·match t,h2,h with
  |[],_,h=>exact h
  |[x],_,h=>exact h
  |x::y::r,h2,_=>simp at h2
theorem Jh{N:Nat}(hN:32≤N):∀(n:Nat) {t:List (List Nat)},BN N t→BN N (joinN n t)
 |0,t,h=>h
 |n+1,t,h=>by rw[sx];exact(Jh hN n h).join hN
theorem BN.mroot{N:Nat}(hN:32≤N){l:List (List Nat)}(h:BN N l):0<(mroot l).length∧(mroot l).length≤N:=by
 match l,h with
 |[],_=>rw[rj,qo];omega
 |[x],h=>rw[og];exact h x (by simp)
 |x::y::r,h=>rw[oh (by simp),zy];omega
theorem BN.take{N:Nat}{l:List (List Nat)}(h:BN N l)(n:Nat):BN N (l.take n):=fun x hx=>h x (z10 hx)
theorem BN.drop{N:Nat}{l:List (List Nat)}(h:BN N l)(n:Nat):BN N (l.drop n):=fun x hx=>h x (z06 hx)
theorem Vx{N:Nat}(hN:32≤N):∀(n:Nat) {l:List (List Nat)},l.length≤n→BN N l→BN N (stk l)
 |n,l,hl,h=>by
  by_cases h0:l=[]
  ·subst h0;rw[tf];exact h
  ·rw[nm h0];have hp:=fq (l.length+1);have hl0:0<l.length:=z11.2 h0;intro x hx;rcases z01.1 hx with rfl|hx
   ·exact(h.take _).mroot hN
   ·match n,hl with
    |0,hl=>omega
    |n+1,hl=>exact Vx hN n (by rw[z03];omega) (h.drop _) x hx
theorem BN.snoc{N:Nat}{l:List (List Nat)}{x:List Nat}(h:BN N l)(h0:0<x.length)(h1:x.length≤N):BN N (l++[x]):=by
 intro y hy;rcases z26.1 hy with hy|hy
 ·exact h y hy
 ·rw[z22]at hy;subst hy;exact⟨h0,h1⟩
theorem Ot:∀(n:Nat) {l:List (List Nat)},l.length≤n→(stk l).length≤l.length
 |n,l,hl=>by
  by_cases h0:l=[]
  ·subst h0;rw[tf];exact z07 _
  ·have hp:=fq (l.length+1);have hl0:0<l.length:=z11.2 h0;rw[nm h0,z04]
   match n,hl with
   |0,hl=>omega
   |n+1,hl=>
    have:=Ot n (l:=l.drop (co (l.length+1))) (by rw[z03];omega)
    rw[z03]at this;omega
def Qt(lo hi:Nat):PV:= .agg [.int .i64 (lo:Int),.int .i64 (hi:Int)]
theorem Lr(lo hi i j:Nat)(h1:hi<2^60)(h0:0<hi):Fn Tryz.prog 48 [] [.pv (Qt lo hi),.pv (.int .i64 (i:Int)),.pv (.int .i64 (j:Int))] (fun rs H'=>rs=[.pv (.bool (decide (i≤lo∧hi≤j+1)))]∧H'=[]):=by
 refine Fn.ob Tryz.f48 18 [.tmp 6] fun C=> ?_
 have w1:IntKind.i64.wrap ((hi:Int)-1)=((hi-1:Nat):Int):=by rw[an (by omega) (by omega)];omega
 unfold Qt;by_cases a:i≤lo
 ·have d1:decide ((i:Int)≤(lo:Int))=true:=decide_eq_true (by omega)
  have d1':decide (i≤lo)=true:=decide_eq_true a;have d2:decide (((hi-1:Nat):Int)≤(j:Int))=decide (i≤lo∧hi≤j+1):=by rw[z02];simp only[decide_eq_true_eq];omega
  have d2':decide (hi-1≤j)=decide (i≤lo∧hi≤j+1):=by rw[z02];simp only[decide_eq_true_eq];omega
  refine ak ?_ (by simp only[go_sem,↓reduceIte,d1,d1',d2,d2',w1]<;>rfl)
  refine ac (.pv _ .nil) rfl
 ·have d1:decide ((i:Int)≤(lo:Int))=false:=decide_eq_false (by omega)
  have d1':decide (i≤lo)=false:=decide_eq_false a;rw[show decide (i≤lo∧hi≤j+1)=false from decide_eq_false (fun h=>a h.1)]
  refine ak ?_ (by simp only[go_sem,↓reduceIte,d1,d1',w1]<;>rfl)
  refine ac (.pv _ .nil) rfl
theorem S9(lo hi i j:Nat)(h1:hi<2^60)(h0:0<hi):Fn Tryz.prog 49 [] [.pv (Qt lo hi),.pv (.int .i64 (i:Int)),.pv (.int .i64 (j:Int))] (fun rs H'=>rs=[.pv (.bool (decide (j<lo∨hi≤i)))]∧H'=[]):=by
 refine Fn.ob Tryz.f49 18 [.tmp 6] fun C=> ?_
 have w1:IntKind.i64.wrap ((hi:Int)-1)=((hi-1:Nat):Int):=by rw[an (by omega) (by omega)];omega
 unfold Qt;by_cases a:j<lo
 ·have d1:decide ((j:Int)<(lo:Int))=true:=decide_eq_true (by omega)
  have d1':decide (j<lo)=true:=decide_eq_true a;rw[show decide (j<lo∨hi≤i)=true from decide_eq_true (.inl a)]
  refine ak ?_ (by simp only[go_sem,↓reduceIte,d1,d1',w1]<;>rfl)
  refine ac (.pv _ .nil) rfl
 ·have d1:decide ((j:Int)<(lo:Int))=false:=decide_eq_false (by omega)
  have d1':decide (j<lo)=false:=decide_eq_false a;have d2:decide (((hi-1:Nat):Int)<(i:Int))=decide (j<lo∨hi≤i):=by rw[z02];simp only[decide_eq_true_eq];omega
  have d2':decide (hi-1<i)=decide (j<lo∨hi≤i):=by rw[z02];simp only[decide_eq_true_eq];omega
  refine ak ?_ (by simp only[go_sem,↓reduceIte,d1,d1',d2,d2',w1]<;>rfl)
  refine ac (.pv _ .nil) rfl
theorem L6(lo hi:Nat)(h:lo+2≤hi)(h1:hi≤2^40):Fn Tryz.prog 51 [] [.pv (Qt lo hi)] (fun rs H'=>rs=[.pv (Qt lo (lo+co (hi-lo))),.pv (Qt (lo+co (hi-lo)) hi)]∧H'=[]):=by
 refine Fn.ob Tryz.f51 22 [.cell 2 89,.cell 3 89] fun C=> ?_
 have hl:=iv (n:=hi-lo) (by omega)
 have w1:IntKind.i64.wrap ((hi:Int)-(lo:Int))=((hi-lo:Nat):Int):=by rw[an (by omega) (by omega)];omega
 have hh:=aja (hi-lo) (by omega) (by omega)
 generalize co (hi-lo)=k at*;have w2:IntKind.i64.wrap ((lo:Int)+(k:Int))=((lo+k:Nat):Int):=au (n:=lo+k) (by omega)
 unfold Qt;refine aa ?_;refine cr ?_;refine bu [[],[5],[],[7],[],[9],[8,10]] ?_ (by simp only[go_sem,↓reduceIte,w1]<;>rfl)
 refine CK.call (ps:=[_]) [11] (hh) ?_;refine bu [[6,12]] ?_ (by simp only[go_sem,↓reduceIte,w2]<;>rfl)
 refine CK.done (M:=9) 1 mixed ?_;refine bp (fuel:=0) (listed':=z08 10 true) [9] ?_ (by decide+kernel)
 refine ak ?_;refine a8 (by decide+kernel) ?_
 refine aa ?_;refine Aj (T:= ?T1) (fun hT=> ?_) ?_;rotate_left
 ·refine tl mixed ?_;refine AW.takes (fuel:=6) [0,2,4,5] ?_ (by simp only[go_sem,↓reduceIte]<;>rfl) dt (listed':= #[true,false,true,false,true,true,false,false,false,false]) (by decide+kernel) (by decide+kernel)
  refine ce (fuel:=5) (rs:=[1,6]) ?_ (by decide+kernel) (by simp)
  intro j hj;simp only[z01,z00,or_false]at hj;rcases hj with rfl|rfl
  ·skip
   refine ak ?_;refine ce (fuel:=4) (rs:=[3,6]) ?_ (by decide+kernel) (by simp)
   intro j hj;simp only[z01,z00,or_false]at hj;rcases hj with rfl|rfl
   ·skip
    refine ak ?_;refine ce (fuel:=3) (rs:=[6,8]) ?_ (by decide+kernel) (by simp)
    intro j hj;simp only[z01,z00,or_false]at hj;rcases hj with rfl|rfl
    ·skip
     refine ak ?_;refine ce (fuel:=2) (rs:=[7,8]) ?_ (by decide+kernel) (by simp)
     intro j hj;simp only[z01,z00,or_false]at hj;rcases hj with rfl|rfl
     ·skip
      refine ak ?_;refine bp (fuel:=0) (listed':= #[true,true,true,true,true,true,true,true,true,true]) [8,9] ?_ (by decide+kernel)
      refine ak ?_;refine a8 (by decide+kernel) ?_
      refine bq [2,3] [2,3] (s':=⟨22,[(2,.ptr 2 0),(3,.ptr 3 0)],[(2,.cells 89 [.pv (.int .i64 (lo:Int)),.pv (.int .i64 ((lo+k:Nat):Int))]),(3,.cells 89 [.pv (.int .i64 ((lo+k:Nat):Int)),.pv (.int .i64 (hi:Int))])]⟩) ?_;exact hT ()
     ·skip
      refine ak ?_;refine bp (fuel:=0) (listed':= #[true,true,true,true,true,true,true,true,true,true]) [7,9] ?_ (by decide+kernel)
      refine ak ?_;refine a8 (by decide+kernel) ?_
      refine bq [2,3] [2,3] (s':=⟨22,[(2,.ptr 2 0),(3,.ptr 3 0)],[(2,.cells 89 [.pv (.int .i64 (lo:Int)),.pv (.int .i64 ((lo+k:Nat):Int))]),(3,.cells 89 [.pv (.int .i64 ((lo+k:Nat):Int)),.pv (.int .i64 (hi:Int))])]⟩) ?_;exact hT ()
    ·skip
     refine ak ?_;refine bp (fuel:=0) (listed':= #[true,true,true,true,true,true,true,true,true,true]) [6,7,9] ?_ (by decide+kernel)
     refine ak ?_;refine a8 (by decide+kernel) ?_
     refine bq [2,3] [2,3] (s':=⟨22,[(2,.ptr 2 0),(3,.ptr 3 0)],[(2,.cells 89 [.pv (.int .i64 (lo:Int)),.pv (.int .i64 ((lo+k:Nat):Int))]),(3,.cells 89 [.pv (.int .i64 ((lo+k:Nat):Int)),.pv (.int .i64 (hi:Int))])]⟩) ?_;exact hT ()
   ·skip
    refine ak ?_;refine ce (fuel:=3) (rs:=[3,7]) ?_ (by decide+kernel) (by simp)
    intro j hj;simp only[z01,z00,or_false]at hj;rcases hj with rfl|rfl
    ·skip
     refine ak ?_;refine ce (fuel:=2) (rs:=[7,8]) ?_ (by decide+kernel) (by simp)
     intro j hj;simp only[z01,z00,or_false]at hj;rcases hj with rfl|rfl
     ·skip
      refine ak ?_;refine bp (fuel:=0) (listed':= #[true,true,true,true,true,true,true,true,true,true]) [8,9] ?_ (by decide+kernel)
      refine ak ?_;refine a8 (by decide+kernel) ?_
      refine bq [2,3] [2,3] (s':=⟨22,[(2,.ptr 2 0),(3,.ptr 3 0)],[(2,.cells 89 [.pv (.int .i64 (lo:Int)),.pv (.int .i64 ((lo+k:Nat):Int))]),(3,.cells 89 [.pv (.int .i64 ((lo+k:Nat):Int)),.pv (.int .i64 (hi:Int))])]⟩) ?_;exact hT ()
     ·skip
      refine ak ?_;refine bp (fuel:=0) (listed':= #[true,true,true,true,true,true,true,true,true,true]) [7,9] ?_ (by decide+kernel)
      refine ak ?_;refine a8 (by decide+kernel) ?_
      refine bq [2,3] [2,3] (s':=⟨22,[(2,.ptr 2 0),(3,.ptr 3 0)],[(2,.cells 89 [.pv (.int .i64 (lo:Int)),.pv (.int .i64 ((lo+k:Nat):Int))]),(3,.cells 89 [.pv (.int .i64 ((lo+k:Nat):Int)),.pv (.int .i64 (hi:Int))])]⟩) ?_;exact hT ()
    ·skip
     refine ak ?_;refine bp (fuel:=0) (listed':= #[true,true,true,true,true,true,true,true,true,true]) [3,8,9] ?_ (by decide+kernel)
     refine ak ?_;refine a8 (by decide+kernel) ?_
     refine bq [2,3] [2,3] (s':=⟨22,[(2,.ptr 2 0),(3,.ptr 3 0)],[(2,.cells 89 [.pv (.int .i64 (lo:Int)),.pv (.int .i64 ((lo+k:Nat):Int))]),(3,.cells 89 [.pv (.int .i64 ((lo+k:Nat):Int)),.pv (.int .i64 (hi:Int))])]⟩) ?_;exact hT ()
  ·skip
   refine ak ?_;refine ce (fuel:=4) (rs:=[1,7]) ?_ (by decide+kernel) (by simp)
   intro j hj;simp only[z01,z00,or_false]at hj;rcases hj with rfl|rfl
   ·skip
    refine ak ?_;refine ce (fuel:=3) (rs:=[3,7]) ?_ (by decide+kernel) (by simp)
    intro j hj;simp only[z01,z00,or_false]at hj;rcases hj with rfl|rfl
    ·skip
     refine ak ?_;refine ce (fuel:=2) (rs:=[7,8]) ?_ (by decide+kernel) (by simp)
     intro j hj;simp only[z01,z00,or_false]at hj;rcases hj with rfl|rfl
     ·skip
      refine ak ?_;refine bp (fuel:=0) (listed':= #[true,true,true,true,true,true,true,true,true,true]) [8,9] ?_ (by decide+kernel)
      refine ak ?_;refine a8 (by decide+kernel) ?_
      refine bq [2,3] [2,3] (s':=⟨22,[(2,.ptr 2 0),(3,.ptr 3 0)],[(2,.cells 89 [.pv (.int .i64 (lo:Int)),.pv (.int .i64 ((lo+k:Nat):Int))]),(3,.cells 89 [.pv (.int .i64 ((lo+k:Nat):Int)),.pv (.int .i64 (hi:Int))])]⟩) ?_;exact hT ()
     ·skip
      refine ak ?_;refine bp (fuel:=0) (listed':= #[true,true,true,true,true,true,true,true,true,true]) [7,9] ?_ (by decide+kernel)
      refine ak ?_;refine a8 (by decide+kernel) ?_
      refine bq [2,3] [2,3] (s':=⟨22,[(2,.ptr 2 0),(3,.ptr 3 0)],[(2,.cells 89 [.pv (.int .i64 (lo:Int)),.pv (.int .i64 ((lo+k:Nat):Int))]),(3,.cells 89 [.pv (.int .i64 ((lo+k:Nat):Int)),.pv (.int .i64 (hi:Int))])]⟩) ?_;exact hT ()
    ·skip
     refine ak ?_;refine bp (fuel:=0) (listed':= #[true,true,true,true,true,true,true,true,true,true]) [3,8,9] ?_ (by decide+kernel)
     refine ak ?_;refine a8 (by decide+kernel) ?_
     refine bq [2,3] [2,3] (s':=⟨22,[(2,.ptr 2 0),(3,.ptr 3 0)],[(2,.cells 89 [.pv (.int .i64 (lo:Int)),.pv (.int .i64 ((lo+k:Nat):Int))]),(3,.cells 89 [.pv (.int .i64 ((lo+k:Nat):Int)),.pv (.int .i64 (hi:Int))])]⟩) ?_;exact hT ()
   ·skip
    refine ak ?_;refine bp (fuel:=0) (listed':= #[true,true,true,true,true,true,true,true,true,true]) [1,3,8,9] ?_ (by decide+kernel)
    refine ak ?_;refine a8 (by decide+kernel) ?_
    refine bq [2,3] [2,3] (s':=⟨22,[(2,.ptr 2 0),(3,.ptr 3 0)],[(2,.cells 89 [.pv (.int .i64 (lo:Int)),.pv (.int .i64 ((lo+k:Nat):Int))]),(3,.cells 89 [.pv (.int .i64 ((lo+k:Nat):Int)),.pv (.int .i64 (hi:Int))])]⟩) ?_;exact hT ()
 refine aa ?_;refine ac (.pv _ (.pv _ .nil)) rfl
theorem Jq(l:List Nat)(hl:l.length≤aw):Fn Tryz.prog 53 [] [.pv (.sl 1 (bytes l))] (fun rs H'=>rs=[.pv (.sl 1 (bytes l))]∧H'=[]):=by
 refine Fn.ob Tryz.f53 8 [.tmp 2] fun C=> ?_
 refine aa ?_;refine Tj (.inl rfl) rfl rfl rfl s9 rfl rfl rfl rfl (fun b hb=> ?_)
 cases b with
 |true=>
  have:bytes l=[]:=hb rfl;rw[this];refine aa ?_;refine am rfl ?_;refine aa ?_;refine ac (.lend rfl c7 .nil) rfl
 |false=>
  have r1:(l.length≤aw)=True:=eq_true hl;refine aa ?_;refine ae rfl ?_;refine aa ?_ (by simp only[go_sem,↓reduceIte,z09,z14,z25,r1]<;>rfl)
  refine ac (.lend rfl c7 .nil) rfl
theorem Sa(A:List (List Nat))(a b:List Nat)(hA:A.length≤2^40)(ha:a.length<2^56)(hb:b.length<2^56):Fn Tryz.prog 87 [(1000,.cells 28 [.own 22 (az (A++[a,b]))])] [.ptr 1000 0] (fun rs H'=>rs=[]∧H'=[(1000,.cells 28 [.own 22 (az (A++[kf a b]))])]):=by
 refine Fn.ob Tryz.f87 23 [] fun C=> ?_
 have m1:(1≤maxLen)=True:=eq_true (by unfold maxLen;decide)
 have hr:aw=140737488355328:=rfl;have hlen:(A++[a,b]).length=A.length+2:=by simp
 have w1:IntKind.i64.wrap (((A.length+2:Nat):Int)-2)=(A.length:Int):=by rw[an (by omega) (by omega)];omega
 have w2:IntKind.i64.wrap (((A.length+2:Nat):Int)-1)=((A.length+1:Nat):Int):=by rw[an (by omega) (by omega)];omega
 have g1:(az (A++[a,b]))[A.length]?=some (.sl 1 (bytes a)):=gz (by simp)
 have g2:(az (A++[a,b]))[A.length+1]?=some (.sl 1 (bytes b)):=gz (by simp)
 have hbl:(az (A++[a,b])).length=A.length+2:=by rw[bf,hlen]
 have htk:(az (A++[a,b])).take A.length=az A:=by rw[ng,List.take_left]
 have hap:az A++[PV.sl 1 (bytes (kf a b))]=az (A++[kf a b]):=by rw[Bx,ia]
 have l1:(A.length<A.length+2)=True:=eq_true (by omega)
 have l2:(A.length+1<A.length+2)=True:=eq_true (by omega)
 have hN:=Ru a b ha hb;generalize az (A++[a,b])=L at*;generalize kf a b=nd at*;refine aa ?_ (by simp only[go_sem,↓reduceIte,hbl]<;>rfl)
 refine cr ?_;refine bu [[],[],[6],[5,7],[8],[],[],[11],[10,12],[13]] ?_ (by simp only[go_sem,↓reduceIte,hbl,w1,w2,g1,g2,l1,l2]<;>rfl)
 refine CK.call (ps:=[_,_]) [9,14] hN ?_;refine CK.done (M:=11) 1 mixed ?_;refine bp (fuel:=0) (listed':=z08 12 true) [11] ?_ (by decide+kernel)
 refine ak ?_;refine a8 (by decide+kernel) ?_
 refine vn 4 ?_ (by simp only[go_sem,↓reduceIte,hbl,w1,w2,Nat.reduceMul]<;>rfl)
 refine aal (m:=A.length) (p:= .cell 1000 0) rfl rfl rfl rfl rfl (by omega) aqz (by decide) ?_
 have r1:((A.length+1)*24≤aw)=True:=eq_true (by omega)
 have r2:(A.length+1≤aw)=True:=eq_true (by omega)
 rw[htk];have hal:(az A).length=A.length:=bf A;generalize az A=LA at*;refine aa ?_ (by simp only[go_sem,↓reduceIte,m1,hal,z04,z09,z14,r1,r2,hap]<;>rfl)
 refine ac .nil rfl
theorem Rl(l:List (List Nat))(hll:l.length≤2^39)(hx:BN (2^27) l):Fn Tryz.prog 50 [] [.pv (.sl 1 (az l))] (fun rs H'=>rs=[.pv (.sl 1 (bytes (mroot l)))]∧H'=[]):=by
 refine Fn.ob Tryz.f50 42 [.tmp 2] fun C=> ?_
 have hr:aw=140737488355328:=rfl;have m1:(1≤maxLen)=True:=eq_true (by unfold maxLen;decide)
 have d0:((l.length:Int)==0)=decide (l.length=0):=by rw[z02];simp
 by_cases h0:l.length=0
 ·obtain rfl:l=[]:=List.eq_nil_of_length_eq_zero h0;rw[decide_eq_true h0]at d0;rw[rj];refine aa ?_ (by simp only[go_sem,↓reduceIte,bf,d0]<;>rfl)
  refine am rfl ?_;refine aa ?_;refine av (args:=[.pv (.sl 1 (bytes []))]) (fun _=>0) (abx [] (by decide)) (.nilsP 1 .nil) ?_
  refine aa ?_;refine ac (.lend rfl c7 .nil) rfl
 rw[decide_eq_false h0]at d0;refine aa ?_ (by simp only[go_sem,↓reduceIte,bf,d0]<;>rfl)
 refine ae rfl ?_;have hl0:l≠ []:=fun h=>h0 (by rw[h];rfl)
 refine aa ?_;refine ar (.cell 3 0) 22 ?_;refine aq (fun i:Nat=>⟨42,[(14,.pv (.int .i64 i)),(13,.pv (.int .i64 l.length)),(12,.pv (.sl 1 (az l))),(4,.fn 87 [.ptr 3 0]),(3,.ptr 3 0)],[(3,.cells 28 [.own 22 (az (stk (l.take i)))])]⟩) (fun i=>i≤l.length) (fun i=>l.length-i) [14,13,12,4,3] [3] 0 (z20 _) ?_ (hs:=by simp only[go_sem,↓reduceIte,bf,List.take_zero,tf]<;>rfl)
 rintro i hi K hK;refine aa ?_;refine AW.cond rfl (fun hc=> ?_) (fun hc=> ?_)
 ·have hlt:i<l.length:=by have:=of_decide_eq_true hc;omega
  obtain⟨x,hxg⟩:∃b,l[i]?=some b:=⟨l[i],z17 hlt⟩
  have hg:=gz hxg;have hxl:=hx x (List.mem_of_getElem? hxg);have h1:l.take (i+1)=l.take i++[x]:=by
   obtain⟨h,rfl⟩:=z16.1 hxg;exact z13 h
  have hti:(l.take i).length=i:=by rw[z15];omega
  obtain⟨hpush,htz⟩:=ahm (l.take i) x;rw[←h1,hti]at hpush;rw[hti]at htz;have hbs:BN (2^27) (stk (l.take i)):=Vx (by decide) _ (z07 _) (hx.take i)
  have hbt:BN (2^27) (stk (l.take i)++[x]):=hbs.snoc hxl.1 hxl.2;have hsl:(stk (l.take i)).length≤i:=by have:=Ot _ (z07 (l.take i).length);omega
  have ei:IntKind.i64.wrap ((i:Int)+1)=((i+1:Nat):Int):=ai (by omega)
  have eu:IntKind.u64.wrap ((i+1:Nat):Int)=((i+1:Nat):Int):=ay (by omega)
  have htzf:=avk (i+1) (by omega)
  rw[if_neg (by omega)]at htzf
  generalize hS:stk (l.take i)=S at*;generalize zi (i+1)=z at*;have hla:az S++[.sl 1 (bytes x)]=az (S++[x]):=by rw[Bx,ia]
  have hlb:(az S).length=S.length:=bf S;have r1:((S.length+1)*24≤aw)=True:=eq_true (by omega)
  have r2:(S.length+1≤aw)=True:=eq_true (by omega)
  refine aa ?_ (by simp only[go_sem,↓reduceIte,hg]<;>rfl)
  refine cr ?_;refine bu [[],[]] ?_ (by simp only[go_sem,↓reduceIte]<;>rfl)
  refine CK.call (ps:=[_]) [20] (Jq x (by omega)) ?_
  refine CK.list [21] ?_;refine CK.done (M:=4) 2 mixed ?_;refine bp (fuel:=0) (listed':=z08 6 true) [4,5] ?_ (by decide+kernel)
  refine ak ?_ (by simp only[go_sem,↓reduceIte,m1,hlb,z04,z09,z14,r1,r2,hla]<;>rfl)
  refine a8 (by decide+kernel) ?_
  refine aa ?_ (by simp only[go_sem,↓reduceIte,ei,eu]<;>rfl)
  refine ap htzf (.pv _ .nil) ?_;refine aa ?_;refine aq (fun j:Nat=>⟨42,[(28,.pv (.int .i64 j)),(27,.pv (.int .i64 z)),(14,.pv (.int .i64 i)),(13,.pv (.int .i64 l.length)),(12,.pv (.sl 1 (az l))),(4,.fn 87 [.ptr 3 0]),(3,.ptr 3 0)],[(3,.cells 28 [.own 22 (az (joinN j (S++[x])))])]⟩) (fun j=>j≤z) (fun j=>z-j) [28,27,14,13,12,4,3] [3] 0 (z20 _) ?_
  rintro j hj K2 hK2;refine aa ?_;refine AW.cond rfl (fun hc2=> ?_) (fun hc2=> ?_)
  ·have hjl:j<z:=by have:=of_decide_eq_true hc2;omega
   have hlen:=Ey j (S++[x]) (by rw[z05,z18];omega)
   rw[z05,z18]at hlen;have hbj:BN (2^27) (joinN j (S++[x])):=Jh (by decide) j hbt
   obtain⟨A,a,b,hA⟩:=Ok (t:=joinN j (S++[x])) (by omega)
   have hnx:joinN (j+1) (S++[x])=A++[kf a b]:=by rw[sx,hA,wu]
   have hAl:(A++[a,b]).length=A.length+2:=by simp
   rw[hA]at hbj hlen⊢;have ha:=hbj a (by simp)
   have hb:=hbj b (by simp)
   have ej:IntKind.i64.wrap ((j:Int)+1)=((j+1:Nat):Int):=ai (by omega)
   refine aa ?_;refine av (fun _=>3) (Sa A a b (by omega) (by omega) (by omega)) (.ptr rfl .nil) ?_
   rw[←hnx];refine aa ?_ (by simp only[go_sem,↓reduceIte,ej]<;>rfl)
   exact ah hK2 (j+1) (by omega) (by omega)
  have hge:j=z:=by have:=of_decide_eq_false hc2;omega
  subst hge;have ei2:IntKind.i64.wrap ((i:Int)+1)=((i+1:Nat):Int):=ei;refine aa ?_ (by simp only[go_sem,↓reduceIte,ei2]<;>rfl)
  exact ah hK (i+1) (by omega) (by omega) (hs:=by simp only[go_sem,↓reduceIte,hpush]<;>rfl)
 have hge:i=l.length:=by have:=of_decide_eq_false hc;omega
 subst hge;rw[z23];have hbs:BN (2^27) (stk l):=Vx (by decide) _ (z07 _) hx
 have hsl:(stk l).length≤l.length:=Ot _ (z07 _);have hs0:0<(stk l).length:=z11.2 (af1 hl0);have hco:=ajv hl0;generalize stk l=S at*;refine aa ?_;refine aq (fun j:Nat=>⟨42,[(4,.fn 87 [.ptr 3 0]),(3,.ptr 3 0)],[(3,.cells 28 [.own 22 (az (joinN j S))])]⟩) (fun j=>j<S.length) (fun j=>S.length-j) [4,3] [3] 0 hs0 ?_
 rintro j hj K2 hK2;have hlen:=Ey j S hj;have dj:decide (((S.length-j:Nat):Int)>1)=decide (1<S.length-j):=by rw[z02];simp only[decide_eq_true_eq,gt_iff_lt];omega
 have dj1:decide ((1:Int)<((S.length-j:Nat):Int))=decide (1<S.length-j):=by rw[z02];simp only[decide_eq_true_eq,gt_iff_lt];omega
 have hbl:(az (joinN j S)).length=S.length-j:=by rw[bf,hlen]
 by_cases h1:1<S.length-j
 ·rw[decide_eq_true h1]at dj dj1;have dj':decide (1<S.length-j)=true:=decide_eq_true h1;have hbj:BN (2^27) (joinN j S):=Jh (by decide) j hbs
  obtain⟨A,a,b,hA⟩:=Ok (t:=joinN j S) (by omega)
  have hnx:joinN (j+1) S=A++[kf a b]:=by rw[sx,hA,wu]
  have hAl:(A++[a,b]).length=A.length+2:=by simp
  rw[hA]at hbj hlen hbl⊢;have ha:=hbj a (by simp)
  have hb:=hbj b (by simp)
  refine aa ?_ (by simp only[go_sem,↓reduceIte,hbl,dj,dj1,dj']<;>rfl)
  refine am rfl ?_;refine aa ?_;refine av (fun _=>3) (Sa A a b (by omega) (by omega) (by omega)) (.ptr rfl .nil) ?_
  rw[←hnx];refine aa ?_;exact ah hK2 (j+1) (by omega) (by omega)
 have dj':decide (1<S.length-j)=false:=decide_eq_false h1;rw[dj']at dj dj1;have h2:=Bm (S.length-1) (t:=S) (by omega)
 have hj1:j=S.length-1:=by omega
 rw[hj1,h2,hco];rw[hj1,h2,hco]at hbl;rw[←hj1]at hbl;have g0:(az [mroot l])[0]?=some (.sl 1 (bytes (mroot l))):=rfl;generalize az [mroot l]=LL at*;have l01:(0<S.length-j)=True:=eq_true (by omega)
 refine aa ?_ (by simp only[go_sem,↓reduceIte,hbl,dj,dj1,dj']<;>rfl)
 refine ae rfl ?_;refine aa ?_ (by simp only[go_sem,↓reduceIte,hbl,g0,l01]<;>rfl)
 refine ac (.pv _ .nil) rfl
theorem abe:gq Tryz.prog 87=some (1,false):=by kernel_rfl
theorem aa3:io Tryz.prog 87=some [.pv .nilf]:=by kernel_rfl
attribute [go_sem] abe aa3
def akz(l:List (List Nat))(i j:Nat)(X:List (List Nat)):List (Nat×HO):=[(1001,.cells 3 [.pv (.int .i64 (i:Int))]),(1002,.cells 3 [.pv (.int .i64 (j:Int))]),(1003,.cells 28 [.own 22 (az X)]),(1004,.cells 28 [.pv (.sl 1 (az l))]),(1005,.cells 87 [.fn 47 [.ptr 1001 0,.ptr 1002 0,.ptr 1003 0,.ptr 1004 0,.ptr 1005 0]])]
def aq2(l:List (List Nat))(i j:Nat):List (Nat×HO):=[(1001,.cells 3 [.pv (.int .i64 (i:Int))]),(1002,.cells 3 [.pv (.int .i64 (j:Int))]),(1003,.cells 28 [.own 22 []]),(1004,.cells 28 [.pv (.sl 1 (az l))]),(1005,.cells 87 [.fn 47 [.ptr 1001 0,.ptr 1002 0,.ptr 1003 0,.ptr 1004 0,.ptr 1005 0]])]
attribute [go_sem] akz aq2
theorem acg(l:List (List Nat))(i j:Nat)(hll:l.length≤2^38)(hx:BN (2^27) l)(hij:i≤j)(hj:j<2^40)(n:Nat):∀(lo hi:Nat) (X:List (List Nat)),hi-lo=n→lo<hi→hi≤l.length→X.length≤2^39+lo→
  Fn Tryz.prog 47 (akz l i j X) [.pv (Qt lo hi),.ptr 1001 0,.ptr 1002 0,.ptr 1003 0,.ptr 1004 0,.ptr 1005 0] (fun rs H'=>rs=[]∧H'=akz l i j (X++gt l i j lo hi)):=by
 induction n using Nat.strongRecOn with
 |_ n ih=>
  intro lo hi X hn hlo hhi hX;refine Fn.ob Tryz.f47 40 [] fun C=> ?_
  have hr:aw=140737488355328:=rfl;have m1:(1≤maxLen)=True:=eq_true (by unfold maxLen;decide)
  have hW:=Lr lo hi i j (by omega) (by omega)
  have hA:=S9 lo hi i j (by omega) (by omega)
  by_cases h1:i≤lo∧hi≤j+1
  ·have e1:gt l i j lo hi=[]:=by unfold gt;rw[if_pos h1]
   rw[e1,z27];rw[decide_eq_true h1]at hW;unfold Qt at hW⊢;refine aa ?_;refine ap hW (.pv _ (.pv _ (.pv _ .nil))) ?_;refine aa ?_;refine am rfl ?_;refine aa ?_;refine ac .nil rfl
  rw[decide_eq_false h1]at hW;by_cases h2:j<lo∨hi≤i
  ·have e1:gt l i j lo hi=[mroot ((l.drop lo).take (hi-lo))]:=by unfold gt;rw[if_neg h1,if_pos h2]
   rw[e1];rw[decide_eq_true h2]at hA;have k1:(lo≤hi)=True:=eq_true (by omega)
   have k2:(hi≤l.length)=True:=eq_true hhi;have hdr:=pt l lo;have hsub:((hi:Int)-(lo:Int)).toNat=hi-lo:=by omega
   have htk:=ng (l.drop lo) (hi-lo);have hroot:=Rl ((l.drop lo).take (hi-lo)) (by rw[z15];omega) ((hx.drop lo).take (hi-lo))
   have hxl:=bf X;have r1:((X.length+1)*24≤aw)=True:=eq_true (by omega)
   have r2:(X.length+1≤aw)=True:=eq_true (by omega)
   have hap:∀y:List Nat,az X++[.sl 1 (bytes y)]=az (X++[y]):=fun y=>by rw[Bx,ia]
   unfold Qt at hW hA⊢;refine aa ?_;refine ap hW (.pv _ (.pv _ (.pv _ .nil))) ?_;refine aa ?_;refine ae rfl ?_;refine aa ?_;refine ap hA (.pv _ (.pv _ (.pv _ .nil))) ?_;refine aa ?_;refine am rfl ?_;refine aa ?_;refine cr ?_;refine bu [[],[],[],[32],[],[34],[31,33,35]] ?_ (by simp only[go_sem,↓reduceIte,bf,k1,k2,hdr,hsub,htk]<;>rfl)
   refine CK.call (ps:=[_]) [36] (hroot) ?_;refine CK.list [37] ?_;refine CK.done (M:=9) 2 mixed ?_;refine bp (fuel:=0) (listed':=z08 11 true) [9,10] ?_ (by decide+kernel)
   refine ak ?_ (by simp only[go_sem,↓reduceIte,m1,hxl,z04,z09,z14,r1,r2,hap]<;>rfl)
   refine a8 (by decide+kernel) ?_
   refine aa ?_;refine ac .nil rfl
  rw[decide_eq_false h2]at hA;have hh:=iv (n:=hi-lo) (by omega)
  have hp:=fq (hi-lo);have h3:¬hi≤lo+1:=by omega
  have e1:gt l i j lo hi=gt l i j lo (lo+co (hi-lo))++gt l i j (lo+co (hi-lo)) hi:=by
   conv=>lhs;unfold gt
   rw[if_neg h1,if_neg h2,dif_neg h3]
  have lA:=m3 l i j _ lo (lo+co (hi-lo)) (z07 _) (by omega)
  have hfA:=ih (co (hi-lo)) (by omega) lo (lo+co (hi-lo)) X (by omega) (by omega) (by omega) hX
  have hfB:=ih (hi-(lo+co (hi-lo))) (by omega) (lo+co (hi-lo)) hi (X++gt l i j lo (lo+co (hi-lo))) rfl (by omega) hhi (by rw[z05];omega)
  have hsp:=L6 lo hi (by omega) (by omega)
  rw[e1,←List.append_assoc];generalize co (hi-lo)=k at*;generalize gt l i j lo (lo+k)=Y at*;generalize gt l i j (lo+k) hi=Z at*;unfold Qt at hW hA hsp hfA hfB⊢;refine aa ?_;refine ap hW (.pv _ (.pv _ (.pv _ .nil))) ?_;refine aa ?_;refine ae rfl ?_;refine aa ?_;refine ap hA (.pv _ (.pv _ (.pv _ .nil))) ?_;refine aa ?_;refine ae rfl ?_;refine aa ?_;refine ap hsp (.pv _ .nil) ?_;refine aa ?_;refine av (fun o=>o) hfA (.pv _ (.ptr rfl (.ptr rfl (.ptr rfl (.ptr rfl (.ptr rfl .nil)))))) ?_
  refine aa ?_;refine av (fun o=>o) hfB (.pv _ (.ptr rfl (.ptr rfl (.ptr rfl (.ptr rfl (.ptr rfl .nil)))))) ?_
  refine aa ?_;refine ac .nil rfl
theorem ach(l:List (List Nat))(i j:Int)(hll:l.length≤2^38)(hx:BN (2^27) l):Fn Tryz.prog 17 [] [.pv (.sl 1 (az l)),.pv (.int .i64 i),.pv (.int .i64 j)] (fun rs H'=>rs=[.own 22 (az (cu l i j).1),.pv (.int .i64 (cu l i j).2)]∧H'=[]):=by
 refine Fn.ob Tryz.f17 30 [.tmp 6,.tmp 7] fun C=> ?_
 unfold cu;by_cases hbad:i<0∨j<i∨(l.length:Int)≤j
 ·rw[if_pos hbad];refine Aj (T:= ?T1) (fun hT=> ?_) ?_;rotate_left
  ·by_cases h1:i<0
   ·have d1:decide (i<0)=true:=decide_eq_true h1;refine ak ?_ (by simp only[go_sem,↓reduceIte,d1]<;>rfl)
    refine bq [22] [] (s':=⟨30,[(22,.pv (.bool true))],[]⟩) ?_;exact hT ()
   ·have d1:decide (i<0)=false:=decide_eq_false h1;by_cases h2:j<i
    ·have d2:decide (j<i)=true:=decide_eq_true h2;refine ak ?_ (by simp only[go_sem,↓reduceIte,d1,d2]<;>rfl)
     refine bq [22] [] (s':=⟨30,[(22,.pv (.bool true))],[]⟩) ?_;exact hT ()
    ·have d2:decide (j<i)=false:=decide_eq_false h2;have d3:decide (j≥(l.length:Int))=true:=decide_eq_true (by omega)
     have d3':decide ((l.length:Int)≤j)=true:=decide_eq_true (by omega)
     refine ak ?_ (by simp only[go_sem,↓reduceIte,bf,d1,d2,d3,d3']<;>rfl)
     refine bq [22] [] (s':=⟨30,[(22,.pv (.bool true))],[]⟩) ?_;exact hT ()
  refine am rfl ?_;refine aa ?_;refine ac (.move rfl (.pv _ .nil)) rfl
 rw[if_neg hbad];obtain⟨a,rfl⟩:∃a:Nat,i=(a:Int):=⟨i.toNat,by omega⟩
 obtain⟨b,rfl⟩:∃b:Nat,j=(b:Int):=⟨j.toNat,by omega⟩
 have d1:decide ((a:Int)<0)=false:=decide_eq_false (by omega)
 have d2:decide ((b:Int)<(a:Int))=false:=decide_eq_false (by omega)
 have d2':decide (b<a)=false:=decide_eq_false (by omega)
 have d3:decide ((b:Int)≥(l.length:Int))=false:=decide_eq_false (by omega)
 have d3':decide (l.length≤b)=false:=decide_eq_false (by omega)
 have hw:=acg l a b hll hx (by omega) (by omega) l.length 0 l.length [] (by omega) (by omega) (z07 _) (by simp)
 rw[z24,z24];rw[z25]at hw;have hb0:akz l a b []=aq2 l a b:=rfl;rw[hb0]at hw;unfold Qt at hw;refine ak ?_ (by simp only[go_sem,↓reduceIte,bf,d1,d2,d2',d3,d3']<;>rfl)
 refine ae rfl ?_;refine aa ?_ (by simp only[go_sem,↓reduceIte,bf]<;>rfl)
 refine ar (.cell 8 0) 22 ?_;refine av (fun o=>if o=1001 then 4 else if o=1002 then 5 else if o=1003 then 8 else if o=1004 then 3 else 9) hw (.pv _ (.ptr rfl (.ptr rfl (.ptr rfl (.ptr rfl (.ptr rfl .nil)))))) ?_
 refine aa ?_;refine ac (.move rfl (.pv _ .nil)) rfl
end Go.Ck
