/- What is proved here: parts of the proofs of this seat's statements (a verified evaluator for calls over pure values, its laws, and contracts of functions). No condition. -/
import Derived.Test.YtmkoabmapmehdaaGreatDoorKu
set_option linter.all false
open List renaming length_cons→z00,length_nil→z01,nil_append→z03,getElem?_map→z07,not_mem_nil→z08,mem_cons→z12,length_take→z13,take_of_length_le→z14,mem_of_mem_take→z16,map_congr_left→z18,length_drop→z19,length_singleton→z24,mem_of_mem_drop→z25,length_append→z26,ext_getElem→z27,mem_append→z28,mem_range→z30
open Nat renaming zero_add→z02,reduceMul→z04,reduceAdd→z05,mod_eq_of_lt→z06,mod_lt→z09,lt_of_lt_of_le→z10,zero_le→z11,div_div_eq_div_mul→z15,pow_le_pow_right→z17,div_eq_of_lt→z20,lt_trans→z22,le_trans→z23,mul_assoc→z33,mul_comm→z34,add_zero→z35,pow_add→z36
open Int renaming tmod_eq_emod_of_nonneg→z21,tmod→z37
open Bool renaming eq_iff_iff→z29
set_option maxRecDepth 100000
set_option maxHeartbeats 400000
namespace Go.Ck
open Go.Proofs
theorem ahk(u v:Nat)(hvu:v≤u)(hu:dn u≤2000):Fn Tryz.prog 174 [] [.pv (.sl 1 (ct (nf u))),.pv (.sl 1 (ct (nf v)))] (fun rs H'=>rs=[.pv (.sl 1 (ct (nf (u-v))))]∧H'=[]):=by
 refine Fn.ob Tryz.f174 41 [.tmp 4] fun C=> ?_
 have hr:aw=140737488355328:=rfl;have m1:(1≤maxLen)=True:=eq_true (by unfold maxLen;decide)
 have hgu:∀k,k<dn u→(ct (nf u))[k]?=some (.int .i64 ((u/256^k % 256:Nat):Int)):=fun k hk=>by
  unfold ct;rw[z07,If hk];rfl
 have hgv:∀k,k<dn v→(ct (nf v))[k]?=some (.int .i64 ((v/256^k % 256:Nat):Int)):=fun k hk=>by
  unfold ct;rw[z07,If hk];rfl
 refine aa ?_;refine aq (fun s:Nat×Nat×Nat=>⟨41,[(7,.pv (.int .i64 s.1)),(0,.pv (.sl 1 (ct (nf u)))),(1,.pv (.sl 1 (ct (nf v)))),(5,.own 3 (ct (fk s.2.1 s.1))),(6,.pv (.int .i64 s.2.2))],[]⟩) (fun s=>s.1≤dn u∧s.2.1<256^s.1∧s.2.1+v % 256^s.1=u % 256^s.1+s.2.2*256^s.1∧s.2.2≤1) (fun s=>dn u-s.1) [7,0,1,5,6] [] (0,0,0) ⟨z11 _,Nat.one_pos,by simp[Nat.mod_one],z11 1⟩ ?_
 rintro⟨i,O,bo⟩ ⟨hi,hO,hinv,hbo⟩ K hK;simp only at hi hO hinv hbo;refine aa ?_ (by simp only[go_sem,↓reduceIte,bh,db]<;>rfl)
 refine AW.cond rfl (fun hc=> ?_) (fun hc=> ?_)
 ·have hlt:i<dn u:=by have:=of_decide_eq_true hc;omega
  have ei:IntKind.i64.wrap ((i:Int)+1)=((i+1:Nat):Int):=ai (by omega)
  have g1:=hgu i hlt;have g2:=hgv i;have hu8:u/256^i % 256<256:=z09 _ (by decide)
  have hv8:v/256^i % 256<256:=z09 _ (by decide)
  have hv0:¬i<dn v→v/256^i % 256=0:=fun h=>by
   rw[z20];exact z10 (td v) (z17 (by decide) (by omega))
  have hsd:∀bo' d,d+v/256^i % 256+bo=u/256^i % 256+bo'*256→d<256→_:=fun bo' d h1 h2=>abn (u:=u) (v:=v) (k:=i) (O:=O) (bo:=bo) (bo':=bo') (d:=d) hO hinv h1 h2
  generalize hx:u/256^i % 256=x at*;generalize hy:v/256^i % 256=y at*;have w1:IntKind.i64.wrap ((x:Int)-(bo:Int))=(x:Int)-(bo:Int):=an (by omega) (by omega)
  have w2:IntKind.i64.wrap ((x:Int)-(bo:Int)-(y:Int))=(x:Int)-(bo:Int)-(y:Int):=an (by omega) (by omega)
  have w3:IntKind.i64.wrap ((x:Int)-(bo:Int)-(y:Int)+256)=(x:Int)-(bo:Int)-(y:Int)+256:=an (by omega) (by omega)
  have hll:=ff i O;have r1:((i+1)*8≤aw)=True:=eq_true (by omega)
  have r2:(i+1≤aw)=True:=eq_true (by omega)
  refine aa ?_ (by simp only[go_sem,↓reduceIte,g1,w1,bh,db]<;>rfl)
  refine Aj (T:= ?Ta) (fun hT=> ?_) ?_;rotate_left
  ·refine AW.cond rfl (fun hc2=> ?_) (fun hc2=> ?_)
   ·have h1:i<dn v:=by have:=of_decide_eq_true hc2;omega
    have g3:=g2 h1;refine aa ?_ (by simp only[go_sem,↓reduceIte,g3,w2]<;>rfl)
    refine bq [7,0,1,5,6,8,32] [] (s':=⟨41,[(7,.pv (.int .i64 i)),(0,.pv (.sl 1 (ct (nf u)))),(1,.pv (.sl 1 (ct (nf v)))),(5,.own 3 (ct (fk O i))),(6,.pv (.int .i64 0)),(8,.pv (.int .i64 ((x:Int)-(bo:Int)-(y:Int)))),(32,.pv (.bool (decide ((x:Int)-(bo:Int)-(y:Int)<0))))],[]⟩) ?_;exact hT ()
   ·have h1:¬i<dn v:=by have:=of_decide_eq_false hc2;omega
    have hy0:=hv0 h1;have hxy:(x:Int)-(bo:Int)=(x:Int)-(bo:Int)-(y:Int):=by omega
    refine aa ?_;refine AW.keepB [7,0,1,5,6,8,32] [] (s':=⟨41,[(7,.pv (.int .i64 i)),(0,.pv (.sl 1 (ct (nf u)))),(1,.pv (.sl 1 (ct (nf v)))),(5,.own 3 (ct (fk O i))),(6,.pv (.int .i64 0)),(8,.pv (.int .i64 ((x:Int)-(bo:Int)-(y:Int)))),(32,.pv (.bool (decide ((x:Int)-(bo:Int)-(y:Int)<0))))],[]⟩) (by simp only[go_sem,↓reduceIte]) (by rw[←hxy];simp only[go_sem,↓reduceIte]<;>rfl) ?_
    exact hT ()
  refine AW.cond rfl (fun hc2=> ?_) (fun hc2=> ?_)
  ·have hneg:(x:Int)-(bo:Int)-(y:Int)<0:=of_decide_eq_true hc2;obtain⟨d,hd⟩:∃d:Nat,(x:Int)-(bo:Int)-(y:Int)+256=(d:Int):=⟨((x:Int)-(bo:Int)-(y:Int)+256).toNat,by omega⟩
   obtain⟨hs1,hs2,hs3⟩:=hsd 1 d (by omega) (by omega)
   have hs:ct (fk O i)++[.int .i64 (d:Int)]=ct (fk (O+256^i*d) (i+1)):=by rw[th,jy,hs1]
   rw[hd]at w3;refine aa ?_ (by simp only[go_sem,↓reduceIte,hd,w3,m1,hs,bh,hll,z00,z01,z02,r1,r2,ei]<;>rfl)
   exact ah hK (i+1,O+256^i*d,1) ⟨hlt,hs2,hs3,Nat.le_refl 1⟩ (by simp only;omega)
  ·have hneg:¬(x:Int)-(bo:Int)-(y:Int)<0:=of_decide_eq_false hc2;obtain⟨d,hd⟩:∃d:Nat,(x:Int)-(bo:Int)-(y:Int)=(d:Int):=⟨((x:Int)-(bo:Int)-(y:Int)).toNat,by omega⟩
   obtain⟨hs1,hs2,hs3⟩:=hsd 0 d (by omega) (by omega)
   have hs:ct (fk O i)++[.int .i64 (d:Int)]=ct (fk (O+256^i*d) (i+1)):=by rw[th,jy,hs1]
   rw[hd];refine aa ?_ (by simp only[go_sem,↓reduceIte,m1,hs,bh,hll,z00,z01,z02,r1,r2,ei]<;>rfl)
   exact ah hK (i+1,O+256^i*d,0) ⟨hlt,hs2,hs3,z11 1⟩ (by simp only;omega)
 have hge:i=dn u:=by have:=of_decide_eq_false hc;omega
 subst hge;rw[z06 (td u),z06 (Nat.lt_of_le_of_lt hvu (td u))]at hinv;have hul:=td u;have hbo0:bo=0:=by
  rcases(by omega:bo=0∨bo=1)with h|h
  ·exact h
  ·subst h;omega
 subst hbo0;have hOv:O=u-v:=by omega
 subst hOv;have htv:gw (fk (u-v) (dn u))=u-v:=by rw[mi,z06 hO]
 have htf:=Em (fk (u-v) (dn u)) (i6 _ _) (by rw[ff];omega)
 rw[htv]at htf;refine bj (.slot 5) ?_;refine aa ?_;refine ap htf (.pv _ .nil) ?_;refine aa ?_;refine ac (.pv _ .nil) rfl
theorem apt{V:Nat}(h:2^130≤V):gw ((nf V).take 16++[V/256^16 % 256 % 4])=V % 2^130:=by
 have h16:16<dn V:=Yz (z23 (by decide) h)
 unfold nf;rw[R7 _ _ _ (by omega),oo,mi,ff]
 simp only[gw,Nat.mul_zero,z35];have e1:(2:Nat)^130=256^16*4:=by decide
 rw[e1,Nat.mod_mul,Nat.mod_mod_of_dvd _ (by decide:4∣256)]
theorem ado{V k:Nat}(hk:16≤k):V/2^130/256^ (k-16) % 256=V/256^k % 256/4+V/256^ (k+1) % 256 % 4*64:=by
 have e1:(2:Nat)^130*256^ (k-16)=256^k*4:=by
  rw[show(2:Nat)^130=256^16*4 by decide,z33,z34 4,←z33,←z36,show 16+(k-16)=k by omega]
 rw[z15,e1,←z15,Xd,Nat.pow_succ,←z15]
theorem aG8(i:Nat):Int.tdiv (i:Int) 4=((i/4:Nat):Int):=by rw[Int.tdiv_eq_ediv_of_nonneg (by omega)];rfl
theorem afk(i:Nat):z37 (i:Int) 4=((i % 4:Nat):Int):=by rw[z21 (by omega)];rfl
theorem ab6(l:List Nat)(hb:∀x∈l,x<256)(hl:l.length≤200):Fn Tryz.prog 143 [] [.pv (.sl 1 (ct l))] (fun rs H'=>rs=[.pv (.sl 1 (ct (nf (gw l % jj))))]∧H'=[]):=by
 refine Fn.ob Tryz.f143 76 [.tmp 2] fun C=> ?_
 have hr:aw=140737488355328:=rfl;have m1:(1≤maxLen)=True:=eq_true (by unfold maxLen;decide)
 have h4:((4:Int)=0)=False:=by simp
 refine aa ?_;refine ap (Em l hb (by omega)) (.pv _ .nil) ?_
 refine aa ?_;refine aq (fun V:Nat=>⟨76,[(0,.pv (.sl 1 (ct (nf V))))],[]⟩) (fun V=>V % jj=gw l % jj∧dn V≤200) (fun V=>V) [0] [] (gw l) ⟨rfl,z23 (Hz (A8 l hb)) hl⟩ ?_
 rintro V ⟨hV,hdV⟩ K hK;have hbig:=aqj V;have hgV:∀k,k<dn V→(ct (nf V))[k]?=some (.int .i64 ((V/256^k % 256:Nat):Int)):=fun k hk=>by
  unfold ct;rw[z07,If hk];rfl
 have x8:V/256^16 % 256<256:=z09 _ (by decide)
 by_cases hgo:2^130≤V
 ·have h16:16<dn V:=Yz (z23 (by decide) hgo)
  have hor:=hbig.2 hgo;have hlowv:=apt hgo;have g16:=hgV 16 h16;generalize hx16:V/256^16 % 256=x16 at*;refine Aj (T:= ?Tg) (fun hT=> ?_) ?_;rotate_left
  ·by_cases h17:17<dn V
   ·have d1:decide ((dn V:Int)>17)=true:=decide_eq_true (by omega)
    have d1':decide (17<dn V)=true:=decide_eq_true h17;refine ak ?_ (by simp only[go_sem,↓reduceIte,bh,db,d1,d1']<;>rfl)
    refine bq [0,22] [] (s':=⟨76,[(0,.pv (.sl 1 (ct (nf V)))),(22,.pv (.bool true))],[]⟩) ?_;exact hT ()
   ·have h2:dn V=17:=by omega
    have hx4:4≤x16:=by rcases hor with h|⟨_,h⟩;omega;exact h
    have d1:decide ((dn V:Int)>17)=false:=decide_eq_false (by omega)
    have d1':decide (17<dn V)=false:=decide_eq_false h17;have d2:((dn V:Int)==17)=true:=by rw[beq_iff_eq];omega
    have d3:decide ((x16:Int)≥4)=true:=decide_eq_true (by omega)
    have d3':decide (4≤x16)=true:=decide_eq_true hx4;refine ak ?_ (by simp only[go_sem,↓reduceIte,bh,db,d1,d1',d2,g16,d3,d3']<;>rfl)
    refine bq [0,22] [] (s':=⟨76,[(0,.pv (.sl 1 (ct (nf V)))),(22,.pv (.bool true))],[]⟩) ?_;exact hT ()
  refine am rfl ?_;have e16:=afk x16;have w16:IntKind.i64.wrap ((x16 % 4:Nat):Int)=((x16 % 4:Nat):Int):=au (by omega)
  have hl16:(16≤dn V)=True:=eq_true (by omega)
  have hl16i:((16:Int)≤(dn V:Int))=True:=eq_true (by omega)
  have hlk:((nf V).take 16).length=16:=by rw[z13,db];omega
  have htk:=I2 (nf V) 16;have hlow:ct ((nf V).take 16)++[.int .i64 ((x16 % 4:Nat):Int)]=ct ((nf V).take 16++[x16 % 4]):=by rw[th,jy]
  have r16:(128≤aw)=True:=eq_true (by omega)
  have r17:(136≤aw)=True:=eq_true (by omega)
  have r8:(16≤aw)=True:=eq_true (by omega)
  refine aa ?_;refine tl mixed ?_;refine Aj (T:= ?Tz) (fun hT=> ?_) ?_;rotate_left
  ·skip
   refine AW.takes (fuel:=7) [1,4,2,5] ?_ (by simp only[go_sem,↓reduceIte,h4,m1,db,hl16,hl16i,htk,g16,e16,w16,hlow,hlk,r16,r17,r8,bh,z00,z01,z02,z03,z05,z04]<;>rfl) dt (listed':= #[false,true,true,false,true,true,false,false,false,false,false]) (by decide+kernel) (by decide+kernel)
   refine ce (fuel:=6) (rs:=[0,6]) ?_ (by decide+kernel) (by simp)
   intro j hj;simp only[z12,z08,or_false]at hj;rcases hj with rfl|rfl
   ·skip
    refine ak ?_ (by simp only[go_sem,↓reduceIte,h4,m1,db,hl16,hl16i,htk,g16,e16,w16,hlow,hlk,r16,r17,r8,bh,z00,z01,z02,z03,z05,z04]<;>rfl)
    refine ce (fuel:=5) (rs:=[3,6]) ?_ (by decide+kernel) (by simp)
    intro j hj;simp only[z12,z08,or_false]at hj;rcases hj with rfl|rfl
    ·skip
     refine ak ?_ (by simp only[go_sem,↓reduceIte,h4,m1,db,hl16,hl16i,htk,g16,e16,w16,hlow,hlk,r16,r17,r8,bh,z00,z01,z02,z03,z05,z04]<;>rfl)
     refine bp (fuel:=0) (listed':= #[true,true,true,true,true,true,true,true,true,true,true]) [6,7,8,9,10] ?_ (by decide+kernel)
     refine ak ?_ (by simp only[go_sem,↓reduceIte,h4,m1,db,hl16,hl16i,htk,g16,e16,w16,hlow,hlk,r16,r17,r8,bh,z00,z01,z02,z03,z05,z04]<;>rfl)
     refine a8 (by decide+kernel) ?_
     refine bq [0,3] [] (s':=⟨76,[(0,.pv (.sl 1 (ct (nf V)))),(3,.own 3 (ct ((nf V).take 16++[x16 % 4])))],[]⟩) ?_;exact hT ()
    ·skip
     refine ak ?_ (by simp only[go_sem,↓reduceIte,h4,m1,db,hl16,hl16i,htk,g16,e16,w16,hlow,hlk,r16,r17,r8,bh,z00,z01,z02,z03,z05,z04]<;>rfl)
     refine AW.takes (fuel:=4) [7] ?_ (by simp only[go_sem,↓reduceIte,h4,m1,db,hl16,hl16i,htk,g16,e16,w16,hlow,hlk,r16,r17,r8,bh,z00,z01,z02,z03,z05,z04]<;>rfl) dt (listed':= #[true,true,true,false,true,true,true,true,false,false,false]) (by decide+kernel) (by decide+kernel)
     refine ce (fuel:=3) (rs:=[3,8]) ?_ (by decide+kernel) (by simp)
     intro j hj;simp only[z12,z08,or_false]at hj;rcases hj with rfl|rfl
     ·skip
      refine ak ?_ (by simp only[go_sem,↓reduceIte,h4,m1,db,hl16,hl16i,htk,g16,e16,w16,hlow,hlk,r16,r17,r8,bh,z00,z01,z02,z03,z05,z04]<;>rfl)
      refine bp (fuel:=0) (listed':= #[true,true,true,true,true,true,true,true,true,true,true]) [8,9,10] ?_ (by decide+kernel)
      refine ak ?_ (by simp only[go_sem,↓reduceIte,h4,m1,db,hl16,hl16i,htk,g16,e16,w16,hlow,hlk,r16,r17,r8,bh,z00,z01,z02,z03,z05,z04]<;>rfl)
      refine a8 (by decide+kernel) ?_
      refine bq [0,3] [] (s':=⟨76,[(0,.pv (.sl 1 (ct (nf V)))),(3,.own 3 (ct ((nf V).take 16++[x16 % 4])))],[]⟩) ?_;exact hT ()
     ·skip
      refine ak ?_ (by simp only[go_sem,↓reduceIte,h4,m1,db,hl16,hl16i,htk,g16,e16,w16,hlow,hlk,r16,r17,r8,bh,z00,z01,z02,z03,z05,z04]<;>rfl)
      refine bp (fuel:=0) (listed':= #[true,true,true,true,true,true,true,true,true,true,true]) [3,9,10] ?_ (by decide+kernel)
      refine ak ?_ (by simp only[go_sem,↓reduceIte,h4,m1,db,hl16,hl16i,htk,g16,e16,w16,hlow,hlk,r16,r17,r8,bh,z00,z01,z02,z03,z05,z04]<;>rfl)
      refine a8 (by decide+kernel) ?_
      refine bq [0,3] [] (s':=⟨76,[(0,.pv (.sl 1 (ct (nf V)))),(3,.own 3 (ct ((nf V).take 16++[x16 % 4])))],[]⟩) ?_;exact hT ()
   ·skip
    refine ak ?_ (by simp only[go_sem,↓reduceIte,h4,m1,db,hl16,hl16i,htk,g16,e16,w16,hlow,hlk,r16,r17,r8,bh,z00,z01,z02,z03,z05,z04]<;>rfl)
    refine AW.takes (fuel:=5) [7] ?_ (by simp only[go_sem,↓reduceIte,h4,m1,db,hl16,hl16i,htk,g16,e16,w16,hlow,hlk,r16,r17,r8,bh,z00,z01,z02,z03,z05,z04]<;>rfl) dt (listed':= #[false,true,true,false,true,true,true,true,false,false,false]) (by decide+kernel) (by decide+kernel)
    refine ce (fuel:=4) (rs:=[0,8]) ?_ (by decide+kernel) (by simp)
    intro j hj;simp only[z12,z08,or_false]at hj;rcases hj with rfl|rfl
    ·skip
     refine ak ?_ (by simp only[go_sem,↓reduceIte,h4,m1,db,hl16,hl16i,htk,g16,e16,w16,hlow,hlk,r16,r17,r8,bh,z00,z01,z02,z03,z05,z04]<;>rfl)
     refine ce (fuel:=3) (rs:=[3,8]) ?_ (by decide+kernel) (by simp)
     intro j hj;simp only[z12,z08,or_false]at hj;rcases hj with rfl|rfl
     ·skip
      refine ak ?_ (by simp only[go_sem,↓reduceIte,h4,m1,db,hl16,hl16i,htk,g16,e16,w16,hlow,hlk,r16,r17,r8,bh,z00,z01,z02,z03,z05,z04]<;>rfl)
      refine bp (fuel:=0) (listed':= #[true,true,true,true,true,true,true,true,true,true,true]) [8,9,10] ?_ (by decide+kernel)
      refine ak ?_ (by simp only[go_sem,↓reduceIte,h4,m1,db,hl16,hl16i,htk,g16,e16,w16,hlow,hlk,r16,r17,r8,bh,z00,z01,z02,z03,z05,z04]<;>rfl)
      refine a8 (by decide+kernel) ?_
      refine bq [0,3] [] (s':=⟨76,[(0,.pv (.sl 1 (ct (nf V)))),(3,.own 3 (ct ((nf V).take 16++[x16 % 4])))],[]⟩) ?_;exact hT ()
     ·skip
      refine ak ?_ (by simp only[go_sem,↓reduceIte,h4,m1,db,hl16,hl16i,htk,g16,e16,w16,hlow,hlk,r16,r17,r8,bh,z00,z01,z02,z03,z05,z04]<;>rfl)
      refine bp (fuel:=0) (listed':= #[true,true,true,true,true,true,true,true,true,true,true]) [3,9,10] ?_ (by decide+kernel)
      refine ak ?_ (by simp only[go_sem,↓reduceIte,h4,m1,db,hl16,hl16i,htk,g16,e16,w16,hlow,hlk,r16,r17,r8,bh,z00,z01,z02,z03,z05,z04]<;>rfl)
      refine a8 (by decide+kernel) ?_
      refine bq [0,3] [] (s':=⟨76,[(0,.pv (.sl 1 (ct (nf V)))),(3,.own 3 (ct ((nf V).take 16++[x16 % 4])))],[]⟩) ?_;exact hT ()
    ·skip
     refine ak ?_ (by simp only[go_sem,↓reduceIte,h4,m1,db,hl16,hl16i,htk,g16,e16,w16,hlow,hlk,r16,r17,r8,bh,z00,z01,z02,z03,z05,z04]<;>rfl)
     refine bp (fuel:=0) (listed':= #[true,true,true,true,true,true,true,true,true,true,true]) [0,3,9,10] ?_ (by decide+kernel)
     refine ak ?_ (by simp only[go_sem,↓reduceIte,h4,m1,db,hl16,hl16i,htk,g16,e16,w16,hlow,hlk,r16,r17,r8,bh,z00,z01,z02,z03,z05,z04]<;>rfl)
     refine a8 (by decide+kernel) ?_
     refine bq [0,3] [] (s':=⟨76,[(0,.pv (.sl 1 (ct (nf V)))),(3,.own 3 (ct ((nf V).take 16++[x16 % 4])))],[]⟩) ?_;exact hT ()
  refine bj (.slot 3) ?_;refine aa ?_;refine aq (fun k:Nat=>⟨76,[(5,.pv (.int .i64 ((k+16:Nat):Int))),(0,.pv (.sl 1 (ct (nf V)))),(3,.pv (.sl 1 (ct ((nf V).take 16++[x16 % 4])))),(4,.own 3 (ct (fk (V/2^130) k)))],[]⟩) (fun k=>k+16≤dn V) (fun k=>dn V-k) [5,0,3,4] [] 0 (by omega) ?_
  rintro k hk K2 hK2;refine aa ?_ (by simp only[go_sem,↓reduceIte,bh,db]<;>rfl)
  refine AW.cond rfl (fun hc=> ?_) (fun hc=> ?_)
  ·have hlt:k+16<dn V:=by have:=of_decide_eq_true hc;omega
   have ek:IntKind.i64.wrap (((k+16:Nat):Int)+1)=((k+1+16:Nat):Int):=by rw[show k+1+16=k+16+1 by omega];exact au (n:=k+16+1) (by omega)
   have gk:=hgV (k+16) hlt;have gk1:=hgV (k+1+16);have hst:=ado (V:=V) (k:=k+16) (by omega)
   rw[Nat.add_sub_cancel,show k+16+1=k+1+16 by omega]at hst
   have hz:¬k+1+16<dn V→V/256^ (k+1+16) % 256=0:=fun h=>by
    rw[z20];exact z10 (td V) (z17 (by decide) (by omega))
   have hlb:=ff k (V/2^130);have hsn:=Dc (V/2^130) k;rw[hst]at hsn;have hx8:V/256^ (k+16) % 256<256:=z09 _ (by decide)
   have hy8:V/256^ (k+1+16) % 256<256:=z09 _ (by decide)
   generalize V/256^ (k+16) % 256=x at*;generalize V/256^ (k+1+16) % 256=y at*;have e1:=aG8 x;have e2:=afk y;have w1:IntKind.i64.wrap ((x/4:Nat):Int)=((x/4:Nat):Int):=au (by omega)
   have w2:IntKind.i64.wrap ((y % 4:Nat):Int)=((y % 4:Nat):Int):=au (by omega)
   have w3:IntKind.i64.wrap (((y % 4:Nat):Int)*64)=((y % 4*64:Nat):Int):=au (n:=y % 4*64) (by omega)
   have w3':IntKind.i64.wrap ((y % 4*64:Nat):Int)=((y % 4*64:Nat):Int):=au (by omega)
   have w4:IntKind.i64.wrap (((x/4:Nat):Int)+((y % 4*64:Nat):Int))=((x/4+y % 4*64:Nat):Int):=au (n:=x/4+y % 4*64) (by omega)
   have hs:ct (fk (V/2^130) k)++[.int .i64 ((x/4+y % 4*64:Nat):Int)]=ct (fk (V/2^130) (k+1)):=by rw[th,jy,hsn]
   have r1:((k+1)*8≤aw)=True:=eq_true (by omega)
   have r2:(k+1≤aw)=True:=eq_true (by omega)
   have dk:decide (((k+1+16:Nat):Int)<(dn V:Int))=decide (k+1+16<dn V):=by rw[z29];simp;omega
   refine aa ?_ (by simp only[go_sem,↓reduceIte,h4,gk,e1,w1,ek,bh,db,dk]<;>rfl)
   refine AW.cond rfl (fun hc2=> ?_) (fun hc2=> ?_)
   ·have h1:=gk1 (of_decide_eq_true hc2);refine aa ?_ (by simp only[go_sem,↓reduceIte,h4,ek,h1,e2,w2,w3,w3',w4,m1,hs,bh,hlb,z00,z01,z02,r1,r2]<;>rfl)
    exact ah hK2 (k+1) (by omega) (by omega)
   ·have hy0:=hz (of_decide_eq_false hc2);rw[hy0,Nat.zero_mod,Nat.zero_mul,z35]at hs;refine aa ?_ (by simp only[go_sem,↓reduceIte,ek,m1,hs,bh,hlb,z00,z01,z02,r1,r2]<;>rfl)
    exact ah hK2 (k+1) (by omega) (by omega)
  have hkd:k+16=dn V:=by have:=of_decide_eq_false hc;omega
  have hHl:V/2^130<256^k:=by
   rw[Nat.div_lt_iff_lt_mul (by decide)]
   refine z10 (td V) ?_;rw[←hkd,z36];exact Nat.mul_le_mul_left _ (by decide)
  have hHv:gw (fk (V/2^130) k)=V/2^130:=by rw[mi,z06 hHl]
  have hmf:=Rx (fk (V/2^130) k) [5] (i6 _ _) (by decide) (by rw[ff];omega) (by decide)
  have hlowb:∀z∈(nf V).take 16++[x16 % 4],z<256:=fun z hz=>by
   rcases z28.1 hz with h|h
   ·exact Cq V z (z16 h)
   ·simp at h;omega
  have hlowl:((nf V).take 16++[x16 % 4]).length=17:=by rw[z26,hlk];rfl
  have hml:=Rw (fk (V/2^130) k) [5];have hmv:=Rv (a:=fk (V/2^130) k) (b:=[5]) (i6 _ _) (by decide)
  have hmb:=Mp (fk (V/2^130) k) [5];rw[hHv,show gw [5]=5 from rfl]at hmv
  rw[ff,z24]at hml;generalize N1 (fk (V/2^130) k) [5]=M at*;have haf:=Jg ((nf V).take 16++[x16 % 4]) M hlowb hmb (by omega) (by omega)
  have hav:=Jf hlowb hmb;have hab:=Ns ((nf V).take 16++[x16 % 4]) M;have hal:=Tb ((nf V).take 16++[x16 % 4]) M;rw[hlowv,hmv,z34]at hav;rw[hlowl]at hal;generalize Gp ((nf V).take 16++[x16 % 4]) M=Ad at*;have htf:=Em Ad hab (by omega)
  rw[hav]at htf;have hfl:=ap7 hgo;have hfm:=aje V;have hd2:dn (V % 2^130+5*(V/2^130))≤dn V:=Hz (z22 hfl (td V));generalize V % 2^130+5*(V/2^130)=V' at*;refine bj (.slot 4) ?_;refine aa ?_ (by simp only[go_sem,↓reduceIte,m1]<;>rfl)
  refine bj (.slot 64) ?_;refine av (args:=[.pv (.sl 1 (ct (fk (V/2^130) k))),.pv (.sl 1 (ct [5]))]) (fun _=>0) hmf (.pv _ (.pv _ .nil)) ?_
  refine aa ?_;refine ap haf (.pv _ (.pv _ .nil)) ?_;refine bj (.slot 66) ?_;refine aa ?_;refine ap htf (.pv _ .nil) ?_;refine aa ?_;exact ah hK V' ⟨by rw[hfm];exact hV,by omega⟩ hfl
 ·have hnb:¬(17<dn V∨dn V=17∧4≤V/256^16 % 256):=fun h=>hgo (hbig.1 h)
  have hg16:=hgV 16;refine Aj (T:= ?Th) (fun hT=> ?_) ?_;rotate_left
  ·have d1:decide ((dn V:Int)>17)=false:=decide_eq_false (by omega)
   have d1':decide (17<dn V)=false:=decide_eq_false (by omega)
   by_cases h17:dn V=17
   ·have d2:((dn V:Int)==17)=true:=by rw[beq_iff_eq];omega
    have g16:=hg16 (by omega)
    have hx4:¬4≤V/256^16 % 256:=fun h=>hnb (.inr ⟨h17,h⟩)
    obtain⟨x16,hx⟩:∃x16,V/256^16 % 256=x16:=⟨_,rfl⟩
    rw[hx]at g16 hx4;have d3:decide ((x16:Int)≥4)=false:=decide_eq_false (by omega)
    have d3':decide (4≤x16)=false:=decide_eq_false hx4;refine ak ?_ (by simp only[go_sem,↓reduceIte,bh,db,d1,d1',d2,g16,d3,d3']<;>rfl)
    refine bq [0,22] [] (s':=⟨76,[(0,.pv (.sl 1 (ct (nf V)))),(22,.pv (.bool false))],[]⟩) ?_;exact hT ()
   ·have d2:((dn V:Int)==17)=false:=by rw[beq_eq_false_iff_ne];omega
    refine ak ?_ (by simp only[go_sem,↓reduceIte,bh,db,d1,d1',d2]<;>rfl)
    refine bq [0,22] [] (s':=⟨76,[(0,.pv (.sl 1 (ct (nf V)))),(22,.pv (.bool false))],[]⟩) ?_;exact hT ()
  refine ae rfl ?_;have hdp:=aJo;have hlf:=adc V jj (by omega) (by omega)
  have hsf:=ahk V jj;have hp2:(2:Nat)^130≤2*jj:=by unfold jj;decide
  refine aa ?_;refine ap Jv .nil ?_;refine aa ?_;refine ap hlf (.pv _ (.pv _ .nil)) ?_;rw[←hV];by_cases hlt:V<jj
  ·rw[decide_eq_true hlt,z06 hlt];refine aa ?_;refine ae rfl ?_;refine aa ?_;refine ac (.pv _ .nil) rfl
  ·have hm:V % jj=V-jj:=by rw[Nat.mod_eq_sub_mod (by omega),z06 (by omega)]
   rw[decide_eq_false hlt,hm];refine aa ?_;refine am rfl ?_;refine aa ?_;refine ap Jv .nil ?_;refine aa ?_;refine ap (hsf (by omega) (by omega)) (.pv _ (.pv _ .nil)) ?_
   refine aa ?_;refine ac (.pv _ .nil) rfl
def px(f:Nat→Nat):List Nat:=(List.range 16).map f
theorem C5(f:Nat→Nat):(px f).length=16:=by simp[px]
theorem Rn(f:Nat→Nat){i:Nat}(h:i<16):(ct (px f))[i]?=some (.int .i64 ((f i:Nat):Int)):=by
 unfold ct px;rw[z07,z07,List.getElem?_range h];rfl
theorem Rm{f g:Nat→Nat}{i y:Nat}(hi:i<16)(h:∀k,k<16→g k=if k=i then y else f k):(px f).set i y=px g:=by
 refine z27 (by simp[px]) (fun k h1 h2=> ?_)
 have hk:k<16:=by simpa[px]using h2
 rw[List.getElem_set];have hg:∀h',(px g)[k]'h'=g k:=fun h'=>by simp[px]
 have hf:∀h',(px f)[k]'h'=f k:=fun h'=>by simp[px]
 rw[hg,h k hk];by_cases hik:i=k
 ·subst hik;rw[if_pos rfl,if_pos rfl]
 ·rw[if_neg hik,if_neg (fun e=>hik e.symm),hf]
theorem abl{key:List Nat}(h:16≤key.length):key.take 16=px (fun i=>key.getD i 0):=by
 refine z27 (by rw[C5,z13];omega) (fun k h1 h2=> ?_)
 have hk:k<16:=by simpa[px]using h2
 simp only[px,List.getElem_map,List.getElem_range,List.getElem_take];rw[List.getD_eq_getElem?_getD,List.getElem?_eq_getElem (by omega)];rfl
def clF(key:List Nat)(j i:Nat):Nat:=if i % 4=3∧i<4*j then key.getD i 0 % 16 else key.getD i 0
def clG(key:List Nat)(j i:Nat):Nat:=if i % 4=3 then key.getD i 0 % 16 else if i % 4=0∧i≠0∧i<4*(j+1)then key.getD i 0-key.getD i 0 % 4 else key.getD i 0
theorem aqe(key:List Nat):px (clG key 3)=vk key:=by
 unfold px vk;refine z18 (fun i hi=> ?_)
 have h16:i<16:=z30.1 hi;unfold clG;split
 ·rfl
 ·by_cases h0:i % 4=0∧i≠0
  ·rw[if_pos ⟨h0.1,h0.2,by omega⟩,if_pos h0]
  ·rw[if_neg (fun h=>h0 ⟨h.1,h.2.1⟩),if_neg h0]
theorem afw(i:Nat):z37 (i:Int) 16=((i % 16:Nat):Int):=by rw[z21 (by omega)];rfl
theorem Qg(key:List Nat)(hb:∀x∈key,x<256)(hl:key.length=32):Fn Tryz.prog 141 [] [.pv (.sl 1 (bytes key))] (fun rs H'=>rs=[.pv (.sl 1 (ct (vk key)))]∧H'=[]):=by
 refine Fn.ob Tryz.f141 39 [.tmp 2] fun C=> ?_
 have hr:aw=140737488355328:=rfl;have h16:((16:Int)=0)=False:=by simp
 have h4:((4:Int)=0)=False:=by simp
 have hs1:(16≤key.length)=True:=eq_true (by omega)
 have hs2:((16:Int)≤(key.length:Int))=True:=eq_true (by omega)
 have hnf:=y5 (key.take 16) (fun x hx=>hb x (z16 hx)) (by rw[z13];omega)
 have htk:=dz key 16;rw[abl (by omega)]at hnf htk
 refine aa ?_ (by simp only[go_sem,↓reduceIte,hs1,hs2,htk]<;>rfl)
 refine ap hnf (.pv _ .nil) ?_;have hF0:px (fun i=>key.getD i 0)=px (clF key 0):=by
  unfold px;refine z18 (fun i hi=> ?_);unfold clF;rw[if_neg (by omega)]
 rw[hF0];refine aa ?_;refine aq (fun j:Nat=>⟨39,[(4,.pv (.int .i64 ((3+4*j:Nat):Int))),(3,.own 3 (ct (px (clF key j))))],[]⟩) (fun j=>j≤4) (fun j=>4-j) [4,3] [] 0 (z11 _) ?_
 rintro j hj K hK;refine aa ?_;refine AW.cond rfl (fun hc=> ?_) (fun hc=> ?_)
 ·have hlt:j<4:=by have:=of_decide_eq_true hc;omega
  have ej:IntKind.i64.wrap (((3+4*j:Nat):Int)+4)=((3+4*(j+1):Nat):Int):=by rw[show 3+4*(j+1)=3+4*j+4 by omega];exact au (n:=3+4*j+4) (by omega)
  have hi:(3+4*j<16)=True:=eq_true (by omega)
  have g1:=Rn (clF key j) (i:=3+4*j) (by omega)
  have hv:clF key j (3+4*j)=key.getD (3+4*j) 0:=by unfold clF;rw[if_neg (by omega)]
  rw[hv]at g1;have hset:=Rm (f:=clF key j) (g:=clF key (j+1)) (i:=3+4*j) (y:=key.getD (3+4*j) 0 % 16) (by omega) (fun k hk=>by
   unfold clF;by_cases hki:k=3+4*j
   ·subst hki;rw[if_pos rfl,if_pos ⟨by omega,by omega⟩]
   ·rw[if_neg hki];by_cases h3:k % 4=3∧k<4*j
    ·rw[if_pos h3,if_pos ⟨h3.1,by omega⟩]
    ·rw[if_neg h3,if_neg (fun h=>h3 ⟨h.1,by omega⟩)])
  have b8:=fj hb (3+4*j);generalize key.getD (3+4*j) 0=x at*;have e1:=afw x;have w1:IntKind.i64.wrap ((x % 16:Nat):Int)=((x % 16:Nat):Int):=au (by omega)
  refine aa ?_ (by simp only[go_sem,↓reduceIte,h16,bh,C5,hi,g1,e1,w1,G3,hset,ej]<;>rfl)
  exact ah hK (j+1) (by omega) (by omega)
 have hge:j=4:=by have:=of_decide_eq_false hc;omega
 subst hge;have hG0:px (clF key 4)=px (clG key 0):=by
  unfold px;refine z18 (fun i hi=> ?_)
  have:=z30.1 hi;unfold clF clG;by_cases h3:i % 4=3
  ·rw[if_pos ⟨h3,by omega⟩,if_pos h3]
  ·rw[if_neg (fun h=>h3 h.1),if_neg h3,if_neg (by omega)]
 rw[hG0];refine aa ?_;refine aq (fun j:Nat=>⟨39,[(5,.pv (.int .i64 ((4+4*j:Nat):Int))),(3,.own 3 (ct (px (clG key j))))],[]⟩) (fun j=>j≤3) (fun j=>3-j) [5,3] [] 0 (z11 _) ?_
 rintro j hj K hK;refine aa ?_;refine AW.cond rfl (fun hc=> ?_) (fun hc=> ?_)
 ·have hlt:j<3:=by have:=of_decide_eq_true hc;omega
  have ej:IntKind.i64.wrap (((4+4*j:Nat):Int)+4)=((4+4*(j+1):Nat):Int):=by rw[show 4+4*(j+1)=4+4*j+4 by omega];exact au (n:=4+4*j+4) (by omega)
  have hi:(4+4*j<16)=True:=eq_true (by omega)
  have g1:=Rn (clG key j) (i:=4+4*j) (by omega)
  have hv:clG key j (4+4*j)=key.getD (4+4*j) 0:=by unfold clG;rw[if_neg (by omega),if_neg (by omega)]
  rw[hv]at g1;have hset:=Rm (f:=clG key j) (g:=clG key (j+1)) (i:=4+4*j) (y:=key.getD (4+4*j) 0-key.getD (4+4*j) 0 % 4) (by omega) (fun k hk=>by
   unfold clG;by_cases hki:k=4+4*j
   ·subst hki;rw[if_pos rfl,if_neg (by omega),if_pos ⟨by omega,by omega,by omega⟩]
   ·rw[if_neg hki];by_cases h3:k % 4=3
    ·rw[if_pos h3,if_pos h3]
    ·rw[if_neg h3,if_neg h3];by_cases h0:k % 4=0∧k≠0∧k<4*(j+1)
     ·rw[if_pos h0,if_pos ⟨h0.1,h0.2.1,by omega⟩]
     ·rw[if_neg h0,if_neg (fun h=>h0 ⟨h.1,h.2.1,by omega⟩)])
  have b8:=fj hb (4+4*j);generalize key.getD (4+4*j) 0=x at*;have e1:=afk x;have w1:IntKind.i64.wrap ((x % 4:Nat):Int)=((x % 4:Nat):Int):=au (by omega)
  have w2:IntKind.i64.wrap ((x:Int)-((x % 4:Nat):Int))=((x-x % 4:Nat):Int):=by rw[an (by omega) (by omega)];omega
  refine aa ?_;refine cr ?_;refine bu [[],[],[],[],[27,28],[29],[],[],[31,32],[33],[34],[30,35]] ?_ (by simp only[go_sem,↓reduceIte,h4,bh,C5,hi,g1,e1,w1,w2]<;>rfl)
  refine CK.done (M:=12) 2 mixed ?_;refine bp (fuel:=0) (listed':=Array.replicate 14 true) [12,13] ?_ (by decide+kernel)
  refine ak ?_ (by simp only[go_sem,↓reduceIte,bh,C5,hi,g1,G3,hset]<;>rfl)
  refine a8 (by decide+kernel) ?_
  refine aa ?_ (by simp only[go_sem,↓reduceIte,ej]<;>rfl)
  exact ah hK (j+1) (by omega) (by omega)
 have hge:j=3:=by have:=of_decide_eq_false hc;omega
 subst hge;rw[aqe];refine aa ?_;refine ac (.lend rfl Ca .nil) rfl
theorem aiu(key b:List Nat)(hk:key.length=32)(hkb:∀x∈key,x<256)(hb:∀x∈b,x<256)(hl:b.length≤2^36):Fn Tryz.prog 125 [] [.pv (.sl 1 (bytes key)),.pv (.sl 1 (bytes b))] (fun rs H'=>rs=[.own 5 (bytes (aay key b)),.pv (.int .i64 0)]∧H'=[]):=by
 refine Fn.ob Tryz.f125 66 [.tmp 4,.tmp 5] fun C=> ?_
 have hr:aw=140737488355328:=rfl;have m1:(1≤maxLen)=True:=eq_true (by unfold maxLen;decide)
 have d1:((key.length:Int) !=32)=false:=by rw[bne_eq_false_iff_eq];omega
 refine aa ?_ (by simp only[go_sem,↓reduceIte,d1]<;>rfl)
 refine ae rfl ?_;refine aa ?_;refine ap (Qg key hkb hk) (.pv _ .nil) ?_;have hcl:=Xw key;have hcb:=Uq hkb;have hrv:gw (vk key)=pR key:=rfl;have pz:aay key b=fk (py (pR key) b ((b.length+15)/16)+gw (key.drop 16)) 16:=rfl;generalize vk key=cl at*;generalize pR key=r at*;have pa0:ct (nf (py r b 0))=[]:=by rw[show py r b 0=0 from rfl,apr];rfl
 refine aa ?_;refine bj (.slot 7) ?_;refine aq (fun t:Nat=>⟨66,[(8,.pv (.int .i64 ((16*t:Nat):Int))),(0,.pv (.sl 1 (bytes key))),(1,.pv (.sl 1 (bytes b))),(6,.pv (.sl 1 (ct cl))),(7,.pv (.sl 1 (ct (nf (py r b t)))))],[]⟩) (fun t=>16*t≤b.length+15) (fun t=>b.length-16*t) [8,0,1,6,7] [] 0 (by omega) ?_ (hs:=by simp only[go_sem,↓reduceIte,pa0]<;>rfl)
 rintro t ht K hK;refine aa ?_;refine AW.cond rfl (fun hc=> ?_) (fun hc=> ?_)
 ·have hlt:16*t<b.length:=by have:=of_decide_eq_true hc;omega
  have e1:IntKind.i64.wrap (((16*t:Nat):Int)+16)=((16*(t+1):Nat):Int):=by rw[show 16*(t+1)=16*t+16 by omega];exact au (n:=16*t+16) (by omega)
  obtain⟨E,hE⟩:∃E,E=min (16*(t+1)) b.length:=⟨_,rfl⟩
  have hmin:(if b.length<16*(t+1)then(b.length:Int)else((16*(t+1):Nat):Int))=(E:Int):=by split<;>omega
  have hE1:(16*t≤E)=True:=eq_true (by omega)
  have hE2:(E≤b.length)=True:=eq_true (by omega)
  have hch:((b.drop (16*t)).take 16)=((b.drop (16*t)).take (E-16*t)):=by
   by_cases h:16*(t+1)≤b.length
   ·rw[show E-16*t=16 by omega]
   ·rw[z14 (by rw[z19];omega),z14 (by rw[z19];omega)]
  have hblk:ar0 b t=gw ((b.drop (16*t)).take 16++[1]):=rfl;have hacc:py r b (t+1)=(py r b t+ar0 b t)*r % jj:=rfl;have hsub:(((E:Int)-((16*t:Nat):Int)).toNat)=E-16*t:=by omega
  have hcb2:∀x∈(b.drop (16*t)).take 16,x<256:=fun x hx=>hb x (z25 (z16 hx))
  have hcl2:((b.drop (16*t)).take 16).length≤16:=by rw[z13];omega
  have htB:(bytes (b.drop (16*t))).take (E-16*t)=bytes ((b.drop (16*t)).take 16):=by rw[hch,dz]
  have hdB:(bytes b).drop (16*t)=bytes (b.drop (16*t)):=by rw[ot]
  have htB2:bytes ((b.drop (16*t)).take (E-16*t))=bytes ((b.drop (16*t)).take 16):=by rw[←hch]
  refine aa ?_ (by simp only[go_sem,↓reduceIte,e1,hmin,hE1,hE2,hsub,hdB,htB,htB2]<;>rfl)
  generalize(b.drop (16*t)).take 16=ch at*;have hnb:∀x∈ch++[1],x<256:=fun x hx=>by
   rcases z28.1 hx with h|h
   ·exact hcb2 x h
   ·simp at h;omega
  have hnl:(ch++[1]).length≤17:=by rw[z26,z24];omega
  have hs1:ct ch++[.int .i64 1]=ct (ch++[1]):=by rw[show [PV.int .i64 1]=ct [1]from rfl,jy]
  have r1:((ch.length+1)*8≤aw)=True:=eq_true (by omega)
  have r2:(ch.length+1≤aw)=True:=eq_true (by omega)
  refine ap (y5 ch hcb2 (by omega)) (.pv _ .nil) ?_
  refine aa ?_ (by simp only[go_sem,↓reduceIte,m1,hs1,bh,z00,z01,z02,r1,r2]<;>rfl)
  generalize ch++[1]=nn at*;have hpl:=Zp r b t;have hdl:dn (py r b t)≤17:=Hz (z22 hpl (by unfold jj;decide))
  have haf:=Jg (nf (py r b t)) nn (Cq _) hnb (by rw[db];omega) (by omega)
  have hav:=Jf (Cq (py r b t)) hnb;have hab:=Ns (nf (py r b t)) nn;have hal:=Tb (nf (py r b t)) nn;rw[Vr,←hblk]at hav;rw[db]at hal;generalize Gp (nf (py r b t)) nn=Ad at*;have hmf:=Rx Ad cl hab hcb (by omega) (by omega)
  have hmv:=Rv hab hcb;have hmb:=Mp Ad cl;have hml:=Rw Ad cl;rw[hav,hrv]at hmv;generalize N1 Ad cl=M at*;have hrf:=ab6 M hmb (by omega)
  rw[hmv,←hacc]at hrf;refine ap haf (.pv _ (.lend rfl Ca .nil)) ?_;refine bj (.slot 39) ?_;refine aa ?_;refine ap hmf (.pv _ (.pv _ .nil)) ?_;refine aa ?_;refine ap hrf (.pv _ .nil) ?_;refine aa ?_ (by simp only[go_sem,↓reduceIte,e1]<;>rfl)
  exact ah hK (t+1) (by omega) (by omega)
 have hge:b.length≤16*t:=by have:=of_decide_eq_false hc;omega
 have htt:t=(b.length+15)/16:=by omega
 rw[pz,←htt];have hpl:=Zp r b t;have hdl:dn (py r b t)≤17:=Hz (z22 hpl (by unfold jj;decide))
 have hkd:∀x∈key.drop 16,x<256:=fun x hx=>hkb x (z25 hx)
 have hkl:(key.drop 16).length=16:=by rw[z19];omega
 have haf:=Jg (nf (py r b t)) (key.drop 16) (Cq _) hkd (by rw[db];omega) (by omega)
 have hAd:Gp (nf (py r b t)) (key.drop 16)=fk (py r b t+gw (key.drop 16)) (aa1 (nf (py r b t)) (key.drop 16)):=by unfold Gp;rw[Vr]
 have hav:=Jf (Cq (py r b t)) hkd;rw[Vr]at hav;rw[hAd]at haf hav;rw[mi]at hav;have hnf:=y5 (key.drop 16) hkd (by omega)
 have hs1:(16≤key.length)=True:=eq_true (by omega)
 have hs2:((16:Int)≤(key.length:Int))=True:=eq_true (by omega)
 have hdk:=ot key 16;have htk:(bytes (key.drop 16)).take ((key.length:Int)-16).toNat=bytes (key.drop 16):=z14 (by rw[ba];omega)
 generalize aa1 (nf (py r b t)) (key.drop 16)=L at*;generalize py r b t+gw (key.drop 16)=S at*;have hSL:S<256^L:=by rw[←hav];exact z09 _ (Nat.pow_pos (by decide))
 refine aa ?_ (by simp only[go_sem,↓reduceIte,hs1,hs2,hdk,htk]<;>rfl)
 refine ap hnf (.pv _ .nil) ?_;refine bj (.slot 46) ?_;refine aa ?_;refine ap haf (.pv _ (.pv _ .nil)) ?_;have hlb:=ff L S;refine aa ?_;refine bj (.slot 7) ?_;refine aq (fun i:Nat=>⟨66,[(12,.pv (.int .i64 i)),(7,.pv (.sl 1 (ct (fk S L)))),(11,.own 5 (bytes (fk S i)))],[]⟩) (fun i=>i≤16) (fun i=>16-i) [12,7,11] [] 0 (z11 _) ?_
 rintro i hi K hK;refine aa ?_;refine AW.cond rfl (fun hc2=> ?_) (fun hc2=> ?_)
 ·have hlt:i<16:=by have:=of_decide_eq_true hc2;omega
  have ei:IntKind.i64.wrap ((i:Int)+1)=((i+1:Nat):Int):=ai (by omega)
  have hg:i<L→(ct (fk S L))[i]?=some (.int .i64 ((S/256^i % 256:Nat):Int)):=fun h=>by
   unfold ct;rw[z07,Cs S L i h];rfl
  have hz:¬i<L→S/256^i % 256=0:=fun h=>by
   rw[z20];exact z10 hSL (z17 (by decide) (by omega))
  have hsn:bytes (fk S i)++[.int .u8 ((S/256^i % 256:Nat):Int)]=bytes (fk S (i+1)):=by rw[Dc,←bx];rfl
  have hx8:S/256^i % 256<256:=z09 _ (by decide)
  have hll:=ff i S;generalize S/256^i % 256=x at*;have w8:IntKind.u8.wrap (x:Int)=(x:Int):=by rw[wrap_u8,z06 hx8]
  have r1:(i+1≤aw)=True:=eq_true (by omega)
  have dL:decide ((i:Int)<(L:Int))=decide (i<L):=by rw[z29];simp
  refine aa ?_ (by simp only[go_sem,↓reduceIte,bh,hlb,dL]<;>rfl)
  refine AW.cond rfl (fun hc3=> ?_) (fun hc3=> ?_)
  ·have g1:=hg (of_decide_eq_true hc3);refine aa ?_ (by simp only[go_sem,↓reduceIte,g1,w8,m1,hsn,ba,hll,z00,z01,z02,r1,ei]<;>rfl)
   exact ah hK (i+1) (by omega) (by omega)
  ·have x0:=hz (of_decide_eq_false hc3);subst x0;have w0:IntKind.u8.wrap 0=0:=by decide
   have hsn2:bytes (fk S i)++[.int .u8 0]=bytes (fk S (i+1)):=hsn;refine aa ?_ (by simp only[go_sem,↓reduceIte,w0,m1,hsn2,ba,hll,z00,z01,z02,r1,ei]<;>rfl)
   exact ah hK (i+1) (by omega) (by omega)
 have hge2:i=16:=by have:=of_decide_eq_false hc2;omega
 subst hge2;refine aa ?_;refine ac (.move rfl (.pv _ .nil)) rfl
end Go.Ck
