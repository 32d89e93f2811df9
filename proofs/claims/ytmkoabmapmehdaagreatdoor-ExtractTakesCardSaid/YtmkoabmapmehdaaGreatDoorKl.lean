/- What is proved here: parts of the proofs of this seat's statements (a verified evaluator for calls over pure values, its laws, and contracts of functions). No condition. -/
import Derived.Test.YtmkoabmapmehdaaGreatDoorKk
import Derived.Laws.StructEq
import Derived.OpenShut
import Derived.ChangeArms
import Derived.ChangeBears
import Derived.Carry
import Derived.ChangeCalls
import Derived.Handed
import Derived.SizedLaws
import Derived.LaidMore
import Derived.MakeChecks
import Derived.ChangeSame
import Derived.LaidLaws
import Derived.ProofKit
import Derived.Stop.Joined
set_option linter.all false
open List renaming getElem?_eq_getElem→z00,append_nil→z02,getElem?_eq_some_iff→z04,length_eq_zero_iff→z05,take_append_drop→z06,take_succ_cons→z09,getElem?_map→z10,mem_append→z12,take_zero→z13,drop_zero→z14,drop_drop→z15,sum_cons→z16,map_cons→z17
open Array renaming getElem?_eq_some_iff→z01,replicate→z11
open Bool renaming and_eq_true→z03
open Nat renaming one_mul→z07,add_mul→z08,add_comm→z18,le_refl→z19
namespace Go.Ck
mutual
def Aq(P:Program):Nat→Array Oper→List Oper→St→Option St
 |_,_,[],s=>some s
 |0,_,_::_,_=>none
 |n+1,all,o::r,s=>stG P n all o r s o.guard
def stG(P:Program):Nat→Array Oper→Oper→List Oper→St→Option (Nat×Bool)→Option St
 |0,_,_,_,_,_=>none
 |n+1,all,o,r,s,none=>Yk P n all r (jf o) (du P o s)
 |n+1,all,o,r,s,some (j,want)=>stB P n all o r s (ja all s j want) want
def stB(P:Program):Nat→Array Oper→Oper→List Oper→St→Option Bool→Bool→Option St
 |n+1,all,o,r,s,some true,true=>Yk P n all r (jf { o with guard:=none }) (du P o s)
 |n+1,all,o,r,s,some false,false=>Yk P n all r (jf { o with guard:=none }) (du P o s)
 |n+1,all,o,r,s,some true,false=>stD P n all r s o.dst
 |n+1,all,o,r,s,some false,true=>stD P n all r s o.dst
 |_,_,_,_,_,_,_=>none
def stD(P:Program):Nat→Array Oper→List Oper→St→Option Nat→Option St
 |n+1,all,r,s,some d=>Aq P n all r (put d (.tup []) s)
 |_,_,_,_,_=>none
def Yk(P:Program):Nat→Array Oper→List Oper→Bool→Option St→Option St
 |n+1,all,r,true,some s'=>Aq P n all r s'
 |_,_,_,_,_=>none
end
section
variable {P : Program} {R : Option Nat} {Φ : Exit → Cx → St → Prop} {k : List It} {C : Cx} {s : St} {all : Array Oper} {K : St → Prop}
theorem L5(n:Nat)(all:Array Oper)(s:St):Aq P n all [] s=some s:=by cases n<;>rfl
theorem Jn(n:Nat)(all:Array Oper)(o:Oper)(r:List Oper)(s:St):Aq P (n+1) all (o::r) s=stG P n all o r s o.guard:=rfl
theorem Ri(n:Nat)(all:Array Oper)(o:Oper)(r:List Oper)(s:St):stG P (n+1) all o r s none=Yk P n all r (jf o) (du P o s):=rfl
theorem Rh(n:Nat)(all:Array Oper)(o:Oper)(r:List Oper)(s:St)(j:Nat)(want:Bool):stG P (n+1) all o r s (some (j,want))=stB P n all o r s (ja all s j want) want:=rfl
theorem az3(n:Nat)(all:Array Oper)(o:Oper)(r:List Oper)(s:St):stB P (n+1) all o r s (some true) true=Yk P n all r (jf { o with guard:=none }) (du P o s):=rfl
theorem az6(n:Nat)(all:Array Oper)(o:Oper)(r:List Oper)(s:St):stB P (n+1) all o r s (some false) false=Yk P n all r (jf { o with guard:=none }) (du P o s):=rfl
theorem az4(n:Nat)(all:Array Oper)(o:Oper)(r:List Oper)(s:St):stB P (n+1) all o r s (some true) false=stD P n all r s o.dst:=rfl
theorem az5(n:Nat)(all:Array Oper)(o:Oper)(r:List Oper)(s:St):stB P (n+1) all o r s (some false) true=stD P n all r s o.dst:=rfl
theorem Rj(n:Nat)(all:Array Oper)(r:List Oper)(s:St)(d:Nat):stD P (n+1) all r s (some d)=Aq P n all r (put d (.tup []) s):=rfl
theorem Iv(n:Nat)(all:Array Oper)(r:List Oper)(s':St):Yk P (n+1) all r true (some s')=Aq P n all r s':=rfl
attribute [go_sem] L5 Jn Ri Rh az3 az6 az4 az5 Rj Iv jf
theorem La(o:Oper)(s:St):du P { o with guard:=none } s=du P o s:=rfl
mutual
theorem AT.run:∀(n:Nat) {l:List Oper} {s s':St},Aq P n all l s=some s'→K s'→AT P R all C K l s
 |n,[],s,s',h,hk=>by rw[L5]at h;cases h;exact AT.nil hk
 |0,_::_,s,s',h,hk=>by simp[Aq]at h
 |n+1,o::r,s,s',h,hk=>by
  rw[Jn]at h;exact aqr n h rfl hk
theorem aqr:∀(n:Nat) {o:Oper} {r:List Oper} {s s':St} {g:Option (Nat×Bool)},stG P n all o r s g=some s'→o.guard=g→K s'→AT P R all C K (o::r) s
 |0,_,_,_,_,_,h,_,_=>by simp[stG]at h
 |n+1,o,r,s,s',none,h,hg,hk=>by
  rw[Ri]at h;cases n with
  |zero=>cases jf o<;>simp[Yk]at h
  |succ n=>
   cases hst:jf o with
   |false=>rw[hst]at h;simp[Yk]at h
   |true=>
    cases hs:du P o s with
    |none=>rw[hst,hs]at h;simp[Yk]at h
    |some s1=>
     rw[hst,hs,Iv]at h;exact AT.step hg hst hs (AT.run n h hk)
 |n+1,o,r,s,s',some (j,want),h,hg,hk=>by
  rw[Rh]at h;cases n with
  |zero=>cases ja all s j want<;>simp[stB]at h
  |succ n=>
   cases hb:ja all s j want with
   |none=>rw[hb]at h;simp[stB]at h
   |some b=>
    rw[hb]at h;by_cases hbw:b=want
    ·have h':Yk P n all r (jf { o with guard:=none }) (du P o s)=some s':=by
      subst hbw;cases b<;>exact h
     cases n with
     |zero=>cases jf { o with guard:=none } <;>simp[Yk]at h'
     |succ n=>
      cases hst:jf { o with guard:=none } with
      |false=>rw[hst]at h';simp[Yk]at h'
      |true=>
       cases hs:du P o s with
       |none=>rw[hst,hs]at h';simp[Yk]at h'
       |some s1=>
        rw[hst,hs,Iv]at h';cases hd:o.dst with
        |none=>
         exfalso
         unfold jf at hst;simp[hd]at hst
        |some d=>exact AT.guard hg hd hb (fun _=>AT.step rfl hst (by rw[La];exact hs) (AT.run n h' hk)) (fun hn=>absurd hbw hn)
    ·have h':stD P n all r s o.dst=some s':=by
      cases b<;>cases want<;>first|exact absurd rfl hbw|exact h
     cases hd:o.dst with
     |none=>rw[hd]at h';cases n<;>simp[stD]at h'
     |some d=>
      rw[hd]at h';cases n with
      |zero=>simp[stD]at h'
      |succ n=>
       rw[Rj]at h';exact AT.guard hg hd hb (fun hn=>absurd hn hbw) (fun _=>AT.run n h' hk)
end
theorem pc{id:Nat}{l:List Oper}{s':St}(hm:P.follows .mixedOrders=true)(hB:Region.lexB .any l.toArray=true)(h:AW P R Φ .normal k C s')(hn:Aq P 1000 l.toArray l s=some s':=by simp only[go_sem,↓reduceIte]<;>rfl):AW P R Φ .normal (.code (.region id l.toArray true)::k) C s:=
 AW.still hm hB (AT.run 1000 hn h)
theorem u4{id:Nat}{l:List Oper}{s':St}(n:Nat)(hm:P.follows .mixedOrders=true)(hB:Region.lexTailB .any l.toArray n=true)(h:AW P R Φ .normal (.ops l.toArray (l.drop n)::k) C s')(hn:Aq P 1000 l.toArray (l.take n) s=some s':=by simp only[go_sem,↓reduceIte,z09,z13]<;>rfl):AW P R Φ .normal (.code (.region id l.toArray true)::k) C s:=
 Qq n hm hB (AT.run 1000 hn h)
end
attribute [go_sem] List.drop_succ_cons List.drop_zero List.take_succ_cons List.take_zero
end Go.Ck
namespace Go.Ck
open Go.RowKit
section
variable {P : Program} {R : Option Nat} {Φ : Exit → Cx → St → Prop} {k : List It} {C : Cx} {s : St} {all : Array Oper}
theorem aew{listed:Array Bool}(hr:Region.ready .any all listed=[]):∀ {l:List Oper},(∀B a w,AS P R C B s a w→wpListIn (eg R) 0 P all (mz P R Φ k) l a w→wpListIn (eg R) 0 P all (mz P R Φ (.any all 0 listed::k)) l a w):=by
 have H:∀(l:List Oper) a w,wpListIn (eg R) 0 P all (mz P R Φ k) l a w→wpListIn (eg R) 0 P all (mz P R Φ (.any all 0 listed::k)) l a w:=by
  intro l
  induction l with
  |nil=>
   intro a w h;simp only[wpListIn]at h⊢;exact wpAnyIn_done hr h 0
  |cons o r ih=>
   intro a w h;simp only[wpListIn]at h⊢;split
   ·rename_i hw;rw[if_pos hw]at h;exact yz (fun e a w he hq=>by cases e<;>first|exact absurd rfl he|exact hq) (fun a w hq=>ih a w hq) h
   ·rename_i hw;rw[if_neg hw]at h;exact⟨h.1,ih _ _ h.2⟩
 exact fun {l} B a w _ h=>H l a w h
theorem dt{res:List ResultVar}{H:List (Nat×HO)}{Ψ:List SV→List (Nat×HO)→Prop}:∀c C' s,¬rq P res H Ψ C (.panic c) C' s:=fun c C' s h=>by
 rcases h.2.1 with h|h<;>cases h
theorem AW.ts{id:Nat}{res:List ResultVar}{H:List (Nat×HO)}{Ψ:List SV→List (Nat×HO)→Prop}{C':Cx}{s':St}{rest:List Oper}(p q:List Nat)(hm:P.follows .mixedOrders=true)
  (hk:(match Cj all p (z11 all.size false)with
   |some L1=>(match Ed all q L1 with
    |some L2=>Region.noSelect all&& (Region.ready .any all L2).isEmpty&&p.length+q.length==all.size
    |none=>false)
   |none=>false)=true)
  (h:AW P none (rq P res H Ψ C') .normal (.ops all rest::k) C s') (hs:Ck.takes P all p s=some s':=by simp only[go_sem,↓reduceIte]<;>rfl) (hq:jg all q=rest:=by simp only[jg,List.getElem?_toArray,List.getElem?_cons_zero,List.getElem?_cons_succ]<;>rfl):AW P none (rq P res H Ψ C') .normal (.code (.region id all true)::k) C s:=by
 subst hq;split at hk
 ·rename_i L1 h1;split at hk
  ·rename_i L2 h2;simp only[z03,beq_iff_eq]at hk;obtain⟨⟨hsel,hr⟩,hsz⟩:=hk;have hr:Region.ready .any all L2=[]:=by simpa using hr
   refine tl hm ?_;have e:all.size=(0+q.length)+p.length:=by omega
   suffices key:∀n,n=(0+q.length)+p.length→AW P none (rq P res H Ψ C') .normal (.any all n (z11 all.size false)::k) C s from key _ e
   rintro n rfl;refine AW.takes p ?_ hs dt h1 hsel;refine bp q ?_ h2;intro B a w ha;exact aew hr (s:=s') (C:=C) B a w ha (h B a w ha)
  ·cases hk
 ·cases hk
end
theorem abk(P:Program)(all:Array Oper)(s:St):takes P all [] s=some s:=rfl
def af0(P:Program)(all:Array Oper)(r:List Nat):Option St→Option St
 |some s'=>takes P all r s'
 |none=>none
theorem V5(P:Program)(all:Array Oper)(i:Nat)(r:List Nat)(s:St):takes P all (i::r) s=af0 P all r (zj P all i s):=by
 simp only[takes];cases zj P all i s<;>rfl
attribute [go_sem] abk V5 af0 zj aat O2
end Go.Ck
namespace Go.Ck
attribute [go_sem] List.getElem?_toArray List.getElem?_cons_zero List.getElem?_cons_succ
section
variable {P : Program} {R : Option Nat} {Φ : Exit → Cx → St → Prop} {k : List It} {C : Cx} {s : St}
theorem ar{e:Exit}(p:Place)(t:TypeId)(h:AW P R Φ e k C (cm p (.own t []) s))(hl:s.at p=some .nils:=by rfl):AW P R Φ e k C s:=
 wb (fun B a w ha=>by
  obtain⟨hd,E,hE⟩:=ha;obtain⟨x,hx,hv⟩:=hE.place p _ hl;have hv':RS P (fun b=>E.om b∨B.F b) E w .nils x:=hv
  cases hv'
  have:=hE.recast (p:=p) (v:= .own t []) (y:= .slice none 0 0) (x:= .slice none 0 0) hl rfl rfl (hE.free_of (fun e' xs he=>by rw[hl]at he;cases he)) rfl hx (.inr rfl)
   (by simp only[ip,ci];exact⟨trivial,⟨[],World.ownsRow_nil w 0 _ _,iu.nil _ _,by simp,by simp⟩,by simp[Value.ownBlock]⟩) (by simp[SV.on]) (fun _ b hb=>by simp[Value.ownBlock]at hb) (by simp[SV.pts])
  exact⟨B,hd,_,this⟩) h
end
end Go.Ck
namespace Go.Ck
theorem T9(all:Array Oper):jg all []=[]:=rfl
def aq4(all:Array Oper)(r:List Nat):Option Oper→List Oper
 |some o=>o::jg all r
 |none=>jg all r
theorem P4(all:Array Oper)(i:Nat)(r:List Nat):jg all (i::r)=aq4 all r all[i]?:=by
 simp only[jg];cases all[i]?<;>rfl
attribute [go_sem] T9 P4 aq4
open Go.RowKit
section
variable {P : Program} {R : Option Nat} {Φ : Exit → Cx → St → Prop} {k : List It} {C : Cx} {s : St}
end
end Go.Ck
namespace Go.Ck
open Go.RowKit
section
variable {P : Program} {R : Option Nat} {Φ : Exit → Cx → St → Prop} {k : List It} {C : Cx} {s : St} {all : Array Oper} {j dj : Nat} {v : Option Bool}
end
end Go.Ck
namespace Go.Ck
open Go.RowKit
section
variable {P : Program} {R : Option Nat} {Φ : Exit → Cx → St → Prop} {k : List It} {C : Cx} {s : St}
end
end Go.Ck
namespace Go.Ck
open Go.RowKit
def PT(P:Program):Nat→TypeId→List PV→Prop
 |0,_,_=>False
 |n+1,t,cs=>match P.underlying t with
  |some .bool=> ∃b,cs=[.bool b]
  |some (.int k)=> ∃m,cs=[.int k m]∧(Lit.int k m).wf=true
  |some .string=> ∃s,cs=[.str s]∧s.length≤maxLen
  |some (.slice e)=> ∃xs,cs=[.sl (P.cellsOf e) xs]∧xs.length≤maxLen∧∀x∈xs,PT P n e x.cells∧x.one= !gc P e
  |some (.struct fs)=> ∃pss:List (List PV),cs=pss.flatten∧pss.length=fs.size∧∀(i:Nat) (f:Field) (ps:List PV),fs[i]?=some f→pss[i]?=some ps→PT P n f.type ps∧ps.length=P.cellsOf f.type
  |some (.array m e)=> ∃pss:List (List PV),cs=pss.flatten∧pss.length=m∧∀ps∈pss,PT P n e ps∧ps.length=P.cellsOf e
  |_=>False
def Yn(P:Program):Nat→TypeId→Bool
 |0,_=>false
 |n+1,t=>match P.underlying t with
  |some .bool=>true
  |some (.int _)=>true
  |some .string=>true
  |some (.slice e)=>Yn P n e&&decide (0<P.cellsOf e)
  |some (.struct fs)=>fs.all fun f=>Yn P n f.type
  |some (.array _ e)=>Yn P n e
  |_=>false
def Lf:Nat→Prop:=fun _=>False
section
variable {P : Program} {w : World}
theorem Rs:∀(fs:List Field) (cs:List Value) (Q:TypeId→List PV→Prop),cs.length=(fs.map fun f=>P.cellsOf f.type).sum→
  (∀(i:Nat) (f:Field),fs[i]?=some f→∃ps,Q f.type ps∧iu Lf w ps ((cs.drop ((fs.take i).map fun f=>P.cellsOf f.type).sum).take (P.cellsOf f.type)))→
  ∃pss:List (List PV),pss.length=fs.length∧iu Lf w pss.flatten cs∧∀(i:Nat) (f:Field) (ps:List PV),fs[i]?=some f→pss[i]?=some ps→Q f.type ps∧ps.length=P.cellsOf f.type
 |[],cs,Q,hl,h=>by
  have:cs=[]:=z05.1 hl;subst this;exact⟨[],rfl,iu.nil _ _,by simp⟩
 |f::fs,cs,Q,hl,h=>by
  simp only[z17,z16]at hl;obtain⟨ps0,q0,r0⟩:=h 0 f rfl;simp only[z13,List.map_nil,List.sum_nil,z14]at r0;obtain⟨pss,h1,h2,h3⟩:=Rs fs (cs.drop (P.cellsOf f.type)) Q (by simp;omega) (fun i g hg=>by
   obtain⟨ps,q,r⟩:=h (i+1) g (by simpa using hg)
   refine⟨ps,q, ?_⟩;simp only[z09,z17,z16]at r;rw[z15];exact r)
  refine⟨ps0::pss,by simp[h1], ?_,fun i g ps hg hp=> ?_⟩
  ·have:=r0.append h2;rw[z06]at this;simpa using this
  ·cases i with
   |zero=>
    simp at hg hp;subst hg;subst hp
    refine⟨q0, ?_⟩;have:=r0.1;simp at this;omega
   |succ i=>exact h3 i g ps (by simpa using hg) (by simpa using hp)
theorem agw:∀(m z:Nat) (cs:List Value) (Q:List PV→Prop),cs.length=m*z→
  (∀i,i<m→∃ps,Q ps∧iu Lf w ps ((cs.drop (i*z)).take z))→
  ∃pss:List (List PV),pss.length=m∧iu Lf w pss.flatten cs∧∀ps∈pss,Q ps∧ps.length=z
 |0,z,cs,Q,hl,h=>by
  have:cs=[]:=z05.1 (by simpa using hl)
  subst this;exact⟨[],rfl,iu.nil _ _,by simp⟩
 |m+1,z,cs,Q,hl,h=>by
  have hz:(m+1)*z=z+m*z:=by rw[z08,z07,z18]
  obtain⟨ps0,q0,r0⟩:=h 0 (by omega)
  simp only[Nat.zero_mul,z14]at r0;obtain⟨pss,h1,h2,h3⟩:=agw m z (cs.drop z) Q (by simp;omega) (fun i hi=>by
   obtain⟨ps,q,r⟩:=h (i+1) (by omega)
   refine⟨ps,q, ?_⟩;rw[z15]
   rwa [show(i+1)*z=z+i*z by rw[z08,z07,z18]]at r)
  refine⟨ps0::pss,by simp[h1], ?_,fun ps hp=> ?_⟩
  ·have:=r0.append h2;rw[z06]at this;simpa using this
  ·rcases List.mem_cons.1 hp with rfl|hp
   ·refine⟨q0, ?_⟩;have:=r0.1;simp at this;omega
   ·exact h3 ps hp
theorem PT.one{n:Nat}{t:TypeId}{ps:List PV}(h:PT P n t ps)(ha:gc P t=false):∃p,ps=[p]:=by
 cases n with
 |zero=>exact h.elim
 |succ n=>
  unfold PT at h;unfold gc at ha;split at h
  ·obtain⟨b,rfl⟩:=h;exact⟨_,rfl⟩
  ·obtain⟨b,rfl,_⟩:=h;exact⟨_,rfl⟩
  ·obtain⟨b,rfl,_⟩:=h;exact⟨_,rfl⟩
  ·obtain⟨b,rfl,_⟩:=h;exact⟨_,rfl⟩
  ·rename_i hu;rw[hu]at ha;cases ha
  ·rename_i hu;rw[hu]at ha;cases ha
  ·exact h.elim
theorem Sr{n:Nat}{e:TypeId}{a:Addr}(hz:0<P.cellsOf e):∀(len:Nat),(∀i,i<len→∃cs ps,w.cells? 0 (a.add (i*P.cellsOf e)) (P.cellsOf e)=some cs∧PT P n e ps∧iu Lf w ps cs)→
  ∃(xs:List PV) (vs:List Value),xs.length=len∧iu Lf w (da xs) vs∧vs.length=len*P.cellsOf e∧(∀(j:Nat) (v:Value),vs[j]?=some v→w.cell? (a.add j)=some v)∧(∀x∈xs,x.cells.length=P.cellsOf e)∧∀x∈xs,PT P n e x.cells∧x.one= !gc P e
 |0,h=>⟨[],[],rfl,iu.nil _ _,by simp,by simp,by simp,by simp⟩
 |len+1,h=>by
  obtain⟨xs,vs,h1,h2,h3,h4,h5,h6⟩:=Sr hz len (fun i hi=>h i (by omega))
  obtain⟨cs,ps,k1,k2,k3⟩:=h len (by omega)
  obtain⟨_,c2,c3⟩:=World.cells?_some k1;have hadd:∀j,(a.add (len*P.cellsOf e)).add j=a.add (len*P.cellsOf e+j):=fun j=>by
   unfold Addr.add;by_cases hi:len*P.cellsOf e=0<;>by_cases hj:j=0<;>simp[hi,hj,Nat.add_assoc]
  obtain⟨x,hx1,hx2⟩:∃x:PV,x.cells=ps∧x.one= !gc P e:=by
   cases ha:gc P e with
   |true=>exact⟨.agg ps,rfl,rfl⟩
   |false=>
    obtain⟨p,rfl⟩:=k2.one ha;have hp:=k3.2.1 p (by simp)
    refine⟨p, ?_,by simpa using hp⟩
    cases p<;>first|rfl|simp[PV.one]at hp
  refine⟨xs++[x],vs++cs,by simp[h1], ?_, ?_,fun j v hv=> ?_, ?_, ?_⟩
  ·rw[po,jq,ajf,z02,hx1];exact h2.append k3
  ·rw[List.length_append,h3,c2,z08,z07]
  ·by_cases hj:j<vs.length
   ·rw[List.getElem?_append_left hj]at hv;exact h4 j v hv
   ·rw[List.getElem?_append_right (by omega)]at hv
    have hlt:j-vs.length<P.cellsOf e:=by
     have:=(z04.1 hv).1;omega
    have:=c3 (j-vs.length) hlt;rw[hadd,←h3,show vs.length+(j-vs.length)=j by omega]at this
    rw[this];exact hv
  ·intro y hy;rcases z12.1 hy with hy|hy
   ·exact h5 y hy
   ·simp at hy;subst hy
    rw[hx1,←c2,k3.1]
  ·intro y hy;rcases z12.1 hy with hy|hy
   ·exact h6 y hy
   ·simp at hy;subst hy
    exact⟨by rw[hx1];exact k2,hx2⟩
theorem Gy{H:Type}{enc:TypeId×Value→H}{sp:Nat→Bool}{held:Bool}(hl:laidOutB P=true)(hm:mapsRowed P=true):∀(n:Nat) (t:TypeId) (m:Nat) (cs:List Value) (x:DataW H×List MemPlace),
  t<P.types.size→Yn P n t=true→DataW.trod enc P w 0 sp held m t cs=some x→∃ps,PT P n t ps∧iu Lf w ps cs
 |0,t,m,cs,x,ht,hk,h=>by simp[Yn]at hk
 |n+1,t,m,cs,x,ht,hk,h=>by
  have K:=kids_rows hl hm;have e:PT P (n+1) t=fun cs=>(match P.underlying t with
   |some .bool=> ∃b,cs=[.bool b]
   |some (.int k)=> ∃m,cs=[.int k m]∧(Lit.int k m).wf=true
   |some .string=> ∃s,cs=[.str s]∧s.length≤maxLen
   |some (.slice e)=> ∃xs,cs=[.sl (P.cellsOf e) xs]∧xs.length≤maxLen∧∀x∈xs,PT P n e x.cells∧x.one= !gc P e
   |some (.struct fs)=> ∃pss:List (List PV),cs=pss.flatten∧pss.length=fs.size∧∀(i:Nat) (f:Field) (ps:List PV),fs[i]?=some f→pss[i]?=some ps→PT P n f.type ps∧ps.length=P.cellsOf f.type
   |some (.array m e)=> ∃pss:List (List PV),cs=pss.flatten∧pss.length=m∧∀ps∈pss,PT P n e ps∧ps.length=P.cellsOf e
   |_=>False):=rfl
  rw[e];unfold Yn at hk;have one:∀(p:PV) (v:Value),p.one=true→RO Lf w p v→iu Lf w [p] [v]:=fun p v hp hr=>
   ⟨rfl,by simpa using hp,fun i c u hc hu=>by
    cases i with
    |zero=>simp at hc hu;subst hc;subst hu;exact hr
    |succ i=>simp at hc⟩
  split at hk
  ·rename_i hu;obtain⟨b,rfl,_⟩:=DataW.trod_bool hu h;simp only[hu];exact⟨_,⟨b,rfl⟩,one _ _ rfl (.bool b)⟩
  ·rename_i k hu;obtain⟨z,rfl,_,hw⟩:=DataW.trod_int hu h;simp only[hu];exact⟨_,⟨z,rfl,hw⟩,one _ _ rfl (.int k z)⟩
  ·rename_i hu;obtain⟨s,rfl,_,hs⟩:=DataW.trod_string hu h;simp only[hu];refine⟨_,⟨s.data.toList,rfl,by simpa using hs⟩,one _ _ rfl ?_⟩
   have e:(⟨s.data.toList.toArray⟩:ByteArray)=s:=by simp
   have:=RO.str (A:=Lf) (w:=w) s.data.toList
   rwa [e]at this
  ·rename_i el hu;simp only[z03,decide_eq_true_eq]at hk;simp only[hu];rcases DataW.trod_slice hu h with⟨rfl,_⟩|⟨a,len,cap,els,rest,m',_,rfl,_,_,h1,h2,h3,h4,_,_⟩
   ·refine⟨_,⟨[],rfl,by simp,by simp⟩,one _ _ rfl ?_⟩
    exact mm (iu.nil _ _) (by simp) (by simp) (by simp) (z19 _)
   ·obtain⟨xs,vs,k1,k2,k3,k4,k5,k6⟩:=Sr (n:=n) (a:=a) hk.2 len (fun i hi=>by
     have hi4:=h4 i hi;obtain⟨y,hy⟩:∃y,els[i]?=some y:=⟨_,z00 (by omega)⟩
     rw[hy,Option.bind_eq_some_iff]at hi4;obtain⟨cs,c1,c2⟩:=hi4;obtain⟨ps,p1,p2⟩:=Gy hl hm n el m' cs y (K.slice ht hu) hk.1 c2;exact⟨cs,ps,c1,p1,p2⟩)
    refine⟨_,⟨xs,rfl,by omega,k6⟩,one _ _ rfl ?_⟩
    rw[←k1];exact mm k2 (fun i v hv=>⟨a,rfl,fun hf=>hf,k4 i v hv⟩) k5 (by omega) (by omega)
  ·rename_i fs hu;simp only[hu];obtain⟨xs,m',_,_,h1,h2,h3⟩:=DataW.trod_struct hu h;obtain⟨s1,s2,s3⟩:=K.struct ht hu;rw[s2]at h1;obtain⟨pss,k1,k2,k3⟩:=Rs (P:=P) (w:=w) fs.toList cs (fun t ps=>PT P n t ps) h1 (fun i f hf=>by
    have hf':fs[i]?=some f:=by simpa using hf
    have hi3:=h3 i f hf';have hlt:i<xs.length:=by
     rw[h2];exact(z01.1 hf').1
    rw[z00 hlt,s3 i f hf]at hi3;exact Gy hl hm n f.type m' _ _ (s1 f (List.mem_of_getElem? hf)) (by
     have:=Array.all_eq_true.1 hk i (z01.1 hf').1
     rwa [(z01.1 hf').2]at this) hi3)
   exact⟨_,⟨pss,rfl,by simpa using k1,fun i f ps hf hp=>k3 i f ps (by simpa using hf) hp⟩,k2⟩
  ·rename_i len el hu;simp only[hu];obtain⟨xs,m',_,_,h1,h2,h3⟩:=DataW.trod_array hu h;obtain⟨s1,s2⟩:=K.array ht hu;rw[s2]at h1;obtain⟨pss,k1,k2,k3⟩:=agw (w:=w) len (P.cellsOf el) cs (fun ps=>PT P n el ps) h1 (fun i hi=>by
    have hi3:=h3 i hi;rw[z00 (by omega)]at hi3
    exact Gy hl hm n el m' _ _ s1 hk hi3)
   exact⟨_,⟨pss,rfl,k1,k3⟩,k2⟩
  ·cases hk
end
end Go.Ck
namespace Go.Ck
open Go.RowKit Go.ChangeShapes Go.WideShapes Go.ChangeAt
def PA(P:Program)(N:Nat)(ts:List TypeId)(pl:List PV):Prop:=pl.length=ts.length∧∀(j:Nat) (t:TypeId) (p:PV),ts[j]?=some t→pl[j]?=some p→PT P N t p.cells∧p.one= !gc P t
section
variable {P : Program} {W : World}
theorem iu.agg{A:Nat→Prop}{w:World}{ps:List PV}{vs:Array Value}(h:iu A w ps vs.toList):RO A w (.agg ps) (.agg vs):=
 .agg ps vs (by simpa using h.1) h.2.1 (fun i c v hc hv=>h.2.2 i c v hc (by simpa using hv))
theorem acu{N:Nat}{t:TypeId}{v:Value}{base:Nat}(hk:Yn P N t=true)(hok:Value.okWide P W .any base t v):
  (gc P t=true→∃cs,v= .agg cs)∧(gc P t=false→v.cells= #[v]):=by
 cases N with
 |zero=>simp[Yn]at hk
 |succ n=>
  unfold Yn at hk;unfold gc;split at hk
  ·rename_i hu;rw[hu];refine⟨fun h=>(by cases h),fun _=> ?_⟩
   simp only[Value.okWide,hu,Cell.okWide]at hok;cases v<;>simp_all [Cell.ok,Value.cells]
  ·rename_i k hu;rw[hu];refine⟨fun h=>(by cases h),fun _=> ?_⟩
   obtain⟨z,rfl⟩:=okWide_int hu hok;rfl
  ·rename_i hu;rw[hu];refine⟨fun h=>(by cases h),fun _=> ?_⟩
   obtain⟨z,rfl⟩:=okWide_string hu hok;rfl
  ·rename_i e hu;rw[hu];refine⟨fun h=>(by cases h),fun _=> ?_⟩
   obtain⟨a,l,c,rfl⟩:=okWide_slice hu hok;rfl
  ·rename_i fs hu;rw[hu];refine⟨fun _=> ?_,fun h=>(by cases h)⟩
   simp only[Value.okWide,hu]at hok;obtain⟨cs,h,_⟩:=hok;exact⟨cs,h⟩
  ·rename_i m e hu;rw[hu];refine⟨fun _=> ?_,fun h=>(by cases h)⟩
   simp only[Value.okWide,hu]at hok;obtain⟨cs,h,_⟩:=hok;exact⟨cs,h⟩
  ·cases hk
theorem aCf{H:Type}{enc:TypeId×Value→H}{sp:Nat→Bool}{held:Bool}(hl:laidOutB P=true)(hm:mapsRowed P=true){N:Nat}{t:TypeId}{v:Value}{d:DataW H}{ps:List MemPlace}{base:Nat}
  (ht:t<P.types.size) (hk:Yn P N t=true) (hok:Value.okWide P W .any base t v) (h:DataW.Trod enc P W 0 sp held t v d ps):∃p,PT P N t p.cells∧p.one=(!gc P t)∧RO Lf W p v:=by
 obtain⟨m,hm'⟩:=h;obtain⟨qs,h1,h2⟩:=Gy hl hm N t m _ _ ht hk hm';obtain⟨o1,o2⟩:=acu hk hok;cases ha:gc P t with
 |true=>
  obtain⟨cs,rfl⟩:=o1 ha;exact⟨.agg qs,h1,rfl,iu.agg h2⟩
 |false=>
  obtain⟨p,rfl⟩:=h1.one ha;rw[o2 ha]at h2;have hp:=h2.2.1 p (by simp)
  refine⟨p, ?_,by simpa using hp,h2.2.2 0 p v rfl rfl⟩
  cases p<;>first|exact h1|simp[PV.one]at hp
theorem aah{H:Type}{enc:TypeId×Value→H}{sp:Nat→Bool}{held:Bool}(hl:laidOutB P=true)(hm:mapsRowed P=true){N base:Nat}:∀ {ts:List TypeId} {vs:List Value} {ds:List (DataW H)} {ps:List MemPlace},
  (∀t∈ts,t<P.types.size∧Yn P N t=true)→(∀(j:Nat) t v,ts[j]?=some t→vs[j]?=some v→Value.okWide P W .any base t v)→DataW.TrodAll enc P W 0 sp held ts vs ds ps→
  ∃pl,PA P N ts pl∧vs.length=pl.length∧∀(j:Nat) (p:PV) (v:Value),pl[j]?=some p→vs[j]?=some v→RO Lf W p v
 |[],vs,ds,ps,_,_,h=>by
  obtain⟨rfl,_,_⟩:=trodAll_nil h;exact⟨[],⟨rfl,by simp⟩,rfl,by simp⟩
 |t::ts,vs,ds,ps,ht,hok,h=>by
  obtain⟨v,vs',d,ds',p,q,rfl,rfl,rfl,h1,h2⟩:=trodAll_cons h;obtain⟨x,x1,x2,x3⟩:=aCf hl hm (ht t (by simp)).1 (ht t (by simp)).2 (hok 0 t v rfl rfl) h1
  obtain⟨pl,y1,y2,y3⟩:=aah hl hm (fun u hu=>ht u (by simp[hu])) (fun j u z hj hz=>hok (j+1) u z (by simpa using hj) (by simpa using hz)) h2
  refine⟨x::pl,⟨by simp[y1.1],fun j u z hj hz=> ?_⟩,by simp[y2],fun j z u hj hu=> ?_⟩
  ·cases j with
   |zero=>simp at hj hz;subst hj;subst hz;exact⟨x1,x2⟩
   |succ j=>exact y1.2 j u z (by simpa using hj) (by simpa using hz)
  ·cases j with
   |zero=>simp at hj hu;subst hj;subst hu;exact x3
   |succ j=>exact y3 j z u (by simpa using hj) (by simpa using hu)
def E0:Env:=⟨fun _=>0,fun _=>undef,Lf⟩
theorem ab7{pl:List PV}{vs:List Value}(hl:vs.length=pl.length)(h:∀(j:Nat) (p:PV) (v:Value),pl[j]?=some p→vs[j]?=some v→RO Lf W p v):
  Rel P ⟨E0.om,d9 E0 []⟩ W Lf ⟨vs.length,c8 (pl.map .pv) 0,[]⟩ E0 vs.toArray W:=by
 have hat:∀p v,St.at ⟨vs.length,c8 (pl.map .pv) 0,[]⟩ p=some v→∃d q,p= .slot d∧pl[d]?=some q∧v= .pv q:=by
  intro p v hp;cases p with
  |slot d=>
   simp only[St.at,ij,z10,Option.map_eq_some_iff]at hp;obtain⟨q,hq,rfl⟩:=hp;exact⟨d,q,rfl,hq,rfl⟩
  |part d i=>
   simp only[St.at,ij,z10]at hp;cases hq:pl[d]? with
   |none=>rw[hq]at hp;simp at hp
   |some q=>rw[hq]at hp;simp at hp
  |cell o i=>simp[St.at,aj]at hp
 refine { place:= ?_,obj:= ?_,size:= ?_,i1:= ?_,i2:= ?_,i3:= ?_,om_lt:= ?_,om0:= ?_,na:= ?_,np:= ?_,gr:=nc _ _,flt:= ?_,ob:= ?_ }
 ·intro p v hp;obtain⟨d,q,rfl,hq,rfl⟩:=hat p v hp;have hlt:d<vs.length:=by rw[hl];exact(z04.1 hq).1
  refine⟨vs[d],by simp[CV,hlt], ?_⟩
  exact .pv _ _ ((h d q vs[d] hq (z00 hlt)).mono (fun b _ hb=>⟨fun hc=>hc.elim hb hb,rfl⟩))
 ·intro o y ho;simp[aj]at ho
 ·simp
 ·intro o o' y y' ho;simp[aj]at ho
 ·intro p q e xs e' ys b hp;obtain⟨d,q,rfl,hq,hv⟩:=hat _ _ hp;cases hv
 ·intro p e xs o y b hp;obtain⟨d,q,rfl,hq,hv⟩:=hat _ _ hp;cases hv
 ·intro b hb;exact hb.elim
 ·intro b hb;exact hb.elim
 ·intro p v q hp hon;obtain⟨d,r,rfl,hq,rfl⟩:=hat _ _ hp;simp[SV.on]at hon
 ·intro p v o hp hpt;obtain⟨d,r,rfl,hq,rfl⟩:=hat _ _ hp;simp[SV.pts]at hpt
 ·intro b hb;exact hb.elim
 ·intro o b hb;simp[d9,aj]at hb
theorem adg{H:Type}{enc:TypeId×Value→H}{f:FuncId}{N base:Nat}{ts:List TypeId}{args:Array Value}{ds:List (DataW H)}{ps:List MemPlace}(hl:laidOutB P=true)(hm:mapsRowed P=true)(ht:∀t∈ts,t<P.types.size∧Yn P N t=true)
  (hF:∀pl,PA P N ts pl→Fn P f [] (pl.map .pv) (fun rs H'=>rs=[.pv (.bool true)]∧H'=[])) (hG:Gj P Lf W)
  (hval:∀(j:Nat) t v,ts[j]?=some t→args[j]?=some v→Value.okWide P W .any base t v) (hA:DataW.TrodAll enc P W 0 (fun _=>true) true ts args.toList ds ps):
  Calls P f args W fun e W'=>e= .returned (.bool true)∧Below W.heap.size W W':=by
 obtain⟨pl,h1,h2,h3⟩:=aah hl hm ht (fun j t v hj hv=>hval j t v hj (by simpa using hv)) hA
 have hR:=ab7 (P:=P) h2 h3;have:=(hF pl h1).2 Lf W E0 args.toList (by simp[h2]) (hG.mono (fun b _ hb=>⟨fun hc=>hc.elim hb hb,rfl⟩) (z19 _)) hR
 simp only[Array.toArray_toList]at this;refine this.mono (fun e w' he=> ?_)
 cases e with
 |returned v=>
  obtain⟨rs,H',E',us,⟨rfl,rfl⟩,k1,rfl,k2⟩:=he
  match us,k1 with
  |[u],_=>
   obtain⟨x,hx,hp⟩:=k2.place (.slot 0) (.pv (.bool true)) rfl;simp[CV]at hx;subst hx;cases hp with|pv _ _ hr=>
    cases hr
    refine⟨rfl,k2.gr.os,k2.gr.tape,k2.gr.output,k2.gr.size,fun k hk=>k2.gr.block k hk (fun hb=>hb)⟩
 |panicked c=>exact he.elim
 |outgrown=>exact he.elim
theorem No{H:Type}{enc:TypeId×Value→H}(hl:laidOutB P=true){W':World}(hb:Below W.heap.size W W'):∀ {ts:List TypeId} {vs:List Value} {ds:List (DataW H)} {ps:List MemPlace},(∀t∈ts,P.readableRec t=true∧t<P.types.size)→
  DataW.TrodAll enc P W 0 (fun _=>true) true ts vs ds ps→DataW.TrodAll enc P W' 0 (fun b=>decide (b<W.heap.size)) true ts vs ds ps
 |[],vs,ds,ps,_,h=>by
  obtain⟨rfl,rfl,rfl⟩:=trodAll_nil h;exact trodAll_mk0
 |t::ts,vs,ds,ps,ht,h=>by
  obtain⟨v,vs',d,ds',p,q,rfl,rfl,rfl,h1,h2⟩:=trodAll_cons h;refine⟨p,q,Below.trod hl (ht t (by simp)).1 (ht t (by simp)).2 h1 hb (fun x hx=> ?_),No hl hb (fun u hu=>ht u (by simp[hu])) h2,rfl⟩
  obtain⟨m,hm⟩:=h1;exact DataW.trod_lt m _ _ _ hm x hx
theorem ai2{H:Type}{enc:TypeId×Value→H}{fn:Func}{s:ChangeSpec}{args:Array Value}{ds gs:List (DataW H)}{before:List MemPlace}{tb:TypeId}{W':World}(hl:laidOutB P=true)(hv:s.vars=[])
  (hs:∀ds:List (DataW H),ds.length=fn.params.size→s.fn H ds= { results:=[.lit (.bool true)],args:=ds }) (hrt:fn.resultTypes= #[tb]) (hub:P.underlying tb=some .bool)
  (ht:∀t∈fn.params.toList,P.readableRec t=true∧t<P.types.size) (hW:DataW.Whole enc P fn.params.toList s.vars false W args.toList ds gs before) (hb:Below W.heap.size W W'):
  s.post enc P fn false true false false W args (.bool true) W':=by
 have hW':=hW;obtain⟨p,q,hA,hV,rfl,_,_⟩:=hW;rw[hv]at hV;obtain⟨rfl,rfl⟩:=trodVars_none hV;have hlen:ds.length=fn.params.size:=by
  have:=(trodAll_length hA).2;simpa using this
 have hs':=hs ds hlen;refine⟨ds,[],p++[],[],p,[],hW', ?_, ?_, ?_,hb.frame _,fun h=>by cases h⟩
 ·rw[z02,hs',hrt];exact trodAll_mk1 (shut_bool hub _)
 ·rw[z02,hs'];exact No hl hb ht hA
 ·rw[z02,hs',hv];rfl
end
end Go.Ck
namespace Go.Ck
open Go.RowKit Go.ChangeShapes Go.WideShapes Go.ChangeAt
def aC0{H:Type}:DataW H:= .agg (km.map fun(n:Nat)=> .lit (.int .u8 (n:Int)))
theorem W8{C:Checked}{os:Os}{f:FuncId}{fn:Func}{s:ChangeSpec}{H:Type}{enc:TypeId×Value→H}{laid:List (String×DataW Unit)}{N:Nat}{tb:TypeId}(own:ownKnob C.prog.godebug=none)(started:os.Started)(noInit:C.prog.inits.idxOf? f=none)(hfn:C.prog.funcs[f]?=some fn)
  (witness:∃(w:World) (tape:Tape) (i:Input),w.os=os∧(w.forCall tape i).Shaped C.prog∧i.vars=[]∧Input.okWide C.prog (w.forCall tape i) .any w.heap.size f i∧
   ((s.pre enc C.prog fn [] false (w.forCall tape i).memory i.args∧laidMetH C.prog laid (w.forCall tape i).memory)∧sizedMet enc C.prog fn (OpenSpec.ofChange s) false (w.forCall tape i).memory i.args)∧({} :Assume).holds C.prog (lone (Frame.enter C.prog f i.args .normal) [] (w.forCall tape i)))
  (hl:laidOutB C.prog=true) (hm:mapsRowed C.prog=true) (ht:fn.params.toList.all (fun t=>decide (t<C.prog.types.size)&&Yn C.prog N t&&C.prog.readableRec t)=true) (hv:s.vars=[])
  (hs:∀ds:List (DataW H),ds.length=fn.params.size→s.fn H ds= { results:=[.lit (.bool true)],args:=ds }) (hrt:fn.resultTypes= #[tb]) (hub:C.prog.underlying tb=some .bool)
  (hF:∀pl,PA C.prog N fn.params.toList pl→Fn C.prog f [] (pl.map .pv) (fun rs H'=>rs=[.pv (.bool true)]∧H'=[])) (hG:∀w,laidMetH C.prog laid w→Gj C.prog Lf w):
  ReturnsInHanded {} C os f .any (fun w args=>(s.pre enc C.prog fn [] false w args∧laidMetH C.prog laid w)∧sizedMet enc C.prog fn (OpenSpec.ofChange s) false w args) (s.post enc C.prog fn false true false false):=by
 refine returnsInHanded_of_change_and (C:=C) (X:=fun w _=>laidMetH C.prog laid w) (fun _ _ _ hh h=>h.of_heap hh) own started noInit hfn witness ?_
 intro W base args ds gs before hval hW _ _ hL _;have ht':∀t∈fn.params.toList,t<C.prog.types.size∧Yn C.prog N t=true∧C.prog.readableRec t=true:=fun t h=>by
  have:=List.all_eq_true.1 ht t h;simp only[z03,decide_eq_true_eq]at this;exact⟨this.1.1,this.1.2,this.2⟩
 have hW':=hW;obtain⟨p,q,hA,hV,_,_,_⟩:=hW;refine(adg (enc:=enc) hl hm (fun t h=>⟨(ht' t h).1,(ht' t h).2.1⟩) hF (hG W hL) (fun j t v hj hv=>hval j t v (by simpa using hj) hv) hA).mono fun e W' ⟨he,hb⟩=>⟨_,he, ?_⟩
 exact ai2 hl hv hs hrt hub (fun t h=>⟨(ht' t h).2.2,(ht' t h).1⟩) hW' hb
open Go.RowKit
attribute [go_sem] Nq A9 G6 TK.isInt TK.isSl
section
variable {P : Program} {R : Option Nat} {Φ : Exit → Cx → St → Prop} {k : List It} {C : Cx} {s : St}
theorem aA1{B:Bs}{E:Env}{a:Act}{w:World}(hE:Rel P B.O B.w B.F s E a.tmps w){x:Operand}{cs:List PV}(h:ev s x=some (.pv (.agg cs))):∃vs:Array Value,a.eval x= .agg vs∧iu (fun b=>E.om b∨B.F b) w cs vs.toList:=by
 have:=cq hE h;generalize a.eval x=z at this;cases this with|pv _ _ h=>
  cases h with|agg cs vs hl h1 hr=>exact⟨vs,rfl,by simpa using hl,h1,fun i c v hc hv=>hr i c v hc (by simpa using hv)⟩
theorem Gh{all:Array Oper}{o:Oper}{r:List Oper}{d t:Nat}{x i:Operand}{cs:List PV}{n m e ez:Nat}{ea:Bool}{kk:IntKind}{q:PV}(hx:ev s x=some (.pv (.agg cs)))(hi:ev s i=some (.pv (.int kk (n:Int))))(hT:tk P t= .arr m e ez ea)(hn:n<m)(hz:gq P e=some (ez,ea))(hq:Vb (.agg cs) (n*ez) (some (ez,ea))=some q)
  (hk:AW P R Φ .normal (.ops all r::k) C (put d (.pv q) s)) (hg:o.guard=none:=by rfl) (hd:o.dst=some d:=by rfl) (ho:o.op= .index t x i:=by rfl):AW P R Φ .normal (.ops all (o::r)::k) C s:=by
 refine oy hg hd (fun c hc=>by rw[ho]at hc;cases hc) (.pv _ _) (fun B E a w _ hE=> ?_) hk
 obtain⟨vs,e1,hv⟩:=aA1 hE hx;have e2:=Vs hE hi;obtain⟨hu,hce⟩:=H3 hT;obtain⟨z,ag,us,hTz,h1,hus,hul,hr⟩:=we hq hv;cases hTz
 obtain⟨dd,inf,hud,hinf,hsz,hag⟩:=ka (w:=w) hz;have hsize:(sizeOf e).run P w= .ok ez w:=by rw[run_sizeOf w hinf];simp[Program.cellsOf,hinf,hsz]
 refine⟨_, ?_,.pv _ _ hr⟩;have h0:(0:Int)≤(n:Int)∧(n:Int)<(m:Int):=by omega
 have hpart:(part e vs (n*ez)).run P w= .ok (if ea then .agg us.toArray else us.headD undef) w:=by
  unfold part;cases ea with
  |true=>
   simp only[Sem.run_bind,hag,Result.andThen_ok,if_true,hsize,Sem.run_pure]
   congr 2
   rw[hus];apply Array.ext'
   rw[Array.toList_extract,List.extract_eq_take_drop,Nat.add_sub_cancel_left]
  |false=>
   have hz1:=h1 rfl;subst hz1;obtain⟨v,rfl⟩:∃v,us=[v]:=by
    match us,hul with
    |[v],_=>exact⟨v,rfl⟩
   have hv1:vs[n*1]?=some v:=by
    have h4:((vs.toList.drop (n*1)).take 1)[0]?=some v:=by rw[←hus];rfl
    rw[List.getElem?_take,if_pos (by omega),List.getElem?_drop]at h4
    simpa using h4
   simp only[Sem.run_bind,hag,Result.andThen_ok,hv1];rfl
 simp[execOp,ho,e1,e2,Instr.index,asIntOf,Result.andThen,run_underlying hu,hn,hsize,hpart]
end
end Go.Ck
