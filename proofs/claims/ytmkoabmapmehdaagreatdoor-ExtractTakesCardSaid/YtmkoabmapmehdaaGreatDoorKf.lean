/- What is proved here: parts of the proofs of this seat's statements (a verified evaluator for calls over pure values, its laws, and contracts of functions). No condition. -/
import Derived.Test.YtmkoabmapmehdaaGreatDoorKe
import Derived.StillTail
set_option linter.all false
open List renaming mem_of_getElem?→z00,getElem?_eq_getElem→z01,all_eq_true→z02,getElem?_eq_some_iff→z03,getElem?_map→z04,any_eq_true→z05,eq_nil_of_length_eq_zero→z07,getD_eq_getElem?_getD→z08,all_map→z09
open Option renaming map_some→z06
namespace Go.Ck
open Go.RowKit
section
variable {P : Program} {O0 : Base} {F : Nat → Prop} {w0 w : World} {s : St} {E : Env} {tmps : Array Value}
theorem Rel.cellEasy(h:Rel P O0 w0 F s E tmps w){o off:Nat}{e:TypeId}{cs:List SV}{v:SV}{y:Value}(hl:aj o s.hp=some (.cells e cs))(hi:off<cs.length)(h1:ue v=true)(he:v.easy=true)
  (hr:v= .dead∨RS P (fun b=>E.om b∨F b) E w v y) (hon:∀q,v.on q=false) (hpt:∀o',v.pts o'=true→∃z,aj o' s.hp=some z):
  Rel P O0 w0 F (cm (.cell o off) v (Ck.kill (.cell o off) s)) (E.setHdr (.cell o off) y) tmps (w.setCell ⟨E.obj o,off,none⟩ y):=by
 refine(h.kill (.cell o off)).writeCell hl hi (h.free_kill _) h1 (pu he (hr.imp id fun h2=>h2.setHdr (hon _))) hon ?_ hpt
 rintro⟨e',xs,rfl⟩;simp[SV.easy]at he
theorem Dx(p:Place)(s:St)(o i:Nat):(kill p s).at (.cell o i)=s.at (.cell o i):=rfl
theorem Gr(h:Rel P O0 w0 F s E tmps w){o off:Nat}{e:TypeId}{cs:List SV}{v:SV}{y:Value}{s':St}(hl:aj o s.hp=some (.cells e cs))(hi:off<cs.length)(hs:zu s o off v=some s')
  (hg:mq s v) (hy:RS P (fun b=>E.om b∨F b) E w v y):y.cells= #[y]∧y.oneCell'=true∧∃E',Rel P O0 w0 F s' E' tmps (w.setCell ⟨E.obj o,off,none⟩ y):=by
 unfold zu at hs;split at hs
 ·rename_i p;have hpn:=(hg.2.1 p (by simp[SV.on])).2
  split at hs
  ·rename_i e' xs hp;split at hs<;>cases hs
   rename_i hne;have hyv:=hy.al_inv;subst hyv;obtain⟨a,cap,hf,_⟩:=(h.own hp).form;refine⟨by rw[hf];rfl,by rw[hf];rfl, ?_⟩
   have h1:=h.cellEasy (v:= .dead) (y:=E.hdr p) hl hi rfl rfl (.inl rfl) (fun _=>rfl) (fun o' ho=>by simp[SV.pts]at ho)
   have hlk:aj o (kill (.cell o off) s).hp=some (.cells e cs):=hl;have hcell:∃u,(kill (.cell o off) s).at (.cell o off)=some u:=by
    rw[Dx,cv,hl];exact⟨cs[off],z01 hi⟩
   obtain⟨u,hu⟩:=hcell;have hp':(cm (.cell o off) .dead (kill (.cell o off) s)).at p=some (.own e' xs):=by
    rw[my hlk];have hk:=nq (.cell o off) s hp;cases p with
    |slot d=>exact hk
    |part d i=>exact hk
    |cell o' j=>
     simp only;split
     ·rename_i ho;subst ho
      rw[List.getElem?_set,if_neg (by rintro rfl;exact hne rfl)]
      rw[Dx,cv,hl]at hk;exact hk
     ·exact hk
   have hq':(cm (.cell o off) .dead (kill (.cell o off) s)).at (.cell o off)=some .dead:=by
    rw[my hlk];simp[hi]
   obtain⟨vs,hheap,hsz,_⟩:=h.objCells hl;obtain⟨E',hE⟩:=s4 h1 (q:= .cell o off) hp' hq' rfl (fun he=>hne he.symm) (by
    rw[cp _ _ hne];simp only[CV];show(w.setCell ⟨E.obj o,off,none⟩ (E.hdr p)).cell? ⟨E.obj o,off,none⟩=some (E.hdr p)
    have:=j0 w (E.obj o) off (E.hdr p) (E.obj o);rw[if_pos rfl,hheap]at this;simp only[z06]at this;have hi2:off<vs.size:=by omega
    simp[World.cell?,this,hi2]) (by simp)
   exact⟨E',hE⟩
  ·cases hs
 ·rename_i p;split at hs<;>cases hs
  rename_i h1;have hro:RO (fun b=>E.om b∨F b) w p y:=by cases hy;assumption
  exact⟨(hro.cells_of_one h1).1,hro.oneCell h1,_,h.cellEasy hl hi h1 rfl (.inr hy) (fun _=>rfl) (fun o' ho=>by simp[SV.pts]at ho)⟩
 ·cases hs
  refine⟨?_, ?_,_,h.cellEasy hl hi rfl rfl (.inr hy) (fun _=>rfl) (fun o' ho=>by simp[SV.pts]at ho)⟩<;>cases hy<;>rfl
 ·cases hs
  refine⟨?_, ?_,_,h.cellEasy hl hi rfl rfl (.inr hy) (fun _=>rfl) hg.2.2⟩<;>cases hy<;>rfl
 ·cases hs
  refine⟨?_, ?_,_,h.cellEasy hl hi rfl rfl (.inr hy) (fun _=>rfl) hg.2.2⟩<;>cases hy<;>rfl
 ·cases hs
theorem s5:∀(new:List SV) {off:Nat} {us:List Value} {s:St} {E:Env} {w:World} {o:Nat} {e:TypeId} {cs:List SV},Rel P O0 w0 F s E tmps w→aj o s.hp=some (.cells e cs)→off+new.length≤cs.length→
  B6 (fun b=>E.om b∨F b) w new us→∃E',E'.obj=E.obj∧Rel P O0 w0 F (putCells o off new s) E' tmps (w.setCells (E.obj o) off us)
 |[],off,us,s,E,w,o,e,cs,h,hl,hle,hc=>by
  have:us=[]:=z07 hc.1;subst this;exact⟨E,rfl,h⟩
 |c::r,off,us,s,E,w,o,e,cs,h,hl,hle,hc=>by
  cases us with
  |nil=>have:=hc.1;simp at this
  |cons u us=>
   have h0:=hc.2 0 c u rfl rfl;have hpl:=hc.plain;obtain⟨k1,k2,k3,k4⟩:=j3 hpl c (by simp)
   have h1:=h.cellEasy (off:=off) (v:=c) (y:=u) hl (by simp at hle;omega) k4 k3 (.inr h0.rs) k2 (fun o' ho=>by rw[k1 o']at ho;cases ho)
   have hom:=(h.obj o _ hl).1;have hl':aj o (cm (.cell o off) c (kill (.cell o off) s)).hp=some (.cells e (cs.set off c)):=by
    have hlk:aj o (kill (.cell o off) s).hp=some (.cells e cs):=hl;simp only[cm,hlk,dm];simp[kill,hl]
   have hr:B6 (fun b=>(E.setHdr (.cell o off) u).om b∨F b) (w.setCell ⟨E.obj o,off,none⟩ u) r us:=by
    refine⟨by have:=hc.1;simpa using this,fun i c' v hc' hv=> ?_⟩
    have h2:=hc.2 (i+1) c' v (by simpa using hc') (by simpa using hv)
    cases c'<;>simp only[CP]at h2⊢
    ·refine⟨h2.1,h2.2.mono (fun b hb hn=>⟨hn, ?_⟩)⟩
     rw[j0,if_neg (by rintro rfl;exact hn (.inl hom))]
    ·exact h2
   obtain⟨E',e1,hE⟩:=s5 r (off:=off+1) h1 hl' (by simp at hle⊢;omega) hr
   exact⟨E',e1,hE⟩
theorem B6.oneCell{A:Nat→Prop}{cs:List SV}{vs:List Value}(h:B6 A w cs vs):∀u∈vs,u.oneCell'=true:=by
 intro u hu;obtain⟨i,hi,he⟩:=List.mem_iff_getElem.1 hu;have hi':i<cs.length:=by rw[←h.1];exact hi
 have h1:=h.2 i cs[i] u (z01 hi') (by rw[←he];exact z01 hi)
 cases hc:cs[i]<;>rw[hc]at h1<;>simp only[CP]at h1
 ·exact h1.2.oneCell h1.1
 ·subst h1;rfl
theorem Fj{A:Nat→Prop}{v:SV}{new:List SV}{y:Value}(hp:su v=some new)(hy:RS P A E w v y):B6 A w new y.cells.toList:=by
 unfold su at hp;split at hp
 ·cases hp
  cases hy with|pv _ _ hy=> ?_
  have:=Fh hy.cellsROs;exact this
 ·cases hp
  cases hy with|agg _ vs hl h1 h2=> ?_
  exact⟨by simpa[Value.cells]using hl,fun i c v hc hv=>zo h1 (z00 hc) (h2 i c v hc (by simpa[Value.cells]using hv))⟩
 ·cases hp
theorem Ql(h:Rel P O0 w0 F s E tmps w){ty:TypeId}{v xa:SV}{s':St}{x y:Value}(hs:Il (gq P ty) s xa v=some s')(hx:RS P (fun b=>E.om b∨F b) E w xa x)(hg:mq s v)(hy:RS P (fun b=>E.om b∨F b) E w v y):
  ∃w' E',(Instr.storeAt ty x y).run P w= .ok () w'∧Rel P O0 w0 F s' E' tmps w':=by
 unfold Il at hs;split at hs
 ·rename_i o off;cases hx with|ptr=> ?_
  unfold N8 at hs;split at hs
  ·rename_i e cs hl;obtain⟨vs,hheap,hsz,_⟩:=h.objCells hl;split at hs
   ·rename_i z hT;unfold C3 at hs;split at hs
    ·rename_i new hnew;split at hs<;>cases hs
     rename_i hc;obtain⟨hc1,hc2,hc3⟩:=hc;have hcp:=Fj hnew hy;obtain⟨E',_,hE⟩:=s5 new (off:=off) h hl (by omega) hcp
     obtain⟨d',ii,hu,hi',hsz',_⟩:=ka (w:=w) hT;have htz:P.cellsOf ty=z:=by simp[Program.cellsOf,hi',hsz']
     have hyl:y.cells.size=z:=by have:=hcp.1;simp at this;omega
     rcases Nat.eq_zero_or_pos z with h0|h0
     ·subst h0;refine⟨_,E', ?_,hE⟩;have he:y.cells= #[]:=Array.eq_empty_of_size_eq_zero hyl;have:∀w:World,w.setCells (E.obj o) off []=w:=fun _=>rfl
      simp[Instr.storeAt,Instr.sureAddr,storeVar,sizeOf,typeInfo,hi',hsz',he,storeCells,this]
     ·exact⟨_,E',o5 w _ _ htz h0 y hyl vs e hheap (by omega) hcp.oneCell,hE⟩
    ·cases hs
   ·rename_i hT;split at hs
    ·rename_i hi;obtain⟨k1,k2,E',hE⟩:=Gr h hl hi hs hg hy;obtain⟨d',ii,hu,hi',hsz',_⟩:=ka (w:=w) hT;have htz:P.cellsOf ty=1:=by simp[Program.cellsOf,hi',hsz']
     refine⟨_,E',o5 w _ _ htz (by omega) y (by rw[k1];rfl) vs e hheap (by omega) (fun u hu=>by rw[k1]at hu;simp at hu;subst hu;exact k2), ?_⟩
     rw[k1];exact hE
    ·cases hs
   ·cases hs
  ·cases hs
 ·exact Py h hs hx hy
 ·cases hs
end
end Go.Ck
namespace Go.Ck
open Go.RowKit
section
variable {P : Program} {O0 : Base} {F : Nat → Prop} {w0 w : World} {s : St} {E : Env} {a : Act}
theorem Ge(h:Rel P O0 w0 F s E a.tmps w){o:Oper}{s':St}(hs:du P o s=some s'):
  ∃r x w' E',(execOp a.eval o).run P w= .ok r w'∧(r= .value x∨(r= .skip∧x=undef))∧Rel P O0 w0 F s' E' (a.put o.dst x).tmps w':=by
 unfold du at hs;split at hs
 ·rename_i d hd;rw[hd];split at hs
  ·unfold Nz at hs;split at hs
   ·rename_i v hv;cases hs
    obtain⟨x,h1,h2⟩:=sm (d:=d) h hv;exact⟨_,x,w,E,h1,.inl rfl,h2⟩
   ·cases hs
  ·unfold yi at hs;split at hs
   ·rename_i hv;cases hs
    obtain⟨x,w',E',h1,h2⟩:=B3 h hv;exact⟨_,x,w',E',h1,.inl rfl,h2⟩
   ·split at hs
    ·rename_i v hv;cases hs
     obtain⟨x,h1,h2⟩:=sm (d:=d) h hv;exact⟨_,x,w,E,h1,.inl rfl,h2⟩
    ·cases hs
 ·rename_i hd;rw[hd];split at hs
  ·rename_i t x v ho;split at hs
   ·rename_i xa va hx hv;obtain⟨w',E',h1,h2⟩:=Ql h hs (cq h hx) (h.ev_good hv) (cq h hv);refine⟨.skip,undef,w',E', ?_,.inr ⟨rfl,rfl⟩,h2⟩;simp[execOp,ho,h1]
   ·cases hs
  ·cases hs
theorem cz(a:Act)(d:Option Nat)(x:Value):(a.put d x).defers=a.defers:=by cases d<;>rfl
end
end Go.Ck
namespace Go.Ck
open Go.RowKit
section
variable {P : Program} {O0 : Base} {F : Nat → Prop} {w0 w : World} {s : St} {E : Env} {a : Act}
def jf(o:Oper):Bool:=match o.dst with
 |none=>false
 |some _=>match o.op with
  | .move _| .assign _| .extract _ _| .makeFunc _ _ _=>true
  |op=>reads op
theorem Uy{o:Oper}{s':St}(hst:jf o=true)(h:Rel P O0 w0 F s E a.tmps w)(hs:du P o s=some s'):
  ∃x E',(execOp a.eval o).run P w= .ok (.value x) w∧Rel P O0 w0 F s' E' (a.put o.dst x).tmps w:=by
 unfold jf at hst;split at hst
 ·cases hst
 ·rename_i d hd;unfold du at hs;simp only[hd]at hs;have viaReads:reads o.op=true→∃x E',(execOp a.eval o).run P w= .ok (.value x) w∧Rel P O0 w0 F s' E' (a.put o.dst x).tmps w:=by
   intro hr;rw[hr]at hs;simp only[if_true]at hs;unfold Nz at hs;split at hs
   ·rename_i v hv;cases hs
    obtain⟨x,h1,h2⟩:=sm (d:=d) h hv;exact⟨x,E,h1,by rw[hd];exact h2⟩
   ·cases hs
  have viaEff:(∀r w',(execOp a.eval o).run P w= .ok r w'→w'=w)→∃x E',(execOp a.eval o).run P w= .ok (.value x) w∧Rel P O0 w0 F s' E' (a.put o.dst x).tmps w:=by
   intro hw;cases hr:reads o.op with
   |true=>exact viaReads hr
   |false=>
    rw[hr]at hs;simp only[Bool.false_eq_true,if_false]at hs;unfold yi at hs;split at hs
    ·rename_i hv;cases hs
     obtain⟨x,w',E',h1,h2⟩:=B3 h hv;have:=hw _ _ h1;subst this;exact⟨x,E',h1,by rw[hd];exact h2⟩
    ·split at hs
     ·rename_i v hv;cases hs
      obtain⟨x,h1,h2⟩:=sm (d:=d) h hv;exact⟨x,E,h1,by rw[hd];exact h2⟩
     ·cases hs
  split at hst
  ·rename_i he;refine viaEff (fun r w' hr=> ?_)
   simp only[execOp,he,Sem.run_pure]at hr;cases hr;rfl
  ·rename_i he;refine viaEff (fun r w' hr=> ?_)
   simp only[execOp,he,Sem.run_pure]at hr;cases hr;rfl
  ·rename_i x i he;refine viaEff (fun r w' hr=> ?_)
   simp only[execOp,he,Sem.run_bind,Instr.extract]at hr;split at hr
   ·split at hr
    ·simp at hr;exact hr.2.symm
    ·simp[stuck]at hr
   ·simp[stuck]at hr
  ·rename_i f x c he;refine viaEff (fun r w' hr=> ?_)
   simp[execOp,he,Instr.makeFunc]at hr;exact hr.2.symm
  ·exact viaReads hst
def ja(ops:Array Oper)(s:St)(j:Nat)(want:Bool):Option Bool:=match ops[j]? with
 |some o=>(match o.dst with
  |some d=>(match aj d s.sl with|some (.pv (.bool b))=>some b|some (.tup [])=>some (!want)|_=>none)
  |none=>none)
 |none=>none
theorem ny(h:Rel P O0 w0 F s E a.tmps w){ops:Array Oper}{j:Nat}{b want:Bool}(hg:ja ops s j want=some b):(yielded ops a.tmps j==some want)=(b==want):=by
 unfold ja at hg;split at hg
 ·rename_i o ho;split at hg
  ·rename_i d hd;split at hg
   ·rename_i b' hl;cases hg
    obtain⟨x,hx,hv⟩:=h.place (.slot d) _ hl;have hv':RS P (fun b=>E.om b∨F b) E w (.pv (.bool b)) x:=hv
    cases hv' with|pv _ _ hv'=> ?_
    cases hv'
    simp only[CV]at hx;simp[yielded,ho,hd,hx]
   ·rename_i hl;cases hg
    obtain⟨x,hx,hv⟩:=h.place (.slot d) _ hl;simp only[ip]at hv;obtain⟨us,rfl,hus⟩:=hv;simp only[CV]at hx;simp[yielded,ho,hd,hx]
   ·cases hg
  ·cases hg
 ·cases hg
end
end Go.Ck
namespace Go.Ck
open Go.RowKit
def c8:List SV→Nat→List (Nat×SV)
 |[],_=> []
 |v::r,i=>(i,v)::c8 r (i+1)
theorem F6:∀(l:List SV) (i d:Nat),aj d (c8 l i)=if i≤d then l[d-i]? else none
 |[],i,d=>by simp[c8,aj]
 |v::r,i,d=>by
  simp only[c8,aj];by_cases h:i=d
  ·subst h;simp
  ·rw[if_neg h,F6 r (i+1) d];by_cases h1:i≤d
   ·rw[if_pos h1,if_pos (by omega),show d-i=(d-(i+1))+1 by omega,List.getElem?_cons_succ]
   ·rw[if_neg h1,if_neg (by omega)]
theorem ij(l:List SV)(d:Nat):aj d (c8 l 0)=l[d]?:=by rw[F6];simp
def SV.ren1(ρ:Nat→Nat):SV→SV
 | .ptr o off=> .ptr (ρ o) off
 |v=>v
def SV.ren(ρ:Nat→Nat):SV→SV
 | .ptr o off=> .ptr (ρ o) off
 | .mp o=> .mp (ρ o)
 | .os o off n=> .os (ρ o) off n
 | .bm f o=> .bm f (ρ o)
 | .fn f caps=> .fn f (caps.map (SV.ren1 ρ))
 |v=>v
def HO.ren(ρ:Nat→Nat):HO→HO
 | .cells e cs=> .cells e (cs.map (SV.ren ρ))
 | .mp es=> .mp es
theorem gn(ρ:Nat→Nat)(h:HO):(h.ren ρ).list=h.list.map (SV.ren ρ):=by cases h<;>rfl
theorem Zi{ρ:Nat→Nat}{v:SV}{e:TypeId}{xs:List PV}:v.ren ρ= .own e xs↔v= .own e xs:=by cases v<;>simp[SV.ren]
theorem H9(ρ:Nat→Nat)(v:SV)(q:Place):(v.ren ρ).on q=v.on q:=by cases v<;>rfl
theorem Zj(ρ:Nat→Nat)(v:SV):ue (v.ren ρ)=ue v:=by cases v<;>rfl
section
variable {P : Program} {w : World}
theorem RS.ren{A A':Nat→Prop}{E E':Env}{ρ:Nat→Nat}{v:SV}{x:Value}(h:RS P A E w v x)(hA:∀b,¬A b→¬A' b)(hob:∀o,v.pts o=true→E'.obj (ρ o)=E.obj o)(hon:∀q,v.on q=false):RS P A' E' w (v.ren ρ) x:=by
 cases h with
 |pv p x h=>exact .pv p x (h.sub hA)
 |nils=>exact .nils
 |al q=>have:=hon q;simp[SV.on]at this
 |vw q e off n x h=>have:=hon q;simp[SV.on]at this
 |ptr o off=>
  have h1:=hob o (by simp[SV.pts])
  have:=RS.ptr (P:=P) (A:=A') (E:=E') (w:=w) (ρ o) off
  rwa [h1]at this
 |ea q e i j b h=>have:=hon q;simp[SV.on]at this
 |ra c j vs ad hs h hm=>exact .ra c j vs ad hs (h.sub hA) (fun i v hv=>⟨hA _ (hm i v hv).1,(hm i v hv).2⟩)
 |fn f caps vs hl h1 h=>
  refine .fn f (caps.map (SV.ren1 ρ)) vs (by simpa using hl) ?_ (fun i c v hc hv=> ?_)
  ·rw[z09];refine z02.2 (fun c hc=> ?_)
   have:=z02.1 h1 c hc;cases c<;>simp[dr]at this<;>rfl
  ·rw[z04,Option.map_eq_some_iff]at hc;obtain⟨c0,hc0,rfl⟩:=hc;have h2:=h i c0 v hc0 hv;have hm:=z00 hc0;have h3:=z02.1 h1 c0 hm;cases c0<;>simp[dr]at h3
   ·cases h2 with|pv _ _ h2=>exact .pv _ _ (h2.sub hA)
   ·rename_i o off;cases h2
    have h4:=hob o (by simp only[SV.pts,z05];exact⟨_,hm,by simp⟩)
    have:=RS.ptr (P:=P) (A:=A') (E:=E') (w:=w) (ρ o) off
    rwa [h4]at this
 |agg cs vs hl h1 h=>
  refine .agg cs vs hl h1 (fun i c v hc hv=> ?_)
  have h2:=zo h1 (z00 hc) (h i c v hc hv);exact(h2.sub hA).rs
 |mp o=>
  have h1:=hob o (by simp[SV.pts])
  have:=RS.mp (P:=P) (A:=A') (E:=E') (w:=w) (ρ o)
  rwa [h1]at this
 |yl l=>exact .yl l
 |lit xs g cur e fr h1 h2 h3=>exact .lit xs g cur e fr (hA _ h1) h2 (h3.sub hA)
 |bm f o=>
  have h1:=hob o (by simp[SV.pts])
  have:=RS.bm (P:=P) (A:=A') (E:=E') (w:=w) f (ρ o)
  rwa [h1]at this
 |os o off n cap hc=>
  have h1:=hob o (by simp[SV.pts])
  have:=RS.os (P:=P) (A:=A') (E:=E') (w:=w) (ρ o) off n cap hc
  rwa [h1]at this
theorem RS.unren{A A':Nat→Prop}{E E':Env}{ρ:Nat→Nat}{v:SV}{x:Value}(h:RS P A E w (v.ren ρ) x)(hA:∀b,¬A b→¬A' b)(hob:∀o,v.pts o=true→E.obj (ρ o)=E'.obj o)(hon:∀q,v.on q=false):RS P A' E' w v x:=by
 cases v with
 |pv p=>cases h with|pv _ _ h=>exact .pv p x (h.sub hA)
 |nils=>cases h;exact .nils
 |al q=>have:=hon q;simp[SV.on]at this
 |vw q e off n=>have:=hon q;simp[SV.on]at this
 |ptr o off=>
  have h1:=hob o (by simp[SV.pts])
  cases h
  rw[h1];exact .ptr o off
 |ea q e i j=>have:=hon q;simp[SV.on]at this
 |ra c j=>cases h with|ra _ _ vs ad hs h hm=>exact .ra c j vs ad hs (h.sub hA) (fun i v hv=>⟨hA _ (hm i v hv).1,(hm i v hv).2⟩)
 |fn f caps=>
  cases h with|fn _ _ vs hl h1 h=> ?_
  rw[z09]at h1;have hs:caps.all dr=true:=by
   refine z02.2 (fun c hc=> ?_)
   have:=z02.1 h1 c hc;cases c<;>simp[SV.ren1,dr]at this<;>rfl
  refine .fn f caps vs (by simpa using hl) hs (fun i c v hc hv=> ?_)
  have h2:=h i (c.ren1 ρ) v (by rw[z04,hc];rfl) hv
  have hm:=z00 hc;have h3:=z02.1 hs c hm;cases c<;>simp[dr]at h3
  ·cases h2 with|pv _ _ h2=>exact .pv _ _ (h2.sub hA)
  ·rename_i o off;have h4:=hob o (by simp only[SV.pts,z05];exact⟨_,hm,by simp⟩)
   simp only[SV.ren1]at h2;cases h2
   rw[h4];exact .ptr o off
 |agg cs=>
  cases h with|agg _ vs hl h1 h=> ?_
  refine .agg cs vs hl h1 (fun i c v hc hv=> ?_)
  have h2:=zo h1 (z00 hc) (h i c v hc hv);exact(h2.sub hA).rs
 |yl l=>cases h;exact .yl l
 |lit xs=>cases h with|lit _ g cur e fr h1 h2 h3=>exact .lit xs g cur e fr (hA _ h1) h2 (h3.sub hA)
 |bm f o=>
  have h1:=hob o (by simp[SV.pts])
  cases h
  rw[h1];exact .bm f o
 |os o off n=>
  have h1:=hob o (by simp[SV.pts])
  cases h with|os _ _ _ cap hc=> ?_
  rw[h1];exact .os o off n _ hc
 |mp o=>
  have h1:=hob o (by simp[SV.pts])
  cases h
  rw[h1];exact .mp o
 |own e xs=>cases h
 |tup vs=>cases h
 |dead=>cases h
end
def ve(us:List Value):Value:=match us with
 |[u]=>u
 |us=> .tuple us.toArray
def d9(E:Env)(H:List (Nat×HO)):Nat→Option Nat:=fun o=>match aj o H with
 |some _=>some (E.obj o)
 |none=>none
def km:List Nat:=[0,1,56,2,57,49,28,3,61,58,42,50,38,29,17,4,62,47,59,36,45,43,51,22,53,39,33,30,24,18,12,5,63,55,48,27,60,41,37,16,46,35,44,21,52,32,23,11,54,26,40,15,34,20,31,10,25,14,19,9,13,8,7,6]
def Q4(P:Program):List (Nat×List Nat):=match P.globals.findIdx? (fun g=>g.name== "math/bits.deBruijn64tab")with
 |some g=> [(g,km)]
 |none=> []
def Gj(P:Program)(A:Nat→Prop)(w:World):Prop:=∀g l,(g,l)∈Q4 P→¬A g∧g<w.heap.size∧∀(i n:Nat),l[i]?=some n→w.cell? ⟨g,i,none⟩=some (.int .u8 n)
theorem Gj.mono{P:Program}{A A':Nat→Prop}{w w':World}(h:Gj P A w)(hA:∀b,b<w.heap.size→¬A b→¬A' b∧w'.heap[b]?=w.heap[b]?)(hs:w.heap.size≤w'.heap.size):Gj P A' w':=fun g l hg=>by
 obtain⟨h1,h2,h3⟩:=h g l hg;obtain⟨k1,k2⟩:=hA g h2 h1;exact⟨k1,by omega,fun i n hn=>by rw[←h3 i n hn];exact World.cell?_of_block k2⟩
def Fn(P:Program)(f:FuncId)(H:List (Nat×HO))(args:List SV)(Ψ:List SV→List (Nat×HO)→Prop):Prop:=
 (∃fn,P.funcs[f]?=some fn∧(fn.name== "runtime.NumGoroutine")=false∧fn.body.isNone=false)∧∀(F:Nat→Prop) (w:World) (E:Env) (vals:List Value),vals.length=args.length→Gj P (fun b=>E.om b∨F b) w→Rel P ⟨E.om,d9 E H⟩ w F ⟨vals.length,c8 args 0,H⟩ E vals.toArray w→
  Calls P f vals.toArray w (fun
   | .returned v,w'=> ∃rs H' E' us,Ψ rs H'∧us.length=rs.length∧v=ve us∧Rel P ⟨E.om,d9 E H⟩ w F ⟨us.length,c8 rs 0,H'⟩ E' us.toArray w'
   | .panicked _,_=>False
   | .outgrown,_=>False)
end Go.Ck
namespace Go.Ck
open Go.RowKit
def xz(E:Env)(ρ:Nat→Nat)(H:List (Nat×HO))(args:List SV)(vals:List Value)(b:Nat):Prop:=
 (∃o y,aj o H=some y∧E.obj (ρ o)=b)∨(∃o y i e xs,aj o H=some y∧y.list[i]?=some (.own e xs)∧(E.hdr (.cell (ρ o) i)).ownBlock=some b)∨
 (∃(i:Nat) (e:TypeId) (xs:List PV) (x:Value),args[i]?=some (.own e xs)∧vals[i]?=some x∧x.ownBlock=some b)
def Gq(E:Env)(ρ:Nat→Nat)(H:List (Nat×HO))(args:List SV)(vals:List Value):Env where
 obj o:=E.obj (ρ o)
 hdr p:=match p with
  | .slot i=>vals.getD i undef
  | .cell o i=>E.hdr (.cell (ρ o) i)
  | .part _ _=>undef
 om:=xz E ρ H args vals
structure Args (P:Program) (A:Nat→Prop) (s:St) (E:Env) (ρ:Nat→Nat) (H:List (Nat×HO)) (Lt:Nat→Prop) (w:World) (args:List SV) (vals:List Value):Prop where
 len:vals.length=args.length
 own:∀(i:Nat) (e:TypeId) (xs:List PV) (x:Value),args[i]?=some (.own e xs)→vals[i]?=some x→ki P A w e x xs∧∀b,x.ownBlock=some b→E.om b∧jm s E b
 easy:∀(i:Nat) (c:SV) (x:Value),args[i]?=some c→vals[i]?=some x→(∃e xs,c= .own e xs)∨(c.easy=true∧(∀q,c.on q=false)∧RS P (fun b=>A b∧¬Lt b) (Gq E ρ H args vals) w c x)
 pts:∀(i:Nat) (c:SV) (o:Nat),args[i]?=some c→c.pts o=true→∃z,aj o H=some z
 dist:∀(i j:Nat) (e:TypeId) (xs:List PV) (e':TypeId) (ys:List PV) (x y:Value) (b:Nat),args[i]?=some (.own e xs)→args[j]?=some (.own e' ys)→vals[i]?=some x→vals[j]?=some y→x.ownBlock=some b→y.ownBlock=some b→i=j
section
variable {P : Program} {O0 : Base} {F : Nat → Prop} {w0 w : World} {s : St} {E : Env} {tmps : Array Value}
theorem Cr{H:List (Nat×HO)}{n:Nat}{sl:List (Nat×SV)}{o i:Nat}{v:SV}(h:(St.mk n sl H).at (.cell o i)=some v):∃y,aj o H=some y∧y.list[i]?=some v:=by
 rw[cv]at h;split at h
 ·rename_i y hy;exact⟨y,hy,h⟩
 ·cases h
theorem yn(h:Rel P O0 w0 F s E tmps w){ρ:Nat→Nat}{H:List (Nat×HO)}{Lt:Nat→Prop}{args:List SV}{vals:List Value}(ha:Args P (fun b=>E.om b∨F b) s E ρ H Lt w args vals)
  (hH:∀o y,aj o H=some y→aj (ρ o) s.hp=some (y.ren ρ)) {b:Nat} (hb:xz E ρ H args vals b):E.om b:=by
 rcases hb with⟨o,y,h1,rfl⟩|⟨o,y,i,e,xs,h1,h2,h3⟩|⟨i,e,xs,x,h1,h2,h3⟩
 ·exact(h.obj _ _ (hH o y h1)).1
 ·have hat:s.at (.cell (ρ o) i)=some (.own e xs):=by
   rw[cv,hH o y h1];simp only[gn,z04,h2,z06];rfl
  obtain⟨_,_,_,_,h4⟩:=h.place _ _ hat;exact h4 b h3
 ·exact((ha.own i e xs x h1 h2).2 b h3).1
theorem Ln(h:Rel P O0 w0 F s E tmps w){ρ:Nat→Nat}{H:List (Nat×HO)}{Lt:Nat→Prop}{args:List SV}{vals:List Value}
  (hH:∀o y,aj o H=some y→aj (ρ o) s.hp=some (y.ren ρ)) (hinj:∀o o' y y',aj o H=some y→aj o' H=some y'→ρ o=ρ o'→o=o')
  (hHp:∀o y c o',aj o H=some y→c∈y.list→c.pts o'=true→∃z,aj o' H=some z)
  (hLt:∀b,Lt b→¬xz E ρ H args vals b) (ha:Args P (fun b=>E.om b∨F b) s E ρ H Lt w args vals):
  Rel P ⟨(Gq E ρ H args vals).om,d9 (Gq E ρ H args vals) H⟩ w (fun b=>(E.om b∨F b)∧¬xz E ρ H args vals b∧¬Lt b) ⟨vals.length,c8 args 0,H⟩ (Gq E ρ H args vals) vals.toArray w:=by
 have hom:∀b,xz E ρ H args vals b→E.om b:=fun b hb=>yn h ha hH hb
 have hA:∀b,¬(E.om b∨F b)→¬(xz E ρ H args vals b∨((E.om b∨F b)∧¬xz E ρ H args vals b∧¬Lt b)):=by
  rintro b hn (h1|h1)
  ·exact hn (.inl (hom b h1))
  ·exact hn h1.1
 have hA2:∀b,¬((E.om b∨F b)∧¬Lt b)→¬(xz E ρ H args vals b∨((E.om b∨F b)∧¬xz E ρ H args vals b∧¬Lt b)):=by
  rintro b hn (h1|h1)
  ·exact hn ⟨.inl (hom b h1),fun h2=>hLt b h2 h1⟩
  ·exact hn ⟨h1.1,h1.2.2⟩
 have hat:∀ {o i v y},aj o H=some y→y.list[i]?=some v→s.at (.cell (ρ o) i)=some (v.ren ρ):=by
  intro o i v y h1 h2;rw[cv,hH o y h1];simp only[gn,z04,h2,z06]
 have hslot:∀d,(St.mk vals.length (c8 args 0) H).at (.slot d)=args[d]?:=fun d=>ij args d
 have hown:∀p e xs,(St.mk vals.length (c8 args 0) H).at p=some (.own e xs)→(∃(i:Nat) (x:Value),p= .slot i∧args[i]?=some (.own e xs)∧vals[i]?=some x∧(Gq E ρ H args vals).hdr p=x)∨
   (∃o i y,p= .cell o i∧aj o H=some y∧y.list[i]?=some (.own e xs)∧s.at (.cell (ρ o) i)=some (.own e xs)):=by
  intro p e xs hp;cases p with
  |slot d=>
   rw[hslot]at hp;have hd:d<vals.length:=by rw[ha.len];exact(z03.1 hp).1
   refine .inl ⟨d,vals[d],rfl,hp,z01 hd, ?_⟩;simp[Gq,z08,hd]
  |part d i=>
   simp only[St.at]at hp;rw[ij]at hp;split at hp
   ·rename_i vs hvs;have hd:d<vals.length:=by rw[ha.len];exact(z03.1 hvs).1
    rcases ha.easy d _ _ hvs (z01 hd)with⟨_,_,h1⟩|⟨h1,_⟩
    ·cases h1
    ·simp[SV.easy]at h1
   ·cases hp
  |cell o i=>
   obtain⟨y,h1,h2⟩:=Cr hp;exact .inr ⟨o,i,y,rfl,h1,h2,hat h1 h2⟩
 refine { place:= ?_,obj:= ?_,size:=by simp,i1:= ?_,i2:= ?_,i3:= ?_,om_lt:= ?_,om0:=fun b hb=> .inl hb,na:= ?_,np:= ?_,gr:=nc _ _,flt:= ?_,ob:= ?_ }
 ·intro p v hp;cases p with
  |slot d=>
   rw[hslot]at hp;have hd:d<vals.length:=by rw[ha.len];exact(z03.1 hp).1
   have hv:vals[d]?=some vals[d]:=z01 hd;refine⟨vals[d],by simp[CV,hd], ?_⟩
   have hh:(Gq E ρ H args vals).hdr (.slot d)=vals[d]:=by simp[Gq,z08,hd]
   rcases ha.easy d v _ hp hv with⟨e,xs,rfl⟩|⟨h1,h2,h3⟩
   ·obtain⟨k1,k2⟩:=ha.own d e xs _ hp hv;simp only[ip,hh];exact⟨trivial,k1.kept (fun b _ hn=>⟨hA b hn,rfl⟩) (fun _ _=>rfl),fun b hb=> .inr (.inr ⟨d,e,xs,_,hp,hv,hb⟩)⟩
   ·exact pu h1 (.inr (h3.grow (fun b _ hn=>⟨hA2 b hn,rfl⟩)))
  |part d i=>
   simp only[St.at]at hp;rw[ij]at hp;split at hp
   ·rename_i vs hvs;have hd:d<vals.length:=by rw[ha.len];exact(z03.1 hvs).1
    rcases ha.easy d _ _ hvs (z01 hd)with⟨_,_,h1⟩|⟨h1,_⟩
    ·cases h1
    ·simp[SV.easy]at h1
   ·cases hp
  |cell o i=>
   obtain⟨y,h1,h2⟩:=Cr hp;have h3:=hat h1 h2;obtain⟨x,hx,hv⟩:=h.place _ _ h3;refine⟨x,hx, ?_⟩;have hnon:∀q,v.on q=false:=by
    intro q;cases hq:v.on q with
    |false=>rfl
    |true=>
     obtain⟨⟨d,hd⟩,_⟩:=h.na _ _ q h3 (by rw[H9];exact hq)
     cases hd
   cases hve:v.easy with
   |true=>
    have hr:v= .dead∨RS P (fun b=>E.om b∨F b) E w (v.ren ρ) x:=by
     cases v<;>simp[SV.easy]at hve<;>first|exact .inl rfl|exact .inr hv
    exact pu hve (hr.imp id fun h4=>h4.unren hA (fun _ _=>rfl) hnon)
   |false=>
    cases v<;>simp[SV.easy]at hve
    ·rename_i e xs;obtain⟨k1,k2,k3⟩:=hv;exact⟨k1,k2.kept (fun b _ hn=>⟨hA b hn,rfl⟩) (fun _ _=>rfl),fun b hb=> .inr (.inl ⟨o,y,i,e,xs,h1,h2,hb⟩)⟩
    ·exact hv
 ·intro o y hy;obtain⟨h1,h2⟩:=h.obj _ _ (hH o y hy);refine⟨.inl ⟨o,y,hy,rfl⟩, ?_⟩;cases y with
  |cells e cs=>
   obtain⟨vs,k1,k2,k3⟩:=h2;exact⟨vs,k1,by simpa using k2,fun c hc=>by rw[←Zj ρ c];exact k3 _ (List.mem_map_of_mem hc)⟩
  |mp es=>
   obtain⟨ms,c,k1,k2,k3⟩:=h2;exact⟨ms,c,k1,k2,fun i kv m hk hm=>⟨(k3 i kv m hk hm).1.sub hA,(k3 i kv m hk hm).2.sub hA⟩⟩
 ·intro o o' y y' hy hy' he;exact hinj o o' y y' hy hy' (h.i1 _ _ _ _ (hH o y hy) (hH o' y' hy') he)
 ·intro p q e xs e' ys b hp hq hpb hqb;rcases hown p e xs hp with⟨i,x,rfl,a1,a2,a3⟩|⟨o,i,y,rfl,a1,a2,a3⟩
  ·rw[a3]at hpb;rcases hown q e' ys hq with⟨j,x',rfl,b1,b2,b3⟩|⟨o',j,y',rfl,b1,b2,b3⟩
   ·rw[b3]at hqb;rw[ha.dist i j e xs e' ys x x' b a1 b1 a2 b2 hpb hqb]
   ·exact absurd hqb (((ha.own i e xs x a1 a2).2 b hpb).2.2 _ _ _ b3)
  ·rcases hown q e' ys hq with⟨j,x',rfl,b1,b2,b3⟩|⟨o',j,y',rfl,b1,b2,b3⟩
   ·rw[b3]at hqb;exact absurd hpb (((ha.own j e' ys x' b1 b2).2 b hqb).2.2 _ _ _ a3)
   ·have:=h.i2 _ _ _ _ _ _ b a3 b3 hpb hqb;simp only[Place.cell.injEq]at this;rw[hinj o o' y y' a1 b1 this.1,this.2]
 ·intro p e xs o y b hp hy hpb;rcases hown p e xs hp with⟨i,x,rfl,a1,a2,a3⟩|⟨o',i,y',rfl,a1,a2,a3⟩
  ·rw[a3]at hpb;exact((ha.own i e xs x a1 a2).2 b hpb).2.1 _ _ (hH o y hy)
  ·exact h.i3 _ _ _ _ _ b a3 (hH o y hy) hpb
 ·intro b hb;exact⟨(h.om_lt b (hom b hb)).1,fun h1=>h1.2.1 hb⟩
 ·intro p v q hp hq;cases p with
  |slot d=>
   rw[hslot]at hp;have hd:d<vals.length:=by rw[ha.len];exact(z03.1 hp).1
   rcases ha.easy d v _ hp (z01 hd)with⟨e,xs,rfl⟩|⟨_,h2,_⟩
   ·simp[SV.on]at hq
   ·rw[h2 q]at hq;cases hq
  |part d i=>
   simp only[St.at]at hp;rw[ij]at hp;split at hp
   ·rename_i vs hvs;have hd:d<vals.length:=by rw[ha.len];exact(z03.1 hvs).1
    rcases ha.easy d _ _ hvs (z01 hd)with⟨_,_,h1⟩|⟨h1,_⟩
    ·cases h1
    ·simp[SV.easy]at h1
   ·cases hp
  |cell o i=>
   obtain⟨y,h1,h2⟩:=Cr hp;obtain⟨⟨d,hd⟩,_⟩:=h.na _ _ q (hat h1 h2) (by rw[H9];exact hq)
   cases hd
 ·intro p v o hp ho;cases p with
  |slot d=>
   rw[hslot]at hp;exact ha.pts d v o hp ho
  |part d i=>
   simp only[St.at]at hp;rw[ij]at hp;split at hp
   ·rename_i vs hvs;have hd:d<vals.length:=by rw[ha.len];exact(z03.1 hvs).1
    rcases ha.easy d _ _ hvs (z01 hd)with⟨_,_,h1⟩|⟨h1,_⟩
    ·cases h1
    ·simp[SV.easy]at h1
   ·cases hp
  |cell o' i=>
   obtain⟨y,h1,h2⟩:=Cr hp;exact hHp o' y v o h1 (z00 h2) ho
 ·rintro b ⟨h1|h1,_⟩
  ·exact(h.om_lt b h1).1
  ·exact Nat.lt_of_lt_of_le (h.flt b h1) h.gr.size
 ·intro o b hb;simp only[d9]at hb;split at hb
  ·rename_i y hy;cases hb
   exact⟨rfl,y,hy⟩
  ·cases hb
end
end Go.Ck
namespace Go.Ck
open Go.RowKit
mutual
def PV.clo:PV→Bool
 | .sl _ []=>true
 | .sl _ (_::_)=>false
 | .agg cs=>vg cs
 | .iface _ v=>v.clo
 |_=>true
def vg:List PV→Bool
 |[]=>true
 |p::r=>p.clo&&vg r
end
def SV.clo:SV→Bool
 | .pv p=>p.clo
 | .own _ xs=>vg xs
 | .agg cs=>cs.all fun| .pv p=>p.clo|_=>true
 | .fn _ caps=>caps.all fun| .pv p=>p.clo|_=>true
 | .ra _ _=>false
 | .lit _=>false
 |_=>true
def HO.clo:HO→Bool
 | .cells _ cs=>cs.all SV.clo
 | .mp es=>es.all fun kv=>kv.1.clo&&kv.2.clo
theorem Dh:∀ {l:List PV},vg l=true→∀p∈l,p.clo=true
 |[],_,_,h=>by cases h
 |q::r,hl,p,h=>by
  simp only[vg,Bool.and_eq_true]at hl;rcases List.mem_cons.1 h with rfl|h
  ·exact hl.1
  ·exact Dh hl.2 p h
theorem ad7{p:PV}(h:p.clo=true):∀c∈p.cells,c.clo=true:=by
 intro c hc;cases p<;>simp only[PV.cells]at hc
 case agg cs=>simp only[PV.clo]at h;exact Dh h c hc
 all_goals (simp at hc;subst hc;exact h)
theorem RO.clo{A A':Nat→Prop}{w:World}{p:PV}{x:Value}(hr:RO A w p x)(hc:p.clo=true):RO A' w p x:=by
 induction hr with
 |int k n=>exact .int k n
 |bool b=>exact .bool b
 |str s=>exact .str s
 |sl z xs vs a cap hl h1 hr hm hz hb hcap ih=>
  cases xs with
  |cons x r=>simp[PV.clo]at hc
  |nil=>
   have:vs=[]:=z07 (by simpa[da]using hl)
   subst this;exact .sl z [] [] a cap rfl (by simp[da]) (by simp) (by simp) (by simp) hb hcap
 |agg cs vs hl h1 hr ih=>
  simp only[PV.clo]at hc;exact .agg cs vs hl h1 (fun i c v hi hv=>ih i c v hi hv (Dh hc c (z00 hi)))
 |iface t v x h ih=>simp only[PV.clo]at hc;exact .iface t v x (ih hc)
 |nili=>exact .nili
 |nilp=>exact .nilp
 |nilf=>exact .nilf
theorem iu.clo{A A':Nat→Prop}{w:World}{ps:List PV}{xs:List Value}(hr:iu A w ps xs)(hc:∀p∈ps,p.clo=true):iu A' w ps xs:=
 ⟨hr.1,hr.2.1,fun i c v h1 h2=>(hr.2.2 i c v h1 h2).clo (hc c (z00 h1))⟩
theorem ki.clo{P:Program}{A A':Nat→Prop}{w:World}{e:TypeId}{x:Value}{xs:List PV}(h:ki P A w e x xs)(hc:vg xs=true):ki P A' w e x xs:=by
 obtain⟨cs,h1,h2,h3,h4⟩:=h;refine⟨cs,h1,h2.clo (fun p hp=> ?_),h3,h4⟩
 simp only[da,List.mem_flatMap]at hp;obtain⟨q,hq,hp⟩:=hp;exact ad7 (Dh hc q hq) p hp
section
variable {P : Program}
theorem RS.clo{A A':Nat→Prop}{E:Env}{w:World}{v:SV}{x:Value}(h:RS P A E w v x)(hc:v.clo=true):RS P A' E w v x:=by
 cases h with
 |pv p x h=>exact .pv p x (h.clo hc)
 |nils=>exact .nils
 |al q=>exact .al q
 |vw q e off n x h=>exact .vw q e off n x h
 |ptr o off=>exact .ptr o off
 |ea q e i j b h=>exact .ea q e i j b h
 |ra c j vs ad hs h hm=>simp[SV.clo]at hc
 |fn f caps vs hl h1 h=>
  refine .fn f caps vs hl h1 (fun i c v hi hv=> ?_)
  have h2:=h i c v hi hv;have hm:=z00 hi;have h3:=z02.1 h1 c hm;simp only[SV.clo]at hc;have h4:=z02.1 hc c hm;cases c<;>simp[dr]at h3
  ·cases h2 with|pv _ _ h2=>exact .pv _ _ (h2.clo h4)
  ·cases h2;exact .ptr _ _
 |agg cs vs hl h1 h=>
  refine .agg cs vs hl h1 (fun i c v hi hv=> ?_)
  have hm:=z00 hi;have h2:=zo h1 hm (h i c v hi hv);simp only[SV.clo]at hc;have h4:=z02.1 hc c hm;cases c<;>simp only[CP]at h2
  ·exact .pv _ _ (h2.2.clo h4)
  ·subst h2;exact .nils
 |mp o=>exact .mp o
 |yl l=>exact .yl l
 |bm f o=>exact .bm f o
 |os o off n cap hcc=>exact .os o off n cap hcc
 |lit xs g cur e fr h1 h2 h3=>simp[SV.clo]at hc
theorem RS.move{A A':Nat→Prop}{E E':Env}{w w':World}{v:SV}{x:Value}(h:RS P A E w v x)(hg:∀b,b<w.heap.size→¬A b→¬A' b∧w'.heap[b]?=w.heap[b]?)(hob:∀o,v.pts o=true→E'.obj o=E.obj o)(hh:∀q,v.on q=true→E'.hdr q=E.hdr q):RS P A' E' w' v x:=by
 induction h with
 |pv q y h=>exact .pv q y (h.mono hg)
 |nils=>exact .nils
 |al q=>rw[←hh q (by simp[SV.on])];exact .al q
 |vw q e off n y h=>exact .vw q e off n y (by rw[hh q (by simp[SV.on])];exact h)
 |ptr o off=>rw[←hob o (by simp[SV.pts])];exact .ptr o off
 |ea q e i j b h=>exact .ea q e i j b (by rw[hh q (by simp[SV.on])];exact h)
 |ra c j vs ad hs h hm=>
  refine .ra c j vs ad hs (h.mono hg) (fun i v hv=> ?_)
  obtain⟨hA,hc⟩:=hm i v hv;obtain⟨hA',hb⟩:=hg _ (World.block_lt_of_cell? w _ hc) hA;exact⟨hA',by rw[World.cell?_of_block (w:=w) hb];exact hc⟩
 |fn f caps vs hl h1 h ih=>
  refine .fn f caps vs hl h1 (fun i c v hc hv=>ih i c v hc hv (fun o ho=>hob o ?_) (fun q hq=> ?_))
  ·have hm:=z00 hc;have h3:=z02.1 h1 c hm;cases c<;>simp[dr]at h3<;>simp[SV.pts]at ho
   subst ho;simp only[SV.pts,z05];exact⟨_,hm,by simp⟩
  ·have h3:=z02.1 h1 c (z00 hc);cases c<;>simp[dr]at h3<;>simp[SV.on]at hq
 |agg cs vs hl h1 h ih=>
  obtain hpl:=fun(c:SV) hc=>j3 h1 c hc
  refine .agg cs vs hl h1 (fun i c v hc hv=>ih i c v hc hv (fun o ho=> ?_) (fun q hq=> ?_))
  ·rw[(hpl c (z00 hc)).1 o]at ho;cases ho
  ·rw[(hpl c (z00 hc)).2.1 q]at hq;cases hq
 |mp o=>rw[←hob o (by simp[SV.pts])];exact .mp o
 |yl l=>exact .yl l
 |bm f o=>rw[←hob o (by simp[SV.pts])];exact .bm f o
 |os o off n cap hc=>rw[←hob o (by simp[SV.pts])];exact .os o off n cap hc
 |lit xs g cur e fr h1 h2 h3=>
  have hlt:=(Array.getElem?_eq_some_iff.1 h2).1;obtain⟨a1,a2⟩:=hg _ hlt h1;exact .lit xs g cur e fr a1 (by rw[a2];exact h2) (h3.mono hg)
theorem Ow{ρ:Nat→Nat}{v:SV}{q:Nat}(h:(v.ren ρ).pts q=true):∃o,v.pts o=true∧ρ o=q:=by
 cases v<;>simp[SV.ren,SV.pts]at h
 case ptr o off=>exact⟨o,by simp[SV.pts],h⟩
 case mp o=>exact⟨o,by simp[SV.pts],h⟩
 case os o off n=>exact⟨o,by simp[SV.pts],h⟩
 case bm f o=>exact⟨o,by simp[SV.pts],h⟩
 case fn f caps=>
  obtain⟨c,hc,h1⟩:=h;cases c<;>simp[SV.ren1]at h1
  rename_i o off;exact⟨o,by simp only[SV.pts,z05];exact⟨_,hc,by simp⟩,h1⟩
end
end Go.Ck
