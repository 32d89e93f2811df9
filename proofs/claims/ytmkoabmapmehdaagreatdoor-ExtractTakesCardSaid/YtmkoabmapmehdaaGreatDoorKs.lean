/- What is proved here: parts of the proofs of this seat's statements (a verified evaluator for calls over pure values, its laws, and contracts of functions). No condition. -/
import Derived.Test.YtmkoabmapmehdaaGreatDoorKr
import Derived.Sort.Grow
import Derived.Sort.EncStr
import Derived.Test.YtmkoabmapmehdaaGreatDoorKd
import Derived.Test.YtmkoabmapmehdaaGreatDoorKj
import Derived.Lib.SlBytesConst
set_option linter.all false
open List renaming getElem?_map→z00,getElem?_take→z02,all_eq_true→z04,getElem?_eq_none→z10,length_pos_iff→z11,ext_getElem?→z12,mem_map→z13
open Array renaming getElem?_toList→z01,setIfInBounds_eq_of_size_le→z03,getElem?_append_right→z06,getElem?_eq_some_iff→z07,getElem?_append_left→z08
open Nat renaming mul_one→z05
open Option renaming map_eq_some_iff→z09
namespace Go.Ck
open Go.RowKit
def c6(ss:List (List UInt8)):List PV:=ss.map .str
def j6(ss:List (List UInt8)):List (List UInt8):=ss.mergeSort fun x y=>decide (x≤y)
theorem Es(ss:List (List UInt8)):(j6 ss).length=ss.length:=by simp[j6]
def agx(P:Program)(f:FuncId):Prop:=∀(blk off cap:Nat) (ss:List (List UInt8)) (w:World),Go.Sort.Holds Go.Proofs.encStr w blk off ss.toArray→blk<w.heap.size→ss.length<4611686018427387904→
 Calls P f #[.slice (some ⟨blk,off,none⟩) ss.length cap] w fun e w'=>e= .returned (.tuple #[])∧∃n os,w'=Go.Sort.grow (Go.Sort.putRow Go.Proofs.encStr (Go.Sort.ahead w n) blk off (ss.mergeSort fun x y=>decide (x≤y)).toArray) os
theorem cy(ss:List (List UInt8)):(c6 ss).length=ss.length:=by simp[c6]
theorem Rg(ss:List (List UInt8)):(c6 ss).all PV.one=true:=by
 simp only[c6,List.all_map,z04];intro x _;rfl
theorem M3(ss:List (List UInt8)):da (c6 ss)=c6 ss:=sk (Rg ss)
theorem akc{A:Nat→Prop}{w:World}{ss:List (List UInt8)}{cs:List Value}(h:iu A w (c6 ss) cs):cs=ss.map Go.Proofs.encStr:=by
 refine z12 (fun i=> ?_)
 rw[z00];cases hs:ss[i]? with
 |none=>
  have:ss.length≤i:=List.getElem?_eq_none_iff.1 hs;have hl:=h.1;rw[cy]at hl;rw[z10 (by omega)];rfl
 |some l=>
  have hg:(c6 ss)[i]?=some (.str l):=by unfold c6;rw[z00,hs];rfl
  obtain⟨v,h1,h2⟩:=h.at hg;cases h2
  rw[h1];rfl
theorem Yd(A:Nat→Prop)(w:World)(ss:List (List UInt8)):iu A w (c6 ss) (ss.map Go.Proofs.encStr):=by
 refine⟨by simp[cy],fun c hc=>z04.1 (Rg ss) c hc,fun i c v hc hv=> ?_⟩
 unfold c6 at hc;rw[z00,z09]at hc hv;obtain⟨l,hl,rfl⟩:=hc;obtain⟨l',hl',rfl⟩:=hv;rw[hl]at hl';cases hl'
 exact .str l
section
variable {P : Program} {R : Option Nat} {Φ : Exit → Cx → St → Prop} {k : List It} {C : Cx} {s : St}
theorem Ye{all:Array Oper}{o:Oper}{r:List Oper}{c:Call}{f:FuncId}{x:Operand}{p:Place}{e d:Nat}{ss:List (List UInt8)}(hS:agx P f)(hfn:∃fn,P.funcs[f]?=some fn∧(fn.name== "runtime.NumGoroutine")=false∧fn.body.isNone=false)
  (hx:ev s x=some (.al p)) (hp:s.at p=some (.own e (c6 ss))) (hne:ss≠ []) (hl:ss.length<2^40) (hce:P.cellsOf e=1)
  (hk:AW P R Φ .normal (.ops all r::k) C (tg d [] (cm p (.own e (c6 (j6 ss))) s)))
  (hg:o.guard=none:=by rfl) (hd:o.dst=some d:=by rfl) (ho:o.op= .call c:=by rfl) (hc:c.callee= .value (.func f):=by rfl) (hca:c.args= #[x]:=by rfl):AW P R Φ .normal (.ops all (o::r)::k) C s:=fun B a w ha=>by
 simp only[mz];refine cb (by simp[Region.wanted,hg]) (fun c' hc'=>by rw[ho]at hc';cases hc') ?_
 obtain⟨fn,hfn,hname,hbody⟩:=hfn;obtain⟨hdf,E,h⟩:=ha;have hv:=cq h hx;generalize hxe:a.eval x=v1 at hv;cases hv with|al=> ?_
 obtain⟨x0,hx0,hpe,⟨cs,⟨hcl,hrow⟩,hro,hz,hml⟩,hom⟩:=h.place p _ hp;rw[M3]at hro;have hcs:=akc hro;subst hcs;rw[hce,cy]at hcl hrow;have hpos:0<ss.length:=z11.2 hne;rcases hrow with⟨_,h0⟩|⟨g,cap,cur,hh,_,hg1,hle,hmx,hsz,htk⟩
 ·omega
 rw[z05]at htk hsz;have hrun:(execOp a.eval o).run P w= .ok (.enter f #[.slice (some ⟨g,0,none⟩) ss.length cap]) w:=by
  have hbody':∃b,fn.body=some b:=by cases hb:fn.body with|none=>simp[hb]at hbody|some b=>exact⟨b,rfl⟩
  obtain⟨b,hb⟩:=hbody';have hname':¬fn.name= "runtime.NumGoroutine" :=by simpa using hname
  have e1:a.eval (.func f)= .func (.func f) #[] #[]:=rfl;have e2:E.hdr p= .slice (some ⟨g,0,none⟩) ss.length cap:=by rw[hh]
  simp[execOp,ho,resolve,hc,hca,e1,Deferred.ofValue,invoke,callFunc,hfn,hname',hb,hxe,e2]
 rw[hrun,Oper.uponIn_enter];refine⟨fun h=>by simp[eg,Fence.wide]at h,kd ?_⟩
 have hgw:g<w.heap.size:=(z07.1 hg1).1;have hgetc:∀j,j<ss.length→cur[j]?=some (Go.Proofs.encStr (ss.toArray[j]!)):=by
  intro j hj;have h1:(cur.toList.take ss.length)[j]?=some (Go.Proofs.encStr (ss[j]'hj)):=by rw[htk,z00,List.getElem?_eq_getElem hj];rfl
  rw[z02,if_pos hj]at h1;rw[←z01,h1]
  congr 1
  simp[getElem!_pos,hj]
 have hH:Go.Sort.Holds Go.Proofs.encStr w g 0 ss.toArray:=by
  intro j hj;have hj':j<ss.length:=by simpa using hj
  refine⟨?_, ?_⟩
  ·rw[Nat.zero_add];simp only[World.cell?,hg1];exact hgetc j hj'
  ·simp[World.frozen?,hg1]
 refine(hS g 0 cap ss w hH hgw (by omega)).mono (fun en w' he=> ?_)
 obtain⟨rfl,nd,os,rfl⟩:=he;simp only;have hS2:(j6 ss).length=ss.length:=Es ss
 let w1:=Go.Sort.grow (Go.Sort.ahead w nd) os
 have hw1s:w1.heap.size=w.heap.size+os.size:=by simp[w1,Go.Sort.grow,Go.Sort.ahead]
 have hw1b:∀b,b<w.heap.size→w1.heap[b]?=w.heap[b]?:=by
  intro b hb;show(w.heap++os)[b]?=_
  rw[z08 hb]
 have hgr1:Grow (fun _=>False) w w1:=⟨rfl,rfl,rfl,by rw[hw1s];omega,fun b hb _=>hw1b b hb⟩
 have hR1:=h.world hgr1 (by simp) (fun b=>w.heap.size≤b∧b<w1.heap.size) (fun b hb=>hb)
 let w2:=Go.Sort.grow (Go.Sort.putRow Go.Proofs.encStr (Go.Sort.ahead w nd) g 0 (j6 ss).toArray) os
 have hmod:∀b,(Go.Sort.putRow Go.Proofs.encStr (Go.Sort.ahead w nd) g 0 (j6 ss).toArray).heap[b]?=if g=b then some (.cells (Go.Sort.putCells Go.Proofs.encStr 0 (j6 ss).toArray cur) e (0,0))else w.heap[b]?:=by
  intro b;show((Go.Sort.ahead w nd).heap.modify g _)[b]?=_
  rw[Array.getElem?_modify];by_cases hgb:g=b
  ·subst hgb;rw[if_pos rfl,if_pos rfl];show(w.heap[g]?).map _=_
   rw[hg1];rfl
  ·rw[if_neg hgb,if_neg hgb];rfl
 have hms:(Go.Sort.putRow Go.Proofs.encStr (Go.Sort.ahead w nd) g 0 (j6 ss).toArray).heap.size=w.heap.size:=by
  show((Go.Sort.ahead w nd).heap.modify g _).size=_
  rw[Array.size_modify];rfl
 have hw2s:w2.heap.size=w1.heap.size:=by
  show((Go.Sort.putRow Go.Proofs.encStr (Go.Sort.ahead w nd) g 0 (j6 ss).toArray).heap++os).size=_
  rw[Array.size_append,hms,hw1s]
 have hw2b:∀b,b<w.heap.size→w2.heap[b]?=if g=b then some (.cells (Go.Sort.putCells Go.Proofs.encStr 0 (j6 ss).toArray cur) e (0,0))else w.heap[b]?:=by
  intro b hb;show((Go.Sort.putRow Go.Proofs.encStr (Go.Sort.ahead w nd) g 0 (j6 ss).toArray).heap++os)[b]?=_
  rw[z08 (by rw[hms];exact hb),hmod]
 have hgr2:Grow (fun b=>b=g) w1 w2:=by
  refine⟨rfl,rfl,rfl,by rw[hw2s];exact Nat.le_refl _,fun b hb hn=> ?_⟩
  by_cases hbw:b<w.heap.size
  ·rw[hw2b b hbw,if_neg (fun h=>hn h.symm),hw1b b hbw]
  ·show((Go.Sort.putRow Go.Proofs.encStr (Go.Sort.ahead w nd) g 0 (j6 ss).toArray).heap++os)[b]?=(w.heap++os)[b]?
   rw[z06 (by rw[hms];omega),z06 (by omega),hms]
 have hob:(E.hdr p).ownBlock=some g:=by rw[hh];rfl
 have hcur2:((Go.Sort.putCells Go.Proofs.encStr 0 (j6 ss).toArray cur).toList.take ss.length)=(j6 ss).map Go.Proofs.encStr:=by
  refine z12 (fun j=> ?_)
  rw[z02,z00];by_cases hj:j<ss.length
  ·rw[if_pos hj,z01];unfold Go.Sort.putCells;rw[Array.getElem?_mapIdx,hgetc j hj];have hj2:j<(j6 ss).length:=by omega
   simp[hj2,getElem!_pos]
  ·rw[if_neg hj,z10 (by omega)];rfl
 have hown:ki P (fun b=>(E.addOm (fun b=>w.heap.size≤b∧b<w1.heap.size)).om b∨B.F b) w2 e ((E.addOm (fun b=>w.heap.size≤b∧b<w1.heap.size)).hdr p) (c6 (j6 ss)):=by
  refine⟨(j6 ss).map Go.Proofs.encStr,⟨?_,.inr ⟨g,cap,Go.Sort.putCells Go.Proofs.encStr 0 (j6 ss).toArray cur, ?_,Nat.zero_le _, ?_, ?_,hmx, ?_, ?_⟩⟩, ?_, ?_, ?_⟩
  ·rw[hce,cy];simp
  ·rw[cy,hS2];exact hh
  ·rw[hw2b g hgw,if_pos rfl]
  ·rw[cy,hS2];exact hle
  ·rw[hce,z05];unfold Go.Sort.putCells;rw[Array.size_mapIdx];exact hsz
  ·rw[hce,cy,hS2,z05];exact hcur2
  ·rw[M3];exact Yd _ _ _
  ·intro x hx;rw[hce];unfold c6 at hx;obtain⟨l,_,rfl⟩:=z13.1 hx;rfl
  ·rw[cy,hS2];rw[cy]at hml;exact hml
 have hR2:=hR1.writeOwn hp hob hgr2 hw2s hown;obtain⟨hcl2,hfr⟩:=hR2.clear d;rw[hd];unfold tg at hk;split at hk
 ·rename_i hdn;obtain⟨E',hE'⟩:=hcl2.putTup (us:=[]) (vs:=[]) (by rw[ti];exact hdn) hfr rfl (by simp) (by simp)
  exact hk B _ _ ⟨by rw[cz];exact hdf,E',hE'⟩
 ·rename_i hdn;have hbig:a.put (some d) (.tuple #[])=a:=by
   show(⟨a.tmps.setIfInBounds d (.tuple #[]),a.defers⟩:Act)=a
   rw[z03 (by rw[←hR2.size];omega)]
  rw[hbig];exact hk B _ _ ⟨hdf,_,hR2⟩
end
end Go.Ck
namespace Go.Ck
section
variable {P : Program} {R : Option Nat} {Φ : Exit → Cx → St → Prop} {k : List It} {C : Cx} {s : St}
theorem aet{all:Array Oper}{o:Oper}{r:List Oper}{d:Nat}{v:Value}(hk:AW P R Φ .normal (.ops all r::k) C (put d .dead s))(hg:o.guard=none:=by rfl)(hd:o.dst=some d:=by rfl)(ho:o.op= .assign (.const v):=by rfl):AW P R Φ .normal (.ops all (o::r)::k) C s:=fun B a w ha=>by
 simp only[mz];refine cb (by simp[Region.wanted,hg]) (fun c hc=>by rw[ho]at hc;cases hc) ?_
 obtain⟨hdf,E,hE⟩:=ha;have hrun:(execOp a.eval o).run P w= .ok (.value v) w:=by
  simp only[execOp,ho,Sem.run_pure];rfl
 rw[hrun,Oper.uponIn_value,hd];refine hk B _ w ⟨by rw[cz];exact hdf,E, ?_⟩
 unfold put;split
 ·rename_i hdn;obtain⟨hc,hf⟩:=hE.clear d;have:(if SV.dead.on (.slot d)=true then SV.dead else SV.dead)=SV.dead:=by split<;>rfl
  rw[this];exact hc.setDead v (by rw[ti];exact hdn) hf
 ·rename_i hdn;show Rel P B.O B.w B.F s E (a.tmps.setIfInBounds d v) w
  rw[z03 (by rw[←hE.size];omega)]
  exact hE
end
end Go.Ck
namespace Go.Ck
open Go.RowKit
section
variable {P : Program} {R : Option Nat} {Φ : Exit → Cx → St → Prop} {k : List It} {C : Cx} {s : St}
theorem U5{all:Array Oper}{o:Oper}{r:List Oper}{d t i q:Nat}(hp:s.at (.part t i)=some (.mp q))(hq:∃y,aj q s.hp=some y)(hk:AW P R Φ .normal (.ops all r::k) C (put d (.mp q) s))(hg:o.guard=none:=by rfl)(hd:o.dst=some d:=by rfl)(ho:o.op= .extract (.tmp t) i:=by rfl):AW P R Φ .normal (.ops all (o::r)::k) C s:=by
 refine oy hg hd (fun c hc=>by rw[ho]at hc;cases hc) ⟨rfl,by simp[SV.on],fun o hpt=> ?_⟩ (fun B E a w _ hE=> ?_) hk
 ·have:q=o:=by simpa[SV.pts]using hpt
  subst this;exact hq
 ·obtain⟨x,⟨vs,h1,h2⟩,hv⟩:=hE.place _ _ hp;have e1:a.eval (.tmp t)= .tuple vs:=by
   show a.tmps.getD t undef=_
   simp[Array.getD_eq_getD_getElem?,h1]
  refine⟨x, ?_,hv⟩;simp[execOp,ho,e1,Instr.extract,h2]
end
end Go.Ck
namespace Go.Ck
open Go.RowKit
section
variable {P : Program} {R : Option Nat} {Φ : Exit → Cx → St → Prop} {k : List It} {C : Cx} {s : St}
end
def A7:Option (Nat×Nat×Bool)→List SV→Option SV→Option (List SV)
 |some (fo,fz,_),cs,some (.pv p)=>if p.cells.length=fz∧fo+fz≤cs.length then some (setCells cs (p.cells.map .pv) fo)else none
 |_,_,_=>none
def vi(fs:List (Nat×Nat×Bool))(s:St):List (Nat×Operand)→Option (List SV)→Option (List SV)
 |[],cs=>cs
 |(i,x)::r,some cs=>vi fs s r (A7 fs[i]? cs (ev s x))
 |_::_,none=>none
theorem tp(fs:List (Nat×Nat×Bool))(s:St)(l:List (Nat×Operand)):vi fs s l none=none:=by cases l<;>rfl
theorem Wt(fs:List (Nat×Nat×Bool))(s:St)(cs:List SV):vi fs s [] (some cs)=some cs:=rfl
theorem Ua(fs:List (Nat×Nat×Bool))(s:St)(i:Nat)(x:Operand)(r:List (Nat×Operand))(cs:List SV):vi fs s ((i,x)::r) (some cs)=vi fs s r (A7 fs[i]? cs (ev s x)):=rfl
theorem acm(fo fz:Nat)(b:Bool)(cs:List SV)(p:PV):A7 (some (fo,fz,b)) cs (some (.pv p))=if p.cells.length=fz∧fo+fz≤cs.length then some (setCells cs (p.cells.map .pv) fo)else none:=rfl
attribute [go_sem] Wt Ua acm
theorem Du{P:Program}{fs:List (Nat×Nat×Bool)}{s t:St}(h:Le s t):∀ {l:List (Nat×Operand)} {z cs:List SV},vi fs s l (some z)=some cs→kc P fs l z t=some (cs,t)
 |[],z,cs,hf=>by cases hf;rfl
 |(i,x)::r,z,cs,hf=>by
  simp only[vi]at hf;cases hx:ev s x with
  |none=>rw[hx]at hf;cases hfi:fs[i]?<;>simp[hfi,A7,tp]at hf
  |some v=>
   rw[hx]at hf;cases hfi:fs[i]? with
   |none=>rw[hfi]at hf;simp[A7,tp]at hf
   |some f=>
    obtain⟨fo,fz,b⟩:=f;rw[hfi]at hf;cases v with
    |pv p=>
     simp only[A7]at hf;split at hf
     ·rename_i hc;simp only[kc,hfi,h.ev hx,uw,freeze];rw[if_pos (by simpa using hc)]
      exact Du h hf
     ·rw[tp]at hf;cases hf
    |_=>simp[A7,tp]at hf
section
variable {P : Program} {R : Option Nat} {Φ : Exit → Cx → St → Prop} {k : List It} {C : Cx} {s : St} {all : Array Oper}
theorem A6.build{o:Oper}{d ty:Nat}{fs:List (Nat×Nat×Bool)}{ps:Array (Nat×Operand)}{z cs:List SV}{p:PV}(hg:o.guard=none)(hd:o.dst=some d)(ho:o.op= .build ty ps)(hT:tk P ty= .st fs)(hz:io P ty=some z)(h1:fs.all (fun f=>f.2.1 !=0)=true)(hf:vi fs s ps.toList (some z)=some cs)(hm:Ce cs= .pv p):A6 P o d s (.pv p):=fun R Φ k C all r t hle hl hn h=>by
 refine AW.step (s':=put d (.pv p) t) hg ?_ ?_
 ·unfold du;simp only[hd,ho,reads,Bool.false_eq_true,if_false,yi,N4,hT,hz];rw[if_pos h1,Du hle hf];simp only[hm]
 ·rw[rg hl hn rfl];exact h
theorem CK.build{id i d ty:Nat}{fs:List (Nat×Nat×Bool)}{usl:List (List Nat)}{T:List (Nat×SV)}{o:Oper}{ps:Array (Nat×Operand)}{z cs:List SV}{p:PV}(us:List Nat)(h:CK P R Φ k C id all s (i+1) (usl++[us]) (T++[(d,.pv p)]))
  (ho:all[i]?=some o:=by rfl) (hg:o.guard=none:=by rfl) (hd:o.dst=some d:=by rfl) (hop:o.op= .build ty ps:=by rfl) (hT:tk P ty= .st fs:=by simp only[go_sem]<;>rfl) (hz:io P ty=some z:=by simp only[go_sem]<;>rfl) (hf:vi fs (ru T us s) ps.toList (some z)=some cs:=by simp only[go_sem,↓reduceIte]<;>rfl) (hm:Ce cs= .pv p:=by simp only[go_sem,↓reduceIte]<;>rfl) (h1:fs.all (fun f=>f.2.1 !=0)=true:=by rfl):CK P R Φ k C id all s i usl T:=fun hi hR=>
 h (by simp[hi]) (hR.add (by rw[hi];exact ho) hg hd (.build hg hd hop hT hz h1 hf hm))
end
end Go.Ck
namespace Go.Ck
open Go.RowKit
section
variable {P : Program} {O0 : Base} {F : Nat → Prop} {w0 w : World} {s : St} {E : Env} {tmps : Array Value}
theorem Rel.adopt(h:Rel P O0 w0 F s E tmps w){d g:Nat}(hl:aj d s.hp=none)(hg:E.om g)(hu:jm s E g){e:TypeId}{ps:List PV}{vs:Array Value}(hb:w.heap[g]?=some (.cells vs e (0,0)))(hsz:ps.length≤vs.size)
  (hone:ps.all PV.one=true) (hro:∀(i:Nat) (c:PV),ps[i]?=some c→∃v,vs[i]?=some v∧RO (fun b=>E.om b∨F b) w c v):
  Rel P O0 w0 F ⟨s.n,s.sl,(d,.cells e (ps.map .pv))::s.hp⟩ (E.addObj d g) tmps w:=by
 have hA:∀b,b<w.heap.size→¬(E.om b∨F b)→¬((E.om b∨b=g)∨F b)∧w.heap[b]?=w.heap[b]?:=by
  intro b hb' hn;refine⟨?_,rfl⟩;rintro((h3|rfl)|h3)
  ·exact hn (.inl h3)
  ·exact hn (.inl hg)
  ·exact hn (.inr h3)
 have hpc:∀(i:Nat) (c:SV),(ps.map SV.pv)[i]?=some c→∃p,c= .pv p∧ps[i]?=some p:=by
  intro i c hc;rw[z00,z09]at hc;obtain⟨p,h1,h2⟩:=hc;exact⟨p,h2.symm,h1⟩
 have hnew:∀v:SV,(∀o,v.pts o=true→∃y,aj o s.hp=some y)→v.pts d=false:=by
  intro v hv;cases hp:v.pts d with
  |false=>rfl
  |true=>
   obtain⟨y,hy⟩:=hv d hp;rw[hl]at hy;cases hy
 have hat:∀p u,(St.mk s.n s.sl ((d,.cells e (ps.map .pv))::s.hp)).at p=some u→(∃i,p= .cell d i∧(ps.map SV.pv)[i]?=some u)∨((∀i,p≠ .cell d i)∧s.at p=some u):=by
  intro p u hp;cases p with
  |slot d'=>exact .inr ⟨by simp,hp⟩
  |part d' i=>exact .inr ⟨by simp,hp⟩
  |cell o i=>
   rw[cv]at hp;simp only[aj]at hp;split at hp
   ·rename_i h' he;split at he
    ·rename_i e;subst e;cases he;exact .inl ⟨i,rfl,hp⟩
    ·rename_i e;exact .inr ⟨by simpa using fun h=>absurd h.symm e,by rw[cv,he];exact hp⟩
   ·cases hp
 have hlk:∀o y,aj o ((d,HO.cells e (ps.map .pv))::s.hp)=some y→(o=d∧y= .cells e (ps.map .pv))∨(o≠d∧aj o s.hp=some y):=by
  intro o y hy;simp only[aj]at hy;split at hy
  ·rename_i e;subst e;cases hy;exact .inl ⟨rfl,rfl⟩
  ·rename_i e;exact .inr ⟨fun h=>e h.symm,hy⟩
 have hlk':∀o y,aj o s.hp=some y→aj o ((d,HO.cells e (ps.map .pv))::s.hp)=some y:=by
  intro o y hy;simp only[aj];rw[if_neg (by rintro rfl;rw[hl]at hy;cases hy)]
  exact hy
 have hkeep:∀p u,s.at p=some u→(St.mk s.n s.sl ((d,.cells e (ps.map .pv))::s.hp)).at p=some u:=by
  intro p u hp;cases p with
  |slot d'=>exact hp
  |part d' i=>exact hp
  |cell o i=>
   rw[cv]at hp⊢;split at hp
   ·rename_i h' he;rw[show aj o (St.mk s.n s.sl ((d,.cells e (ps.map .pv))::s.hp)).hp=some h' from hlk' o h' he]
    exact hp
   ·cases hp
 refine { place:= ?_,obj:= ?_,size:=h.size,i1:= ?_,i2:= ?_,i3:= ?_,om_lt:= ?_,om0:= ?_,na:= ?_,np:= ?_,gr:=h.gr,flt:=h.flt,ob:= ?_ }
 ·intro p v hp;rcases hat p v hp with⟨i,rfl,hi⟩|⟨hne,hp'⟩
  ·obtain⟨q,rfl,hq⟩:=hpc i v hi;obtain⟨y,hy,hr⟩:=hro i q hq;refine⟨y, ?_,RS.pv q y (hr.mono hA)⟩;simp only[CV,bz,World.cell?,hb];exact hy
  ·obtain⟨x,hx,hv⟩:=h.place p v hp';refine⟨x, ?_, ?_⟩
   ·cases p with
    |slot d'=>exact hx
    |part d' i=>exact hx
    |cell o i=>
     have hod:o≠d:=by rintro rfl;exact hne i rfl
     simp only[CV,bw _ _ hod]at hx⊢;exact hx
   ·cases v<;>simp only[ip]at hv⊢
    case own e xs=>
     obtain⟨h1,h2,h3⟩:=hv;exact⟨h1,h2.kept hA (fun b hb=>rfl),fun b hb=> .inl (h3 b hb)⟩
    case tup vs=>exact hv
    all_goals exact hv.addObj hA (hnew _ (fun o ho=>h.np p _ o hp' ho))
 ·intro o y hy;rcases hlk o y hy with⟨rfl,rfl⟩|⟨hne,hy'⟩
  ·refine⟨.inr (bz _ _ _),vs,by rw[bz];exact hb,by rw[List.length_map];exact hsz,fun c hc=> ?_⟩
   obtain⟨p,h1,rfl⟩:=z13.1 hc;exact z04.1 hone p h1
  ·obtain⟨h1,h2⟩:=h.obj o y hy';refine⟨?_, ?_⟩
   ·rw[bw _ _ hne];exact .inl h1
   ·cases y with
    |cells e cs=>
     obtain⟨vs,h3,h4⟩:=h2;exact⟨vs,by rw[bw _ _ hne];exact h3,h4⟩
    |mp es=>
     obtain⟨ms,c,h3,h4,h5⟩:=h2;exact⟨ms,c,by rw[bw _ _ hne];exact h3,h4,fun i kv m hk hm=>⟨(h5 i kv m hk hm).1.mono hA,(h5 i kv m hk hm).2.mono hA⟩⟩
 ·intro o o' y y' hy hy' he;rcases hlk o y hy with⟨rfl,rfl⟩|⟨hne,h1⟩
  ·rcases hlk o' y' hy' with⟨rfl,_⟩|⟨hne',h2⟩
   ·rfl
   ·rw[bz,bw _ _ hne']at he;exact absurd he.symm (hu.1 o' y' h2)
  ·rcases hlk o' y' hy' with⟨rfl,_⟩|⟨hne',h2⟩
   ·rw[bz,bw _ _ hne]at he;exact absurd he (hu.1 o y h1)
   ·rw[bw _ _ hne,bw _ _ hne']at he;exact h.i1 o o' y y' h1 h2 he
 ·intro p q e xs e' ys b hp hq hpb hqb;rcases hat p _ hp with⟨i,rfl,hi⟩|⟨_,hp'⟩
  ·obtain⟨_,hc,_⟩:=hpc i _ hi;cases hc
  ·rcases hat q _ hq with⟨i,rfl,hi⟩|⟨_,hq'⟩
   ·obtain⟨_,hc,_⟩:=hpc i _ hi;cases hc
   ·exact h.i2 p q e xs e' ys b hp' hq' hpb hqb
 ·intro p e xs o y b hp hy hpb;rcases hat p _ hp with⟨i,rfl,hi⟩|⟨_,hp'⟩
  ·obtain⟨_,hc,_⟩:=hpc i _ hi;cases hc
  ·rcases hlk o y hy with⟨rfl,rfl⟩|⟨hne,h1⟩
   ·rw[bz];rintro rfl;exact hu.2 p e xs hp' hpb
   ·rw[bw _ _ hne];exact h.i3 p e xs o y b hp' h1 hpb
 ·rintro b (hb|rfl)
  ·exact h.om_lt b hb
  ·exact h.om_lt _ hg
 ·rintro b (hb|rfl)
  ·exact h.om0 b hb
  ·exact h.om0 _ hg
 ·intro p v q hp hq;rcases hat p _ hp with⟨i,rfl,hi⟩|⟨_,hp'⟩
  ·obtain⟨p',rfl,_⟩:=hpc i v hi;simp[SV.on]at hq
  ·obtain⟨h1,⟨e,xs,h2⟩,h3⟩:=h.na p v q hp' hq;exact⟨h1,⟨e,xs,hkeep q _ h2⟩,h3⟩
 ·intro p v o hp ho;rcases hat p _ hp with⟨i,rfl,hi⟩|⟨_,hp'⟩
  ·obtain⟨p',rfl,_⟩:=hpc i v hi;simp[SV.pts]at ho
  ·obtain⟨y,hy⟩:=h.np p v o hp' ho;exact⟨y,hlk' o y hy⟩
 ·intro o k hok;obtain⟨h1,y,hy⟩:=h.ob o k hok;have hne:o≠d:=by rintro rfl;rw[hl]at hy;cases hy
  exact⟨by rw[bw _ _ hne];exact h1,y,hlk' o y hy⟩
end
section
variable {P : Program} {R : Option Nat} {Φ : Exit → Cx → St → Prop} {k : List It} {C : Cx} {s : St}
theorem akf{e:Exit}(d o:Nat){t:TypeId}{xs:List PV}(h:AW P R Φ e k C ⟨s.n,(d,.os o 0 xs.length)::(d,.dead)::Fs (.slot d) s.sl,(o,.cells t (xs.map .pv))::s.hp⟩)
  (hl:aj d s.sl=some (.own t xs)) (hne:xs≠ []) (hone:xs.all PV.one=true) (hce:P.cellsOf t=1) (ho:aj o s.hp=none) (hd:d<s.n):AW P R Φ e k C s:=
 wb (fun B a w ha=>by
  obtain⟨hdf,E,hE⟩:=ha;have hat:s.at (.slot d)=some (.own t xs):=hl;obtain⟨x,hx,hpe,⟨cs,⟨hcl,hrow⟩,hro,hz,hml⟩,hom⟩:=hE.place (.slot d) _ hat;have hpos:0<xs.length:=z11.2 hne;rw[hce]at hcl hrow;rw[sk hone]at hro;rcases hrow with⟨_,h0⟩|⟨g,cap,cur,hh,_,hg1,hle,hmx,hsz,htk⟩
  ·omega
  rw[z05]at htk hsz;have hob:(E.hdr (.slot d)).ownBlock=some g:=by rw[hh];rfl
  have hx':a.tmps[d]?=some x:=hx;have hk:=hE.kill (.slot d);have hfr:=hE.free_kill (.slot d);have hsd:=hk.easySlot (d:=d) (v:= .dead) (x:=x) (by exact hd) hfr rfl (.inl rfl) (fun q hq=>by simp[SV.on]at hq) (fun o ho=>by simp[SV.pts]at ho)
  have hid:a.tmps.setIfInBounds d x=a.tmps:=by
   obtain⟨h1,h2⟩:=z07.1 hx';refine Array.ext_getElem? (fun i=> ?_)
   by_cases hi:d=i
   ·subst hi;rw[Array.getElem?_setIfInBounds_self_of_lt h1,hx']
   ·rw[Array.getElem?_setIfInBounds_ne hi]
  rw[hid]at hsd;have hun:jm (setSlot d .dead (Ck.kill (.slot d) s)) E g:=by
   refine⟨fun o' y hy hc=> ?_,fun p e' ys hp hc=> ?_⟩
   ·exact hE.i3 (.slot d) t xs o' y g hat hy hob hc
   ·have h1:s.at p=some (.own e' ys)∧p≠ .slot d:=by
     rw[cj]at hp;cases p with
     |slot d'=>
      simp only at hp;split at hp
      ·cases hp
      ·rename_i hn;rcases ox (.slot d) s (.slot d') _ hp with⟨h2,_⟩|⟨h2,_⟩
       ·cases h2
       ·exact⟨h2,by simpa using fun h=>hn h.symm⟩
     |part d' i=>
      simp only at hp;split at hp
      ·cases hp
      ·rcases ox (.slot d) s (.part d' i) _ hp with⟨h2,_⟩|⟨h2,_⟩
       ·cases h2
       ·exact⟨h2,by simp⟩
     |cell o' i=>
      rcases ox (.slot d) s (.cell o' i) _ hp with⟨h2,_⟩|⟨h2,_⟩
      ·cases h2
      ·exact⟨h2,by simp⟩
    exact h1.2 (hE.i2 p (.slot d) e' ys t xs g h1.1 hat hc hob)
  have hlen:xs.length≤cur.size:=by omega
  have had:=hsd.adopt (d:=o) (g:=g) ho (hom g hob) hun (e:=t) (ps:=xs) (vs:=cur) hg1 hlen hone (fun i c hc=>by
   have hi:i<xs.length:=(List.getElem?_eq_some_iff.1 hc).1;obtain⟨v,h1,h2⟩:=hro.at hc;refine⟨v, ?_,h2⟩;rw[←htk,z02,if_pos hi,z01]at h1;exact h1)
  have hfin:=had.easySlot (d:=d) (v:= .os o 0 xs.length) (x:=x) (by exact hd) (fun q v hq=>by
    cases hv:v.on (.slot d)with
    |false=>rfl
    |true=>
     obtain⟨_,⟨e',ys,h2⟩,_⟩:=had.na q v (.slot d) hq hv;have:(setSlot d SV.dead (Ck.kill (.slot d) s)).at (.slot d)=some .dead:=by rw[cj];simp
     have h3:(setSlot d SV.dead (Ck.kill (.slot d) s)).at (.slot d)=some (.own e' ys):=h2;rw[this]at h3;cases h3) rfl (.inr (by
    rw[hpe,hh];have:=RS.os (P:=P) (A:=fun b=>(E.addObj o g).om b∨B.F b) (E:=E.addObj o g) (w:=w) o 0 xs.length cap hle
    rw[bz]at this;exact this)) (fun q hq=>by simp[SV.on]at hq) (fun o' ho'=>by
    have:o=o':=by simpa[SV.pts]using ho'
    subst this;exact⟨_,by simp only[aj,if_true];rfl⟩)
  rw[hid]at hfin;exact⟨B,hdf,_,hfin⟩) h
end
end Go.Ck
