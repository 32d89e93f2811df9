/- What is proved here: parts of the proofs of this seat's statements (a verified evaluator for calls over pure values, its laws, and contracts of functions). No condition. -/
import Derived.Test.YtmkoabmapmehdaaGreatDoorKj
import Derived.RangeFuncRecord
import Derived.RangeFuncLeaves
set_option linter.all false
open List renaming all_eq_true→z00,mem_of_getElem?→z02,getElem?_cons_zero→z07,getElem?_cons_succ→z08,foldl_cons→z09
open Array renaming getElem?_eq_some_iff→z01,size_setIfInBounds→z04,replicate→z05
open Nat renaming lt_of_lt_of_le→z03,le_trans→z06
namespace Go.Ck
open Go.RowKit
section
variable {P : Program} {O0 : Base} {F : Nat → Prop} {w0 w : World} {s : St} {E : Env} {tmps : Array Value}
theorem Rel.sleep(h:Rel P O0 w0 F s E tmps w){w':World}{F':Nat→Prop}{ob':Nat→Option Nat}(hg:Grow F w w')(hF1:∀b,F' b→b<w'.heap.size)(hF2:∀b,b<w.heap.size→F' b→F b)
  (hob:∀o b,ob' o=some b→E.obj o=b∧∃y,aj o s.hp=some y):Rel P ⟨E.om,ob'⟩ w' F' s E tmps w':=by
 have hA:∀b,b<w.heap.size→¬(E.om b∨F b)→¬(E.om b∨F' b)∧w'.heap[b]?=w.heap[b]?:=fun b hb hn=>
  ⟨fun h1=>hn (h1.imp id (hF2 b hb)),hg.block b hb (fun h1=>hn (.inr h1))⟩
 have hom:∀b,E.om b→w'.heap[b]?=w.heap[b]?:=fun b hb=>hg.block b (h.om_lt b hb).1 (h.om_lt b hb).2
 refine { place:= ?_,obj:= ?_,size:=h.size,i1:=h.i1,i2:=h.i2,i3:=h.i3,om_lt:=fun b hb=>⟨z03 (h.om_lt b hb).1 hg.size,fun h1=>(h.om_lt b hb).2 (hF2 b (h.om_lt b hb).1 h1)⟩,om0:=fun b hb=> .inl hb,na:=h.na,np:=h.np,gr:=nc _ _,flt:=hF1,ob:=hob }
 ·intro p v hp;obtain⟨x,hx,hv⟩:=h.place p v hp;refine⟨x, ?_, ?_⟩
  ·cases p with
   |slot d=>exact hx
   |part d i=>exact hx
   |cell o i=>
    simp only[CV]at hx⊢;have:∃y,aj o s.hp=some y:=by
     simp only[St.at]at hp;cases hl:aj o s.hp with
     |none=>simp[hl]at hp
     |some y=>exact⟨y,rfl⟩
    obtain⟨y,hl⟩:=this;exact(World.cell?_of_block (w:=w) (w':=w') (a:=⟨E.obj o,i,none⟩) (hom _ (h.obj o y hl).1)).trans hx
  ·cases v<;>simp only[ip]at hv⊢
   case own e xs=>exact⟨hv.1,hv.2.1.kept hA (fun b hb=>hom b (hv.2.2 b hb)),hv.2.2⟩
   case tup vs=>exact hv
   all_goals exact hv.grow hA
 ·intro o y hl;obtain⟨h1,h2⟩:=h.obj o y hl;refine⟨h1, ?_⟩;have hb:=hom _ h1;cases y with
  |cells e cs=>
   obtain⟨vs,h3,h4⟩:=h2;exact⟨vs,hb.trans h3,h4⟩
  |mp es=>
   obtain⟨ms,c,h3,h4,h5⟩:=h2;exact⟨ms,c,hb.trans h3,h4,fun i kv m hk hm=>⟨(h5 i kv m hk hm).1.mono hA,(h5 i kv m hk hm).2.mono hA⟩⟩
theorem Rel.shrink(h:Rel P O0 w0 F s E tmps w)(M:Nat→Prop)(hM:∀b,M b→E.om b)(hobj:∀o y,aj o s.hp=some y→¬M (E.obj o))(hown:∀p e xs b,s.at p=some (.own e xs)→(E.hdr p).ownBlock=some b→¬M b)
  {ob':Nat→Option Nat} (hob:∀o b,ob' o=some b→E.obj o=b∧∃y,aj o s.hp=some y):
  Rel P ⟨fun b=>E.om b∧¬M b,ob'⟩ w (fun b=>F b∨M b) s { E with om:=fun b=>E.om b∧¬M b } tmps w:=by
 classical
 have hA:∀b,b<w.heap.size→¬(E.om b∨F b)→¬((E.om b∧¬M b)∨(F b∨M b))∧w.heap[b]?=w.heap[b]?:=fun b _ hn=>
  ⟨fun h1=>hn (h1.elim (fun h2=> .inl h2.1) (fun h2=>h2.elim .inr (fun h3=> .inl (hM b h3)))),rfl⟩
 have hrs:∀ {v x},RS P (fun b=>E.om b∨F b) E w v x→RS P (fun b=>(E.om b∧¬M b)∨(F b∨M b)) { E with om:=fun b=>E.om b∧¬M b } w v x:=by
  intro v x hv;have h1:=hv.grow hA
  induction h1 with
  |pv p x h=>exact .pv p x h
  |nils=>exact .nils
  |al p=>exact .al (E:= { E with om:=fun b=>E.om b∧¬M b }) p
  |vw p e off n x h=>exact .vw p e off n x h
  |ptr o off=>exact .ptr (E:= { E with om:=fun b=>E.om b∧¬M b }) o off
  |ea p e i j b h=>exact .ea p e i j b h
  |ra c j vs ad hs h hm=>exact .ra c j vs ad hs h hm
  |fn f caps vs hl h1 h ih=>exact .fn f caps vs hl h1 (fun i c v hc hv=>by
    have hc1:=z00.1 h1 c (z02 hc);have h2:=h i c v hc hv;cases c<;>simp[dr]at hc1
    ·cases h2 with|pv _ _ h2=>exact .pv _ _ h2
    ·cases h2;exact .ptr (E:= { E with om:=fun b=>E.om b∧¬M b }) _ _)
  |agg cs vs hl h1 h ih=>exact .agg cs vs hl h1 (fun i c v hc hv=>by
    have h2:=zo h1 (z02 hc) (h i c v hc hv);exact h2.rs)
  |mp o=>exact .mp (E:= { E with om:=fun b=>E.om b∧¬M b }) o
  |yl l=>exact .yl l
  |bm f o=>exact .bm (E:= { E with om:=fun b=>E.om b∧¬M b }) f o
  |os o off n cap hc=>exact .os (E:= { E with om:=fun b=>E.om b∧¬M b }) o off n cap hc
  |lit xs g cur e fr h1 h2 h3=>exact .lit xs g cur e fr h1 h2 h3
 refine { place:= ?_,obj:= ?_,size:=h.size,i1:=h.i1,i2:=h.i2,i3:=h.i3,om_lt:=fun b hb=>⟨(h.om_lt b hb.1).1,fun h1=>h1.elim (h.om_lt b hb.1).2 hb.2⟩,om0:=fun b hb=> .inl hb,na:=h.na,np:=h.np,gr:=nc _ _,flt:=fun b hb=>hb.elim (fun h1=>z03 (h.flt b h1) h.gr.size) (fun h1=>(h.om_lt b (hM b h1)).1),ob:=hob }
 ·intro p v hp;obtain⟨x,hx,hv⟩:=h.place p v hp;refine⟨x,hx, ?_⟩;cases v<;>simp only[ip]at hv⊢
  case own e xs=>exact⟨hv.1,hv.2.1.kept hA (fun _ _=>rfl),fun b hb=>⟨hv.2.2 b hb,hown p e xs b hp hb⟩⟩
  case tup vs=>exact hv
  all_goals exact hrs hv
 ·intro o y hl;obtain⟨h1,h2⟩:=h.obj o y hl;refine⟨⟨h1,hobj o y hl⟩, ?_⟩;cases y with
  |cells e cs=>exact h2
  |mp es=>
   obtain⟨ms,c,h3,h4,h5⟩:=h2;exact⟨ms,c,h3,h4,fun i kv m hk hm=>⟨(h5 i kv m hk hm).1.mono hA,(h5 i kv m hk hm).2.mono hA⟩⟩
end
def plain(X:Bs→Prop):Cx:=fun B d=>d=[]∧X B
def Hb(P:Program)(l:Nat)(X:Bs→Prop)(ps:List PV)(X1 X0:Bs→Prop):Prop:=
 ∀(B:Bs) (M:Nat→Prop) (w:World) (vals:List Value),X B→(∀b,M b→(B.O.blk b∨B.w.heap.size≤b)∧b<w.heap.size∧¬B.F b)→(∀b,B.F b→b<B.w.heap.size)→Grow B.O.blk B.w w→vals.length=ps.length→
  (∀(i:Nat) (p:PV) (x:Value),ps[i]?=some p→vals[i]?=some x→RO (fun b=>M b∨B.F b) w p x)→
  ∃fn tmps assign body,(Instr.yield l vals.toArray).run P w= .ok (.round l fn tmps assign body) w∧RoundIn Fence.wide 0 P l fn tmps assign body w (fun e w'=> ∃(b:Bool) (F':Nat→Prop),e= .returned (.bool b)∧
   (if b=true then X1 else X0) ⟨⟨M,fun _=>none⟩,w',F'⟩∧Grow B.F w w'∧(∀b,F' b→b<w'.heap.size)∧(∀b,b<w.heap.size→F' b→B.F b))
section
variable {P : Program} {Φ : Exit → Cx → St → Prop} {k : List It} {s : St}
theorem agh{O0:Base}{F:Nat→Prop}{w0 w:World}{E:Env}{a:Act}(h:Rel P O0 w0 F s E a.tmps w):∀ {l:List Operand} {ps:List PV},evs s l=some (ps.map .pv)→l.length=ps.length∧∀(i:Nat) (p:PV) (x:Value),ps[i]?=some p→(l.map a.eval)[i]?=some x→RO (fun b=>E.om b∨F b) w p x
 |[],ps,he=>by
  simp[evs]at he;subst he;exact⟨rfl,by simp⟩
 |x::l,ps,he=>by
  simp only[evs]at he;split at he
  ·rename_i v vs h1 h2;cases ps with
   |nil=>simp at he
   |cons p ps=>
    simp only[List.map_cons,Option.some.injEq,List.cons.injEq]at he;obtain⟨rfl,rfl⟩:=he;obtain⟨k1,k2⟩:=agh h h2;refine⟨by simp[k1],fun i q y hq hy=> ?_⟩
    cases i with
    |zero=>
     simp at hq hy;subst hq;subst hy
     have:=cq h h1;cases this with|pv _ _ h=>exact h
    |succ i=>exact k2 i q y (by simpa using hq) (by simpa using hy)
  ·cases he
theorem AW.yield{all:Array Oper}{o:Oper}{r:List Oper}{d l:Nat}{c:Call}{fx:Operand}{ps:List PV}{X X1 X0:Bs→Prop}(hY:Hb P l X ps X1 X0)(hf:ev s fx=some (.yl l))(hx:evs s c.args.toList=some (ps.map .pv))
  (k1:AW P none Φ .normal (.ops all r::k) (plain X1) (put d (.pv (.bool true)) s)) (k0:AW P none Φ .normal (.ops all r::k) (plain X0) (put d (.pv (.bool false)) s))
  (hg:o.guard=none:=by rfl) (ho:o.op= .call c:=by rfl) (hd:o.dst=some d:=by rfl) (hc:c.callee= .value fx:=by rfl):AW P none Φ .normal (.ops all (o::r)::k) (plain X) s:=fun B a w ha=>by
 simp only[mz];refine cb (by simp[Region.wanted,hg]) (fun c' hc'=>by rw[ho]at hc';cases hc') ?_
 obtain⟨⟨⟨hdf,hX⟩,hob,hG⟩,E,h⟩:=ha;have hgk:=v8 hG h;obtain⟨k2,k3⟩:=agh h hx;have e1:a.eval fx= .func (.yield l) #[] #[]:=by
  have:=cq h hf;generalize a.eval fx=z at this;cases this;rfl
 obtain⟨fn,tmps,assign,body,hy,hR⟩:=hY B E.om w (c.args.toList.map a.eval) hX (fun b hb=>⟨h.om0 b hb,h.om_lt b hb⟩) h.flt h.gr (by simpa using k2) k3
 have hrun:(execOp a.eval o).run P w= .ok (.round l fn tmps assign body) w:=by
  have hargs:c.args.map a.eval=(c.args.toList.map a.eval).toArray:=by apply Array.ext';simp
  rw[←hargs]at hy;simp[execOp,ho,resolve,hc,e1,Deferred.ofValue,invoke,callFunc,hy]
 rw[hrun,Oper.uponIn_round];refine⟨fun h=>by simp[eg,Fence.wide]at h,RoundIn.mono hR (fun e w' he=> ?_)⟩
 obtain⟨b,F',rfl,hX',hg1,hF1,hF2⟩:=he;have hs:=h.sleep (ob':=fun _=>none) hg1 hF1 hF2 (fun o b hb=>by cases hb)
 have hG':Gj P (fun b=>E.om b∨F' b) w':=hgk.mono (fun b hb hn=>⟨fun h1=>hn (h1.imp id (hF2 b hb)),hg1.block b hb (fun h1=>hn (.inr h1))⟩) hg1.size
 have hp:=hs.putGood (v:= .pv (.bool b)) d (.pv _ _) (.pv _ _ (.bool b));simp only;rw[hd];cases b with
 |true=>exact k1 ⟨⟨E.om,fun _=>none⟩,w',F'⟩ _ w' ⟨⟨⟨by rw[cz];exact hdf,hX'⟩,fun o _=>rfl,hG'⟩,E,hp⟩
 |false=>exact k0 ⟨⟨E.om,fun _=>none⟩,w',F'⟩ _ w' ⟨⟨⟨by rw[cz];exact hdf,hX'⟩,fun o _=>rfl,hG'⟩,E,hp⟩
end
def afh(P:Program)(f:FuncId)(caps:List SV)(H:List (Nat×HO))(xs:Nat→Option (List PV)):Prop:=
 (∃fn,P.funcs[f]?=some fn∧(fn.name== "runtime.NumGoroutine")=false∧fn.body.isNone=false)∧
 ∀(l:Nat) (X:Nat→Bs→Prop) (X0:Bs→Prop) (N:Nat),(∀i,i<N→∃p,xs i=some p∧Hb P l (X i) p (X (i+1)) X0)→(xs N=none∨∀B,¬X N B)→
  ∀(B:Bs) (E:Env) (vals:List Value),vals.length=caps.length+1→X 0 B→(∀o,o<1000→B.O.ob o=none)→Gj P (fun b=>B.O.blk b∨B.F b) B.w→
   Rel P B.O B.w B.F ⟨vals.length,c8 (.yl l::caps) 0,H⟩ E vals.toArray B.w→
   Calls P f vals.toArray B.w (fun e w'=> ∃v B',e= .returned v∧((xs N=none∧X N B')∨X0 B')∧Grow B'.O.blk B'.w w'∧(∀b,B'.F b→b<B'.w.heap.size))
theorem afh.of_body{P:Program}{f:FuncId}{fn:Func}{c:Code}{caps:List SV}{H:List (Nat×HO)}{xs:Nat→Option (List PV)}{n:Nat}(hf:P.funcs[f]?=some fn)(hb:fn.body=some c)(hn:n=caps.length+1+(fn.ntmps-(caps.length+1)))(hname:(fn.name== "runtime.NumGoroutine")=false)(hres:fn.results.toList=[])
  (h:∀(l:Nat) (X:Nat→Bs→Prop) (X0:Bs→Prop) (N:Nat),(∀i,i<N→∃p,xs i=some p∧Hb P l (X i) p (X (i+1)) X0)→(xs N=none∨∀B,¬X N B)→
   AW P none (fun e C' s'=>(e= .normal∨e= .ret)∧((xs N=none∧C'=plain (X N))∨C'=plain X0)) .normal [.code c] (plain (X 0)) ⟨n,c8 (.yl l::caps) 0,H⟩):afh P f caps H xs:=by
 refine⟨⟨fn,hf,hname,by simp[hb]⟩,fun l X X0 N hY hN B E vals hl hX hob hG hR=> ?_⟩
 refine calls_of_wp hf hb ?_;have h0:=hR.extend (u:=z05 (fn.ntmps-vals.toArray.size) undef) (n:=n) (by simp[hn,hl])
 have hw:=h l X X0 N hY hN B { tmps:=vals.toArray++z05 (fn.ntmps-vals.toArray.size) undef,defers:=[] } B.w ⟨⟨⟨rfl,hX⟩,hob,hG⟩,E,h0⟩;simp only[mz]at hw;refine wp_mono ((wpIn_wide (n:=0)).1 hw) (fun e a w' hq=> ?_)
 obtain⟨C',s',B',⟨he,hC⟩,⟨hC',_⟩,E',hE⟩:=hq;have hd:a.defers=[]∧((xs N=none∧X N B')∨X0 B'):=by
  rcases hC with⟨h1,rfl⟩|rfl
  ·exact⟨hC'.1,.inl ⟨h1,hC'.2⟩⟩
  ·exact⟨hC'.1,.inr hC'.2⟩
 have hrun:(results fn a.tmps).run P w'= .ok (ve []) w':=ku (us:=[]) (by rw[hres];simp)
 have fin:a.defers=[]∧∃v,(results fn a.tmps).run P w'= .ok v w'∧∃v' B',Ending.returned v= .returned v'∧((xs N=none∧X N B')∨X0 B')∧Grow B'.O.blk B'.w w'∧(∀b,B'.F b→b<B'.w.heap.size):=
  ⟨hd.1,_,hrun,_,B',rfl,hd.2,hE.gr,hE.flt⟩
 rcases he with rfl|rfl
 ·exact fin
 ·exact fin
end Go.Ck
namespace Go.Ck
open Go.RowKit
def mg:SV→Bool
 | .pv _| .nils| .ptr _ _| .fn _ []=>true
 |_=>false
def mh:List (Nat×SV)→Bool
 |[]=>true
 |(_,v)::r=>mg v&&mh r
theorem lm:∀ {sl:List (Nat×SV)},mh sl=true→∀d v,aj d sl=some v→mg v=true
 |[],_,d,v,h=>by simp[aj]at h
 |(k,u)::r,hs,d,v,h=>by
  simp only[mh,Bool.and_eq_true]at hs;simp only[aj]at h;split at h
  ·cases h;exact hs.1
  ·exact lm hs.2 d v h
def Q1(P:Program)(A:Nat→Prop)(E:Env)(w:World)(t:Array Value)(sl:List (Nat×SV)):Prop:=∀d v,aj d sl=some v→∃x,t[d]?=some x∧RS P A E w v x
section
variable {P : Program} {O0 : Base} {F : Nat → Prop} {w0 w : World} {s : St} {E : Env} {tmps : Array Value}
theorem Rel.slOK{n:Nat}{sl:List (Nat×SV)}{hp:List (Nat×HO)}(h:Rel P O0 w0 F ⟨n,sl,hp⟩ E tmps w)(hs:mh sl=true):Q1 P (fun b=>E.om b∨F b) E w tmps sl:=fun d v hl=>by
 obtain⟨x,hx,hv⟩:=h.place (.slot d) v hl;refine⟨x,hx, ?_⟩;have:=lm hs d v hl;cases v<;>simp[mg]at this<;>exact hv
theorem Q1.move{A A':Nat→Prop}{E E':Env}{w w':World}{t:Array Value}{sl:List (Nat×SV)}(h:Q1 P A E w t sl)(hs:mh sl=true)(hA:∀b,b<w.heap.size→¬A b→¬A' b∧w'.heap[b]?=w.heap[b]?)
  (ho:∀d v o,aj d sl=some v→v.pts o=true→E'.obj o=E.obj o):Q1 P A' E' w' t sl:=fun d v hl=>by
 obtain⟨x,hx,hv⟩:=h d v hl;refine⟨x,hx, ?_⟩;have hst:=lm hs d v hl;cases v<;>simp[mg]at hst
 ·cases hv with|pv _ _ hv=>exact .pv _ _ (hv.mono hA)
 ·cases hv;exact .nils
 ·rename_i o off;cases hv
  have:=ho d _ o hl (by simp[SV.pts])
  rw[←this];exact .ptr (E:=E') o off
 ·rename_i f caps;cases hv with|fn _ _ vs hl2 h1 h2=>
  cases caps with
  |nil=>exact .fn _ [] vs hl2 h1 (by simp)
  |cons c r=>simp at hst
theorem Rel.frame{t':Array Value}{n':Nat}{sl':List (Nat×SV)}(h:Rel P O0 w0 F s E tmps w)(hs:mh sl'=true)(hsl:Q1 P (fun b=>E.om b∨F b) E w t' sl')(hn:n'=t'.size)(hpt:∀d v o,aj d sl'=some v→v.pts o=true→∃y,aj o s.hp=some y):
  Rel P O0 w0 F ⟨n',sl',s.hp⟩ E t' w:=by
 have hslot:∀d v,aj d sl'=some v→mg v=true:=fun d v hl=>lm hs d v hl
 have hcell:∀p v,(St.mk n' sl' s.hp).at p=some v→(∃d,p= .slot d∧aj d sl'=some v)∨((∃o i,p= .cell o i)∧s.at p=some v):=by
  intro p v hp;cases p with
  |slot d=>exact .inl ⟨d,rfl,hp⟩
  |part d i=>
   simp only[St.at]at hp;split at hp
   ·rename_i vs hvs;have:=hslot d _ hvs;simp[mg]at this
   ·cases hp
  |cell o i=>exact .inr ⟨⟨o,i,rfl⟩,hp⟩
 have hown:∀p e xs,(St.mk n' sl' s.hp).at p=some (.own e xs)→(∃o i,p= .cell o i)∧s.at p=some (.own e xs):=by
  intro p e xs hp;rcases hcell p _ hp with⟨d,rfl,hl⟩|h2
  ·have:=hslot d _ hl;simp[mg]at this
  ·exact h2
 refine { place:= ?_,obj:=h.obj,size:=hn,i1:=h.i1,i2:=fun p q e xs e' ys b hp hq=>h.i2 p q e xs e' ys b (hown p e xs hp).2 (hown q e' ys hq).2,i3:=fun p e xs o y b hp=>h.i3 p e xs o y b (hown p e xs hp).2,om_lt:=h.om_lt,om0:=h.om0,na:= ?_,np:= ?_,gr:=h.gr,flt:=h.flt,ob:=h.ob }
 ·intro p v hp;rcases hcell p v hp with⟨d,rfl,hl⟩|⟨⟨o,i,rfl⟩,h2⟩
  ·obtain⟨x,hx,hv⟩:=hsl d v hl;refine⟨x,hx, ?_⟩;have:=hslot d v hl;cases v<;>simp[mg]at this<;>exact hv
  ·exact h.place _ v h2
 ·intro p v q hp hq;rcases hcell p v hp with⟨d,rfl,hl⟩|⟨⟨o,i,rfl⟩,h2⟩
  ·have:=hslot d v hl;cases v<;>simp[mg]at this<;>simp[SV.on]at hq
  ·obtain⟨⟨d,h3⟩,_⟩:=h.na _ v q h2 hq;cases h3
 ·intro p v o hp ho;rcases hcell p v hp with⟨d,rfl,hl⟩|⟨⟨o',i,rfl⟩,h2⟩
  ·exact hpt d v o hl ho
  ·exact h.np _ v o h2 ho
end
def fv:List Tmp→List PV→List (Nat×SV)→List (Nat×SV)
 |t::ts,p::ps,sl=>fv ts ps ((t,.pv p)::sl)
 |_,_,sl=>sl
theorem u6:∀(ts:List Tmp) (ps:List PV) (sl:List (Nat×SV)),mh sl=true→mh (fv ts ps sl)=true
 |[],_,sl,h=>by simpa[fv]using h
 |t::ts,[],sl,h=>by simpa[fv]using h
 |t::ts,p::ps,sl,h=>u6 ts ps _ (by simp[mh,mg,h])
theorem Az:∀(ts:List Tmp) (ps:List PV) (sl:List (Nat×SV)) (d:Nat) (v:SV) (o:Nat),aj d (fv ts ps sl)=some v→v.pts o=true→∃d',aj d' sl=some v
 |[],_,sl,d,v,o,h,_=>⟨d,by simpa[fv]using h⟩
 |t::ts,[],sl,d,v,o,h,_=>⟨d,by simpa[fv]using h⟩
 |t::ts,p::ps,sl,d,v,o,h,hp=>by
  obtain⟨d',h1⟩:=Az ts ps _ d v o h hp;simp only[aj]at h1;split at h1
  ·cases h1;simp[SV.pts]at hp
  ·exact⟨d',h1⟩
theorem Dt{P:Program}{A:Nat→Prop}{E:Env}{w:World}:∀(ts:List Tmp) (ps:List PV) (vals:List Value) (t:Array Value) (sl:List (Nat×SV)),vals.length=ps.length→ps.length=ts.length→(∀x∈ts,x<t.size)→Q1 P A E w t sl→(∀(i:Nat) (p:PV) (x:Value),ps[i]?=some p→vals[i]?=some x→RO A w p x)→
  Q1 P A E w ((ts.zip vals).foldl (fun tmps q=>tmps.setIfInBounds q.1 q.2) t) (fv ts ps sl)
 |[],ps,vals,t,sl,_,_,_,h,_=>by simpa[fv]using h
 |x::ts,[],vals,t,sl,_,h2,_,h,_=>by simp at h2
 |x::ts,p::ps,[],t,sl,h1,_,_,h,_=>by simp at h1
 |x::ts,p::ps,v::vals,t,sl,h1,h2,h3,h,hr=>by
  simp only[List.zip_cons_cons,z09,fv];refine Dt ts ps vals _ _ (by simpa using h1) (by simpa using h2) (fun y hy=>by simpa using h3 y (by simp[hy])) (fun d u hl=> ?_) (fun i q y hq hy=>hr (i+1) q y (by simpa using hq) (by simpa using hy))
  simp only[aj]at hl;by_cases hd:x=d
  ·subst hd;rw[if_pos rfl]at hl;cases hl
   exact⟨v,by simp[h3 x (by simp)],.pv _ _ (hr 0 p v rfl rfl)⟩
  ·rw[if_neg hd]at hl;obtain⟨y,hy,hv⟩:=h d u hl;exact⟨y,by rw[Array.getElem?_setIfInBounds_ne hd];exact hy,hv⟩
def Vq(D:Nat):Deferred:= { target:= .collected D,args:= #[] }
def RF(C:Cx):Cx:=fun B d=> ∃B0 d0 D,C B0 d0∧d=Vq D::d0∧(∀b,B0.F b→B.F b)∧(∀b,B0.F b→b<B0.w.heap.size)∧(∀b,B.O.blk b→B0.O.blk b∨B0.w.heap.size≤b)∧Grow B0.O.blk B0.w B.w∧
 (∀o b,B0.O.ob o=some b→B.O.ob o=some b)∧¬B.O.blk D∧D<B.w.heap.size∧B0.w.heap.size≤D∧B.w.heap[D]?=some (.deferred (some []))∧B.F D
end Go.Ck
namespace Go.Ck
open Go.RowKit
def CL(P:Program)(B0:Bs)(n:Nat)(sl0:List (Nat×SV))(os:List Nat)(t:Array Value)(l D:Nat)(r:Loop)(hp:List (Nat×HO))(B:Bs):Prop:=
 ∃Ec,Rel P ⟨Ec.om,d9 Ec hp⟩ B.w (fun b=>B0.F b∨B.O.blk b∨b=l∨b=D) ⟨n,sl0,hp⟩ Ec t B.w∧(∀b,Ec.om b→B.F b)∧(∀b,B0.F b→B.F b)∧B.F l∧B.F D∧B.w.heap[D]?=some (.deferred (some []))∧B.w.heap[l]?=some (.loop r)∧
  (∀b,Ec.om b→B0.O.blk b∨B0.w.heap.size≤b)∧(∀b,B.O.blk b→(B0.O.blk b∨B0.w.heap.size≤b)∧¬B.F b)∧Grow B0.O.blk B0.w B.w∧(∀o b,B0.O.ob o=some b→Ec.obj o=b∧∃y,aj o hp=some y)∧(∀o y,aj o hp=some y→o∈os)∧D≠l∧B0.w.heap.size≤l∧B0.w.heap.size≤D
def af8:Exit→Option Code
 | .ret=>some .ret
 | .exit id=>some (.exit id)
 |_=>none
def uu(os:List Nat)(hp:List (Nat×HO)):Bool:=os.all fun o=>match aj o hp with|some _=>true|none=>false
def agy(P:Program)(n:Nat)(sl0:List (Nat×SV))(os:List Nat)(params:List Tmp)(assign body:Code)(I I':List (Nat×HO)→Prop)(Xj:Code→List (Nat×HO)→Prop)(p:List PV):Prop:=
 ∀hp,I hp→∀(l:Nat) (C1:Cx),AW P (some l) (fun e C' s'=>C'=C1∧e= .normal∧∀C2,AW P (some l) (fun e C' s''=>C'=C2∧yd [] os s''.hp os=true∧uu os s''.hp=true∧((e= .normal∧I' (qf os s''.hp))∨(∃j,af8 e=some j∧Xj j (qf os s''.hp)))) .normal [.code body] C2 s')
  .normal [.code assign] C1 ⟨n,fv params p sl0,hp⟩
theorem jv{M:Nat→Prop}{w:World}{l:Nat}{o:Obj}(hM:M l):Grow M w (w.putObj l o):=⟨rfl,rfl,rfl,by simp[World.putObj],fun b hb hn=>World.putObj_heap_other (fun h=>hn (by rw[h];exact hM))⟩
theorem oe{E:Env}{hp:List (Nat×HO)}{o b:Nat}(h:d9 E hp o=some b):E.obj o=b∧∃y,aj o hp=some y:=by
 unfold d9 at h;split at h
 ·rename_i y hy;cases h;exact⟨rfl,y,hy⟩
 ·cases h
section
variable {P : Program} {B0 : Bs} {n : Nat} {sl0 : List (Nat × SV)} {os : List Nat} {t : Array Value} {l D : Nat} {params : Array Tmp} {assign body : Code} {fn : FuncId}
theorem ajy{r r':Loop}{hp:List (Nat×HO)}{B:Bs}{M:Nat→Prop}{w w3:World}{Ec E2:Env}{s2:St}{t2:Array Value}
  (hcl:CL P B0 n sl0 os t l D r hp B) (hst:mh sl0=true) (hn:n=t.size)
  (hEc:Rel P ⟨Ec.om,d9 Ec hp⟩ w (fun b=>B0.F b∨M b∨b=l∨b=D) ⟨n,sl0,hp⟩ Ec t w) (hEF:∀b,Ec.om b→B.F b) (hE0:∀b,Ec.om b→B0.O.blk b∨B0.w.heap.size≤b) (hEob:∀o b,B0.O.ob o=some b→Ec.obj o=b∧∃y,aj o hp=some y)
  (hM:∀b,M b→(B.O.blk b∨B.w.heap.size≤b)∧b<w.heap.size∧¬B.F b) (hBF:∀b,B.F b→b<B.w.heap.size) (hgw:Grow B.O.blk B.w w)
  (h2:Rel P ⟨fun b=>Ec.om b∨b=l,d9 Ec hp⟩ w (fun b=>B0.F b∨M b∨b=l∨b=D) s2 E2 t2 w3) (hk:yd [] os s2.hp os=true) (hall:uu os s2.hp=true) (hl3:∃r3,w3.heap[l]?=some (.loop r3)):
  CL P B0 n sl0 os t l D r' (qf os s2.hp) ⟨⟨M,fun _=>none⟩,w3.putObj l (.loop r'),fun b=>E2.om b∨B.F b⟩∧Grow B.F w (w3.putObj l (.loop r'))∧(∀b,(E2.om b∨B.F b)→b<(w3.putObj l (.loop r')).heap.size)∧(∀b,b<w.heap.size→(E2.om b∨B.F b)→B.F b):=by
 obtain⟨E0,g1,g2,g3,g4,g5,g6,g7,g8,g9,g10,g11,g12,g13,g14,g15⟩:=hcl;have hnames:∀o,o∈os→∃y,aj o s2.hp=some y:=by
  intro o ho;have:=z00.1 hall o ho;split at this
  ·rename_i y hy;exact⟨y,hy⟩
  ·cases this
 have hkeep:=h2.keepG [] os (by simp[Hv]) hk (fun o b hb=>by
  obtain⟨_,y,hy⟩:=oe hb;exact g12 o y hy)
 have hom2:∀b,E2.om b→Ec.om b∨w.heap.size≤b:=fun b hb=>by
  rcases h2.om0 b hb with(h3|h3)|h3
  ·exact .inl h3
  ·exact absurd (.inr (.inr (.inl h3))) (h2.om_lt b hb).2
  ·exact .inr h3
 have hsz:w.heap.size≤w3.heap.size:=h2.gr.size;have hobj:∀o y,aj o hp=some y→E2.obj o=Ec.obj o:=by
  intro o y hy;exact(h2.ob o (Ec.obj o) (by simp[d9,hy])).1
 have hsl:=(hEc.slOK hst).move (A':=fun b=>E2.om b∨(B0.F b∨M b∨b=l∨b=D)) (E':=E2) (w':=w3) hst (fun b hb hn=>⟨fun h1=>hn (h1.elim (fun h3=>(hom2 b h3).elim .inl (fun h4=>absurd hb (by omega))) .inr),h2.gr.block b hb (fun h1=>hn (h1.elim .inl (fun h3=> .inr (.inr (.inr (.inl h3))))))⟩) (fun d v o hl ho=>by
  obtain⟨y,hy⟩:=hEc.np (.slot d) v o hl ho;exact hobj o y hy)
 have hfr:=hkeep.frame (t':=t) (n':=n) hst hsl hn (fun d v o hl ho=>by
  obtain⟨y,hy⟩:=hEc.np (.slot d) v o hl ho;have hos:=g12 o y hy;obtain⟨z,hz⟩:=hnames o hos;exact⟨z,by simp only[Ck.keepB];rw[jc,if_pos hos];exact hz⟩)
 obtain⟨r3,hl3⟩:=hl3;have hlt3:l<w3.heap.size:=(z01.1 hl3).1;have hsz4:(w3.putObj l (.loop r')).heap.size=w3.heap.size:=by simp[World.putObj]
 have hsleep:=hfr.sleep (w':=w3.putObj l (.loop r')) (F':=fun b=>B0.F b∨M b∨b=l∨b=D) (ob':=d9 E2 (qf os s2.hp)) (jv (.inr (.inr (.inl rfl)))) (fun b hb=>by rw[hsz4];exact z03 (h2.flt b hb) hsz) (fun b _ hb=>hb) (fun o b hb=>oe hb)
 have hBl:B.w.heap.size≤w.heap.size:=hgw.size;have hE2F:∀b,b<w.heap.size→E2.om b→B.F b:=fun b hb h3=>(hom2 b h3).elim (fun h4=>hEF b h4) (fun h4=>absurd hb (by omega))
 have hw3l:∀b,b<w.heap.size→¬B.F b→w3.heap[b]?=w.heap[b]?:=fun b hb hn=>h2.gr.block b hb (fun h1=>hn (h1.elim (hEF b) (fun h3=>by rw[h3];exact g4)))
 have hDl:D<w.heap.size:=by have:=hBF D g5;omega
 have hD3:w3.heap[D]?=some (.deferred (some [])):=by
  have e1:w3.heap[D]?=w.heap[D]?:=h2.gr.block D hDl (fun h1=>h1.elim (fun h3=>(hEc.om_lt D h3).2 (.inr (.inr (.inr rfl)))) (fun h3=>g13 h3))
  have e2:w.heap[D]?=B.w.heap[D]?:=hgw.block D (hBF D g5) (fun h1=>(g9 D h1).2 g5)
  rw[e1,e2];exact g6
 refine⟨⟨E2, ?_,fun b hb=> .inl hb,fun b hb=> .inr (g3 b hb),.inr g4,.inr g5, ?_, ?_, ?_, ?_, ?_, ?_, ?_,g13,g14,g15⟩,⟨?_, ?_, ?_, ?_, ?_⟩, ?_, ?_⟩
 ·exact hsleep
 ·rw[World.putObj_heap_other g13];exact hD3
 ·exact World.putObj_heap_same hlt3
 ·intro b hb;rcases hom2 b hb with h3|h3
  ·exact hE0 b h3
  ·have:=g10.size;exact .inr (by omega)
 ·intro b hb;obtain⟨k1,k2,k3⟩:=hM b hb;refine⟨k1.elim (fun h3=>(g9 b h3).1) (fun h3=> .inr (by have:=g10.size;omega)), ?_⟩
  rintro(h3|h3)
  ·exact(h2.om_lt b h3).2 (.inr (.inl hb))
  ·exact k3 h3
 ·
  have e1:Grow B0.O.blk B0.w w:=g10.trans hgw (fun b hb=>(g9 b hb).1)
  have e2:Grow B0.O.blk B0.w w3:=e1.trans h2.gr (fun b hb=>hb.elim (hE0 b) (fun h3=>by rw[h3];exact .inr g14))
  refine e2.trans (M1:=fun b=>b=l) (jv rfl) (fun b hb=> ?_)
  rw[hb];exact .inr g14
 ·intro o b hb;obtain⟨k1,y,hy⟩:=hEob o b hb;have hos:=g12 o y hy;obtain⟨z,hz⟩:=hnames o hos;exact⟨by rw[hobj o y hy];exact k1,z,by rw[jc,if_pos hos];exact hz⟩
 ·intro o y hy;rw[jc]at hy;split at hy
  ·assumption
  ·cases hy
 ·exact h2.gr.os
 ·exact h2.gr.tape
 ·exact h2.gr.output
 ·rw[hsz4];exact hsz
 ·intro b hb hn;rw[World.putObj_heap_other (by rintro rfl;exact hn g4)]
  exact hw3l b hb hn
 ·rintro b (hb|hb)
  ·rw[hsz4];exact(h2.om_lt b hb).1
  ·rw[hsz4];have:=hBF b hb;omega
 ·rintro b hb (h3|h3)
  ·exact hE2F b hb h3
  ·exact h3
end
end Go.Ck
namespace Go.Ck
open Go.RowKit
theorem Grow.weaken{M M':Nat→Prop}{w w':World}(h:Grow M w w')(hM:∀b,M b→M' b):Grow M' w w':=⟨h.os,h.tape,h.output,h.size,fun b hb hn=>h.block b hb (fun h1=>hn (hM b h1))⟩
theorem adv(t:Array Value)(params:Array Tmp)(vals:List Value):((params.zip vals.toArray).foldl (fun tmps (q:Tmp×Value)=>tmps.setIfInBounds q.1 q.2) t)=(params.toList.zip vals).foldl (fun tmps q=>tmps.setIfInBounds q.1 q.2) t:=by
 rw[←Array.foldl_toList,Array.toList_zip]
theorem Wd(l:List (Tmp×Value))(t:Array Value):(l.foldl (fun tmps q=>tmps.setIfInBounds q.1 q.2) t).size=t.size:=by
 induction l generalizing t with
 |nil=>rfl
 |cons q l ih=>rw[z09,ih];simp
section
variable {P : Program} {B0 : Bs} {n : Nat} {sl0 : List (Nat × SV)} {os : List Nat} {t : Array Value} {l D : Nat} {params : Array Tmp} {assign body : Code} {fn : FuncId} {I I' : List (Nat × HO) → Prop} {Xj : Code → List (Nat × HO) → Prop} {p : List PV}
def lq(fn:FuncId)(t:Array Value)(params:Array Tmp)(assign body:Code)(D:Nat)(st:LoopState)(pend:Option Code):Loop:= { state:=st,pending:=pend,fn,tmps:=t,params,assign,body,defers:=D }
theorem aht(hst:mh sl0=true)(hn:n=t.size)(hR:agy P n sl0 os params.toList assign body I I' Xj p)(hpl:p.length=params.size)(hpn:∀x∈params.toList,x<n)(hG0:Gj P (fun b=>B0.O.blk b∨B0.F b) B0.w):
  Hb P l (fun B=> ∃hp,I hp∧CL P B0 n sl0 os t l D (lq fn t params assign body D .ready none) hp B) p (fun B=> ∃hp,I' hp∧CL P B0 n sl0 os t l D (lq fn t params assign body D .ready none) hp B)
   (fun B=> ∃j hp,Xj j hp∧CL P B0 n sl0 os t l D (lq fn t params assign body D .done (some j)) hp B):=by
 rintro B M w vals ⟨hp,hI,hcl⟩ hM hBF hgw hvl hvr;have hcl0:=hcl;obtain⟨Ec,g1,g2,g3,g4,g5,g6,g7,g8,g9,g10,g11,g12,g13,g14,g15⟩:=hcl;have hsz:=hgw.size;have hlB:=hBF l g4;have hDB:=hBF D g5;have hEc:=g1.sleep (w':=w) (F':=fun b=>B0.F b∨M b∨b=l∨b=D) (ob':=d9 Ec hp) (hgw.weaken (fun b hb=> .inr (.inl hb))) (fun b hb=>by
   rcases hb with h|h|rfl|rfl
   ·have:=hBF b (g3 b h);omega
   ·exact(hM b h).2.1
   ·omega
   ·omega) (fun b hb h=>by
   rcases h with h|h|h|h
   ·exact .inl h
   ·rcases(hM b h).1 with h1|h1
    ·exact .inr (.inl h1)
    ·omega
   ·exact .inr (.inr (.inl h))
   ·exact .inr (.inr (.inr h))) (fun o b hb=>oe hb)
 have hwl:w.heap[l]?=some (.loop (lq fn t params assign body D .ready none)):=by
  rw[hgw.block l hlB (fun h=>(g9 l h).2 g4)];exact g7
 have hG:∀(om:Nat→Prop) (w':World),(∀b,om b→B0.O.blk b∨B0.w.heap.size≤b)→Grow (fun b=>Ec.om b∨b=l) w w'→Gj P (fun b=>om b∨(B0.F b∨M b∨b=l∨b=D)) w':=by
  intro om w' h1 h2;refine hG0.mono (fun b hb hnb=>⟨?_, ?_⟩) (z06 (z06 g10.size hsz) h2.size)
  ·have hbl:b≠l:=by omega
   have hbD:b≠D:=by omega
   rintro(h|h|h|h|h)
   ·rcases h1 b h with h3|h3
    ·exact hnb (.inl h3)
    ·omega
   ·exact hnb (.inr h)
   ·rcases(hM b h).1 with h3|h3
    ·rcases(g9 b h3).1 with h4|h4
     ·exact hnb (.inl h4)
     ·omega
    ·have:=g10.size;omega
   ·exact hbl h
   ·exact hbD h
  ·have e1:B.w.heap[b]?=B0.w.heap[b]?:=g10.block b hb (fun h=>hnb (.inl h))
   have hbB:b<B.w.heap.size:=z03 hb g10.size;have e2:w.heap[b]?=B.w.heap[b]?:=hgw.block b hbB (fun h=>(g9 b h).1.elim (fun h4=>hnb (.inl h4)) (fun h4=>by omega))
   have e3:w'.heap[b]?=w.heap[b]?:=h2.block b (by omega) (fun h=>h.elim (fun h3=>(g8 b h3).elim (fun h4=>hnb (.inl h4)) (fun h4=>by omega)) (fun h3=>by omega))
   rw[e3,e2,e1]
 let t1:=(params.toList.zip vals).foldl (fun tmps q=>tmps.setIfInBounds q.1 q.2) t
 have hsl1:Q1 P (fun b=>Ec.om b∨(B0.F b∨M b∨b=l∨b=D)) Ec w t1 (fv params.toList p sl0):=
  Dt params.toList p vals t sl0 hvl (by simpa using hpl) (fun x hx=>by rw[←hn];exact hpn x hx) (hEc.slOK hst) (fun i q x hq hx=>(hvr i q x hq hx).sub (fun b hb h=>hb (by
   rcases h with h|h|h|h|h
   ·exact .inr (g2 b h)
   ·exact .inr (g3 b h)
   ·exact .inl h
   ·rw[h];exact .inr g4
   ·rw[h];exact .inr g5)))
 have hfr:=hEc.frame (t':=t1) (n':=n) (u6 _ _ _ hst) hsl1 (by rw[hn,Wd]) (fun d v o hl ho=>by
  obtain⟨d',h1⟩:=Az _ _ _ d v o hl ho;exact hEc.np (.slot d') v o h1 ho)
 have hy:=run_yield (P:=P) (args:=vals.toArray) hwl (by simp[lq,hvl,hpl])
 refine⟨fn,t1,assign,body, ?_,roundIn_of_wpIn (F:=Fence.wide) trivial ?_⟩
 ·rw[hy];have:=adv t params vals;simp only[lq];exact congrArg (fun z=>Result.ok (Next.round l fn z assign body) w) this
 let Bc1:Bs:=⟨⟨Ec.om,d9 Ec hp⟩,w,fun b=>B0.F b∨M b∨b=l∨b=D⟩
 have hA:=hR hp hI l (fun B' d=>d=[]∧B'=Bc1) Bc1 { tmps:=t1,defers:=[] } w ⟨⟨⟨rfl,rfl⟩,fun o ho=>by simp[lim]at ho,hG Ec.om w g8 (nc _ _)⟩,Ec,hfr⟩
 simp only[mz]at hA;refine wpIn_mono hA (fun e a1 w1 hq=> ?_)
 obtain⟨C',s',B',⟨rfl,rfl,hbody⟩,⟨⟨hd1,rfl⟩,_,_⟩,E1,h1⟩:=hq;have hlw:l<w.heap.size:=by omega
 have hw1l:w1.heap[l]?=some (.loop (lq fn t params assign body D .ready none)):=by
  rw[h1.gr.block l hlw (fun h=>(hEc.om_lt l h).2 (.inr (.inr (.inl rfl))))];exact hwl
 have hbr:=run_beginRound (P:=P) hw1l rfl;refine⟨_,hbr, ?_⟩
 let w2:=w1.putObj l (.loop (lq fn t params assign body D .busy none))
 have hw2:w2=w1.putObj l (.loop { (lq fn t params assign body D .ready none)with state:= .busy }):=rfl
 rw[←hw2];have h1':=h1.sleep (w':=w2) (F':=Bc1.F) (ob':=d9 Ec hp) (jv (.inr (.inr (.inl rfl)))) (fun b hb=>by
  have:=h1.flt b hb;have:=h1.gr.size;simp only[w2,World.putObj,z04];omega) (fun b _ hb=>hb) h1.ob
 have hE1:∀b,E1.om b→Ec.om b∨w.heap.size≤b:=h1.om0
 have hg12:Grow (fun b=>Ec.om b∨b=l) w w2:=(h1.gr.weaken (fun b hb=> .inl hb)).trans (M1:=fun b=>b=l) (jv rfl) (fun b hb=> .inl (.inr hb))
 let Bc2:Bs:=⟨⟨E1.om,d9 Ec hp⟩,w2,Bc1.F⟩
 have hBd:=hbody (fun B' d=>d=[]∧B'=Bc2) Bc2 a1 w2 ⟨⟨⟨hd1,rfl⟩,fun o ho=>by simp[lim]at ho,hG E1.om w2 (fun b hb=>(hE1 b hb).elim (g8 b) (fun h=> .inr (by have:=g10.size;omega))) hg12⟩,E1,h1'⟩
 simp only[mz]at hBd;refine wpIn_mono hBd (fun e a2 w3 hq=> ?_)
 obtain⟨C',s2,B',⟨rfl,hk,hall,hend⟩,⟨⟨hd2,rfl⟩,_,_⟩,E2,h2⟩:=hq;have hl12:l<w1.heap.size:=(z01.1 hw1l).1;have hw2l:w2.heap[l]?=some (.loop (lq fn t params assign body D .busy none)):=World.putObj_heap_same hl12;have hw3l:w3.heap[l]?=some (.loop (lq fn t params assign body D .busy none)):=by
  rw[h2.gr.block l (z01.1 hw2l).1 (fun h=>(h1'.om_lt l h).2 (.inr (.inr (.inl rfl))))];exact hw2l
 have hg13:Grow (fun b=>Ec.om b∨b=l) w w3:=hg12.trans h2.gr (fun b hb=>(hE1 b hb).imp .inl id)
 have hE2:∀b,E2.om b→Ec.om b∨w.heap.size≤b:=fun b hb=>by
  rcases h2.om0 b hb with h|h
  ·exact hE1 b h
  ·have:=hg12.size;exact .inr (z06 this h)
 have h2':Rel P ⟨fun b=>Ec.om b∨b=l,d9 Ec hp⟩ w (fun b=>B0.F b∨M b∨b=l∨b=D) s2 E2 a2.tmps w3:=h2.rebase (fun b hb=>hb) (fun b hb=>(hE2 b hb).imp .inl id) hg13 h1.flt h2.ob
 have fin:∀r',CL P B0 n sl0 os t l D r' (qf os s2.hp) ⟨⟨M,fun _=>none⟩,w3.putObj l (.loop r'),fun b=>E2.om b∨B.F b⟩∧Grow B.F w (w3.putObj l (.loop r'))∧(∀b,(E2.om b∨B.F b)→b<(w3.putObj l (.loop r')).heap.size)∧(∀b,b<w.heap.size→(E2.om b∨B.F b)→B.F b):=fun r'=>
  ajy hcl0 hst hn hEc g2 g8 g11 hM hBF hgw h2' hk hall ⟨_,hw3l⟩
 rcases hend with⟨rfl,hI'⟩|⟨j,hj,hX⟩
 ·obtain⟨f1,f2,f3,f4⟩:=fin (lq fn t params assign body D .ready none);exact⟨_,_,run_endRound none hw3l,true,_,rfl,⟨_,hI',f1⟩,f2,f3,f4⟩
 ·obtain⟨f1,f2,f3,f4⟩:=fin (lq fn t params assign body D .done (some j));cases e<;>simp[af8]at hj
  ·subst hj;exact⟨_,_,run_endRound _ hw3l,false,_,rfl,⟨_,_,hX,f1⟩,f2,f3,f4⟩
  ·subst hj;exact⟨_,_,run_endRound _ hw3l,false,_,rfl,⟨_,_,hX,f1⟩,f2,f3,f4⟩
end
end Go.Ck
namespace Go.Ck
open Go.RowKit
def aJp(os:List Nat)(H:List (Nat×HO)):Bool:=os.all fun o=>match aj o H with|some _=>false|none=>true
section
variable {P : Program} {Φ : Exit → Cx → St → Prop} {k : List It} {C : Cx} {s : St}
theorem AW.rangeFunc{g:Operand}{params:Array Tmp}{assign body:Code}{f:FuncId}{caps:List SV}{H:List (Nat×HO)}{xs:Nat→Option (List PV)}{sl0:List (Nat×SV)}{hp0:List (Nat×HO)}(ds os:List Nat)
  (I:Nat→List (Nat×HO)→Prop) (Xj:Code→List (Nat×HO)→Prop) (N:Nat) (hI:afh P f caps H xs) (hg:ev s g=some (.fn f caps))
  (hH:HM s id H) (hB:Hc id H caps [] none=true) (hk0:qi none ds os s=true) (hs0:Ck.keepB ds os s=⟨s.n,sl0,hp0⟩) (hdis:aJp os H=true) (hst:mh sl0=true) (hall:uu os hp0=true) (hpn:params.toList.all (fun x=>decide (x<s.n))=true)
  (h0:I 0 hp0) (hlen:∀i p,xs i=some p→p.length=params.size) (hN:∀i,i<N→∃p,xs i=some p) (hlim:xs N=none∨∀hp,¬I N hp)
  (hround:∀i p,i<N→xs i=some p→agy P s.n sl0 os params.toList assign body (I i) (I (i+1)) Xj p)
  (hdone:∀hp,xs N=none→I N hp→AW P none Φ .normal k (RF C) ⟨s.n,sl0,hp⟩)
  (hjump:∀j hp,Xj j hp→AW P none Φ .normal (.code j::k) (RF C) ⟨s.n,sl0,hp⟩):
  AW P none Φ .normal (.code (.rangeFunc g params assign body)::k) C s:=fun B0 a w ha=>by
 obtain⟨⟨hC,hob0,hG0⟩,E,h⟩:=ha;simp only[mz];obtain⟨⟨fn,hfn,hname,hbody⟩,hI⟩:=hI;obtain⟨cvs,e1,e2,e3⟩:=(cq h hg).fn_inv;have hlt:=World.size_alloc w (.deferred (some []));have hck:=CallOK.ofB hH hB;have hH':∀o y,aj o H=some y→aj o s.hp=some (y.ren id):=fun o y hy=>hck.hH o y hy
 have hren:∀y:HO,y.ren id=y:=fun y=>by
  cases y with
  |cells e cs=>
   simp only[HO.ren];have:SV.ren id=id:=funext az8;rw[this,List.map_id]
  |mp es=>rfl
 have hsimple:caps.all dr=true:=by
  have:=cq h hg;generalize a.eval g=z at this;cases this with|fn _ _ _ _ h1 _=>exact h1
 let vals:List Value:= .func (.yield (w.heap.size+1)) #[] #[]::cvs
 let args:List SV:= .yl (w.heap.size+1)::caps
 have hnoown:∀(i:Nat) (e:TypeId) (ys:List PV),args[i]?≠some (.own e ys):=by
  intro i e ys he;cases i with
  |zero=>simp[args]at he
  |succ i=>
   simp only[args,z08]at he;have:=z00.1 hsimple _ (z02 he);simp[dr]at this
 have hargs:Args P (fun b=>E.om b∨B0.F b) s E id H (fun _=>False) w args vals:=by
  refine⟨by simp[args,vals,e2],fun i e ys x hi _=>absurd hi (hnoown i e ys),fun i c x hi hx=> .inr ?_,fun i c o hi ho=> ?_,fun i j e ys e' zs x y b hi=>absurd hi (hnoown i e ys)⟩
  ·cases i with
   |zero=>
    simp only[args,vals,z07,Option.some.injEq]at hi hx;subst hi;subst hx
    exact⟨rfl,by simp[SV.on],.yl _⟩
   |succ i=>
    simp only[args,vals,z08]at hi hx;have h2:=z00.1 hsimple _ (z02 hi);have h3:=e3 i c x hi hx;cases c<;>simp[dr]at h2
    ·refine⟨rfl,by simp[SV.on], ?_⟩
     cases h3 with|pv _ _ h3=>exact .pv _ _ (h3.sub (fun b hb h=>hb h.1))
    ·refine⟨rfl,by simp[SV.on], ?_⟩
     cases h3
     exact .ptr (E:=Gq E id H args vals) _ _
  ·cases i with
   |zero=>simp only[args,z07,Option.some.injEq]at hi;subst hi;simp[SV.pts]at ho
   |succ i=>exact hck.pts c (z02 (by simpa[args]using hi)) o ho
 have hent:=Ln h (ρ:=id) (H:=H) (Lt:=fun _=>False) (args:=args) (vals:=vals) hH' hck.inj hck.hp (fun b hb=>hb.elim) hargs
 let Om:Nat→Prop:=xz E id H args vals
 have hOmE:∀b,Om b→E.om b:=fun b hb=>yn h hargs hH' hb
 let D:=w.heap.size
 let l:=w.heap.size+1
 let r0:Loop:=lq 0 a.tmps params assign body D .ready none
 refine wpIn_rangeFunc (F:=eg none) (fun fnn _=> ?_)
 let w2:World:=(w.alloc (.deferred (some []))).alloc (.loop (lq fnn a.tmps params assign body D .ready none))
 have hgr2:∀(M:Nat→Prop),Grow M w w2:=fun M=>⟨rfl,rfl,rfl,by simp[w2];omega,fun b hb _=>by
  simp only[w2];rw[heap_alloc_old _ _ (by simp;omega),heap_alloc_old _ _ hb]⟩
 have hsz2:w2.heap.size=w.heap.size+2:=by simp[w2]
 have hD2:w2.heap[D]?=some (.deferred (some [])):=by
  simp only[w2,D];rw[heap_alloc_old _ _ (by simp)]
  exact World.alloc_heap_new w _
 have hl2:w2.heap[l]?=some (.loop (lq fnn a.tmps params assign body D .ready none)):=by
  simp only[w2,l];have:=World.alloc_heap_new (w.alloc (.deferred (some []))) (.loop (lq fnn a.tmps params assign body D .ready none));rw[World.size_alloc]at this;exact this
 refine⟨l,[Vq D],w2,{ target:= .fn (.func f) cvs.toArray,args:= #[.func (.yield l) #[] #[]] },w2,f,vals.toArray,w2,run_enterLoop_outer fnn a.tmps params assign body, ?_,fun _ _=>trivial, ?_,fun h=>by simp[eg,Fence.wide]at h, ?_⟩
 ·simp[resolve,rangeCall,e1,Deferred.ofValue];rfl
 ·have hbody':∃b,fn.body=some b:=by cases hb:fn.body with|none=>simp[hb]at hbody|some b=>exact⟨b,rfl⟩
  obtain⟨b,hb⟩:=hbody';have hname':¬fn.name= "runtime.NumGoroutine" :=by simpa using hname
  simp[invoke,callFunc,hfn,hname',hb,vals,l]
 let Fi:Nat→Prop:=fun b=>((E.om b∨B0.F b)∧¬Om b∧¬False)∨b=D∨b=l
 let B1:Bs:=⟨⟨Om,fun _=>none⟩,w2,Fi⟩
 have hFi:∀b,Fi b→b<w2.heap.size:=by
  rintro b (⟨h1|h1,_⟩|rfl|rfl)
  ·have:=(h.om_lt b h1).1;omega
  ·have:=h.flt b h1;have:=h.gr.size;omega
  ·simp only[D];omega
  ·simp only[l];omega
 have hit:Rel P ⟨Om,fun _=>none⟩ w2 Fi ⟨vals.length,c8 args 0,H⟩ (Gq E id H args vals) vals.toArray w2:=
  hent.sleep (F':=Fi) (ob':=fun _=>none) (hgr2 _) hFi (fun b hb h1=>h1.resolve_right (by simp only[D,l];omega)) (fun o b hb=>by cases hb)
 have hkeep:=h.keepB hob0 ds os hk0;rw[hs0]at hkeep;have hos:∀o y,aj o hp0=some y→o∈os∧aj o s.hp=some y∧aj o H=none:=by
  intro o y hy;have h1:hp0=qf os s.hp:=by have:=congrArg St.hp hs0;exact this.symm
  rw[h1,jc]at hy;split at hy
  ·rename_i hm;refine⟨hm,hy, ?_⟩;have:=z00.1 hdis o hm;split at this
   ·cases this
   ·assumption
  ·cases hy
 have hsub:∀p e ys,(St.mk s.n sl0 hp0).at p=some (.own e ys)→∃o i,p= .cell o i∧s.at p=some (.own e ys)∧aj o H=none:=by
  intro p e ys hp;cases p with
  |slot d=>
   have:=lm hst d _ hp;simp[mg]at this
  |part d i=>
   simp only[St.at]at hp;split at hp
   ·rename_i vs hvs;have:=lm hst d _ hvs;simp[mg]at this
   ·cases hp
  |cell o i=>
   rw[cv]at hp;split at hp
   ·rename_i y hy;obtain⟨k1,k2,k3⟩:=hos o y hy;exact⟨o,i,rfl,by rw[cv,k2];exact hp,k3⟩
   ·cases hp
 have hshr:=hkeep.shrink Om hOmE (fun o y hy hm=>by
   obtain⟨k1,k2,k3⟩:=hos o y hy;rcases hm with⟨o',y',h1,h2⟩|⟨o',y',i,e,ys,h1,h2,h3⟩|⟨i,e,ys,x,h1,_,_⟩
   ·have:=h.i1 _ _ _ _ (hH' o' y' h1) k2 h2;have he:o'=o:=this;rw[he,k3]at h1;cases h1
   ·have hat:s.at (.cell o' i)=some (.own e ys):=by
     rw[cv,hH' o' y' h1,hren];exact h2
    exact h.i3 _ e ys o y _ hat k2 h3 rfl
   ·exact hnoown i e ys h1) (fun p e ys b hp hb hm=>by
   obtain⟨o,i,rfl,k1,k2⟩:=hsub p e ys hp;rcases hm with⟨o',y',h1,h2⟩|⟨o',y',i',e',zs,h1,h2,h3⟩|⟨i',e',zs,x,h1,_,_⟩
   ·exact h.i3 _ e ys o' _ b k1 (hH' o' y' h1) hb h2
   ·have hat:s.at (.cell o' i')=some (.own e' zs):=by
     rw[cv,hH' o' y' h1,hren];exact h2
    have:=h.i2 _ _ _ _ _ _ b k1 hat hb h3;cases this
    rw[k2]at h1;cases h1
   ·exact hnoown i' e' zs h1) (ob':=d9 E hp0) (fun o b hb=>oe hb)
 have hsleep:=hshr.sleep (w':=w2) (F':=fun b=>B0.F b∨Om b∨b=l∨b=D) (ob':=d9 { E with om:=fun b=>E.om b∧¬Om b } hp0) (hgr2 _) (fun b hb=>by
   rcases hb with h1|h1|rfl|rfl
   ·have:=h.flt b h1;have:=h.gr.size;omega
   ·have:=(h.om_lt b (hOmE b h1)).1;omega
   ·simp only[l];omega
   ·simp only[D];omega) (fun b hb h1=>by
   rcases h1 with h1|h1|h1|h1
   ·exact .inl h1
   ·exact .inr h1
   ·simp only[l]at h1;omega
   ·simp only[D]at h1;omega) (fun o b hb=>oe hb)
 have hw0:B0.w.heap.size≤w.heap.size:=h.gr.size;have hcl:CL P B0 s.n sl0 os a.tmps l D (lq fnn a.tmps params assign body D .ready none) hp0 B1:=by
  refine⟨_,hsleep,fun b hb=> .inl ⟨.inl hb.1,hb.2,id⟩,fun b hb=> .inl ⟨.inr hb,fun h1=>(h.om_lt b (hOmE b h1)).2 hb,id⟩,.inr (.inr rfl),.inr (.inl rfl),hD2,hl2,fun b hb=>h.om0 b hb.1,fun b hb=>⟨h.om0 b (hOmE b hb), ?_⟩, ?_, ?_,fun o y hy=>(hos o y hy).1,by simp only[D,l];omega,by simp only[l];omega,hw0⟩
  ·rintro(⟨_,h1,_⟩|h1|h1)
   ·exact h1 hb
   ·have:=(h.om_lt b (hOmE b hb)).1;simp only[D]at h1;omega
   ·have:=(h.om_lt b (hOmE b hb)).1;simp only[l]at h1;omega
  ·exact h.gr.trans (hgr2 (fun _=>False)) (fun b hb=>hb.elim)
  ·intro o b hb;obtain⟨k1,y,hy⟩:=h.ob o b hb;have hmem:=hkeep.ob o b hb;exact⟨k1,hmem.2⟩
 have hnsz:s.n=a.tmps.size:=h.size;have hpn':∀x∈params.toList,x<s.n:=fun x hx=>by simpa using z00.1 hpn x hx
 let X:Nat→Bs→Prop:=fun i B=> ∃hp,I i hp∧CL P B0 s.n sl0 os a.tmps l D (lq fnn a.tmps params assign body D .ready none) hp B
 let X0:Bs→Prop:=fun B=> ∃j hp,Xj j hp∧CL P B0 s.n sl0 os a.tmps l D (lq fnn a.tmps params assign body D .done (some j)) hp B
 have hGi:Gj P (fun b=>Om b∨Fi b) w2:=(v8 hG0 h).mono (fun b hb hn=>⟨fun h1=>hn (by
   rcases h1 with h1|⟨h1,_⟩|h1|h1
   ·exact .inl (hOmE b h1)
   ·exact h1
   ·simp only[D]at h1;omega
   ·simp only[l]at h1;omega),(hgr2 (fun _=>False)).block b hb id⟩) (by omega)
 have hcalls:=hI l X X0 N (fun i hi=>by
   obtain⟨p,hp⟩:=hN i hi;exact⟨p,hp,aht hst hnsz (hround i p hi hp) (hlen i p hp) hpn' hG0⟩) (hlim.imp id (fun h1 B ⟨hp,h2,_⟩=>h1 hp h2)) B1 (Gq E id H args vals) vals (by simp[vals,e2]) ⟨hp0,h0,hcl⟩ (fun _ _=>rfl) hGi hit
 refine kd (hcalls.mono (fun e w3 he=> ?_))
 obtain⟨v,B',rfl,hend,hgr3,hflt3⟩:=he;have fin:∀(r:Loop) (hp:List (Nat×HO)) (k':List It),CL P B0 s.n sl0 os a.tmps l D r hp B'→r.state≠ .busy→AW P none Φ .normal k' (RF C) ⟨s.n,sl0,hp⟩→∃w4,(Instr.endLoop l).run P w3= .ok r.pending w4∧mz P none Φ k' .normal { a with defers:=[Vq D]++a.defers } w4:=by
  intro r hp k' hcl' hb hk;obtain⟨Ec,g1,g2,g3,g4,g5,g6,g7,g8,g9,g10,g11,g12,g13,g14,g15⟩:=hcl';have hnb:∀b,B'.F b→w3.heap[b]?=B'.w.heap[b]?:=fun b hb=>hgr3.block b (hflt3 b hb) (fun h1=>(g9 b h1).2 hb)
  have hl3:w3.heap[l]?=some (.loop r):=by rw[hnb l g4];exact g7
  refine⟨_,run_endLoop hl3 hb, ?_⟩;have hlt3:l<w3.heap.size:=(z01.1 hl3).1;have hsz3:=hgr3.size;have hR4:=g1.sleep (w':=w3.putObj l (.loop { r with state:= .exhausted })) (F':=fun b=>B0.F b∨b=D) (ob':=d9 Ec hp) ((hgr3.weaken (fun b hb=> .inr (.inl hb))).trans (M1:=fun b=>b=l) (jv rfl) (fun b hb=> .inl (.inr (.inr (.inl hb))))) (fun b hb=>by
    simp only[World.putObj,z04];rcases hb with h1|rfl
    ·have:=hflt3 b (g3 b h1);omega
    ·have:=hflt3 D g5;omega) (fun b _ h1=>h1.elim .inl (fun h2=> .inr (.inr (.inr h2)))) (fun o b hb=>oe hb)
  let B4:Bs:=⟨⟨Ec.om,fun o=>if o<1000 then none else d9 Ec hp o⟩,w3.putObj l (.loop { r with state:= .exhausted }),fun b=>B0.F b∨b=D⟩
  have hgrow4:Grow B0.O.blk B0.w B4.w:=(g10.trans hgr3 (fun b hb=>(g9 b hb).1)).trans (M1:=fun b=>b=l) (jv rfl) (fun b hb=> .inr (by rw[hb];exact g14))
  have hD4:B4.w.heap[D]?=some (.deferred (some [])):=by
   simp only[B4];rw[World.putObj_heap_other g13,hnb D g5];exact g6
  refine hk B4 _ _ ⟨⟨⟨B0,a.defers,D,hC,rfl,fun b hb=> .inl hb,h.flt,g8,hgrow4, ?_, ?_, ?_,g15,hD4,.inr rfl⟩, ?_, ?_⟩,Ec, ?_⟩
  ·intro o b hb;have h1:¬o<1000:=fun h1=>by rw[hob0 o h1]at hb;cases hb
   obtain⟨k1,y,hy⟩:=g11 o b hb;simp only[B4];rw[if_neg h1,d9,hy];simp[k1]
  ·exact fun h1=>(g1.om_lt D h1).2 (.inr (.inr (.inr rfl)))
  ·exact(z01.1 hD4).1
  ·intro o ho;simp only[lim]at ho;simp only[B4];rw[if_pos ho]
  ·refine hG0.mono (fun b hb hn=>⟨?_,hgrow4.block b hb (fun h1=>hn (.inl h1))⟩) hgrow4.size
   rintro(h1|h1|h1)
   ·rcases g8 b h1 with h2|h2
    ·exact hn (.inl h2)
    ·omega
   ·exact hn (.inr h1)
   ·simp only[D]at h1;omega
  ·refine hR4.rebase (fun b hb=>hb) (fun b hb=> .inl hb) (nc _ _) hR4.flt (fun o b hb=> ?_)
   simp only[B4]at hb;split at hb
   ·cases hb
   ·exact oe hb
 rcases hend with⟨hx,hp,hIN,hcl'⟩|⟨j,hp,hX,hcl'⟩
 ·obtain⟨w4,k1,k2⟩:=fin _ hp k hcl' (by simp[lq]) (hdone hp hx hIN)
  exact⟨_,w4,k1,k2⟩
 ·obtain⟨w4,k1,k2⟩:=fin _ hp (.code j::k) hcl' (by simp[lq]) (hjump j hp hX)
  exact⟨_,w4,k1,k2⟩
end
end Go.Ck
namespace Go.Ck
open Go.RowKit
section
variable {P : Program}
def arm(P:Program)(res:List ResultVar)(H:List (Nat×HO))(Ψ:List SV→List (Nat×HO)→Prop)(C:Cx)(e:Exit)(C':Cx)(s':St):Prop:=
 (C'=C∨C'=RF C)∧(e= .normal∨e= .ret)∧∃svs rs H' L m,Rets P s' res svs∧Pass P s' id svs rs L m∧CallOK s' id H' rs L m∧(∀o y,aj o H=some y→∃z,aj o H'=some z)∧Ψ rs H'
theorem aqo{res:List ResultVar}{H H':List (Nat×HO)}{Ψ:List SV→List (Nat×HO)→Prop}{e:Exit}{svs rs:List SV}{L:List Place}{m:Option Place}{R:Option Nat}{C C':Cx}{s:St}(hC:C'=C∨C'=RF C)(he:e= .normal∨e= .ret)(hv:ud P s res=some svs)(hP:Pass P s id svs rs L m)(hM:HM s id H')(hB:Hc id H' rs L m=true)
  (hn:Fu H H'=true) (hΨ:Ψ rs H'):AW P R (arm P res H Ψ C) e [] C' s:=
 AW.nil ⟨hC,he,svs,rs,H',L,m,mv hv,hP,.ofB hM hB,(fun o y hy=>by
  have:=z00.1 hn (o,y) (ib hy);simp only at this;split at this
  ·rename_i z hz;exact⟨z,hz⟩
  ·cases this),hΨ⟩
theorem U2{f:FuncId}{fn:Func}{c:Code}{H:List (Nat×HO)}{args:List SV}{Ψ:List SV→List (Nat×HO)→Prop}{n:Nat}{res:List ResultVar}(hf:P.funcs[f]?=some fn)(hb:fn.body=some c)(hn:n=args.length+(fn.ntmps-args.length))(hres:fn.results.toList=res)(hname:(fn.name== "runtime.NumGoroutine")=false)(hH:H.all (fun y=>decide (1000≤y.1))=true)
  (h:∀C,AW P none (arm P res H Ψ C) .normal [.code c] C ⟨n,c8 args 0,H⟩):Fn P f H args Ψ:=⟨⟨fn,hf,hname,by simp[hb]⟩,fun F w E vals hl hG hR=>by
 subst hres;refine(callsIn_wide (n:=0)).1 (callsIn_of_wp_marks hf hb trivial ?_);have h0:=hR.extend (u:=z05 (fn.ntmps-vals.toArray.size) undef) (n:=n) (by simp[hn,hl])
 let B0:Bs:=⟨⟨E.om,d9 E H⟩,w,F⟩
 have hw:=h (fun B d=>B=B0∧d=[]) B0 { tmps:=vals.toArray++z05 (fn.ntmps-vals.toArray.size) undef,defers:=[] } w ⟨⟨⟨rfl,rfl⟩,(fun o ho=>by
  show d9 E H o=none
  unfold d9;split
  ·rename_i y hy;have:=z00.1 hH _ (ib hy);simp at this;simp only[lim]at ho;omega
  ·rfl),hG⟩,E,h0⟩
 simp only[mz]at hw;refine wpIn_mono (F:=Fence.wide) hw (fun e a w' hq=> ?_)
 obtain⟨C',s',B,⟨hC,he,svs,rs,H',L,m,h1,h2,h3,h4,h5⟩,⟨hCB,_⟩,E',hE⟩:=hq;have hbase:∃w2,Rel P B0.O B0.w B0.F s' E' a.tmps w2∧∀R',(∃v,(results fn a.tmps).run P w2= .ok v w2∧R' (.returned v) w2)→LeavesInM Fence.wide 0 P fn a.tmps R' a.defers .returning w':=by
  rcases hC with rfl|rfl
  ·obtain⟨rfl,hd⟩:=hCB;exact⟨w',hE,fun R' h=>by rw[hd];exact h⟩
  ·obtain⟨B1,d0,D,⟨rfl,rfl⟩,hd,k1,k2,k3,k4,k5,k6,k7,k8,k9,k10⟩:=hCB;have hD:w'.heap[D]?=some (.deferred (some [])):=by rw[hE.gr.block D k7 k6];exact k9
   have hs:=hE.sleep (w':=w'.putObj D (.deferred none)) (F':=B.F) (ob':=B.O.ob) (jv k10) (fun b hb=>by
    simp only[World.putObj,z04];exact z03 (hE.flt b hb) hE.gr.size) (fun b _ h=>h) hE.ob
   refine⟨w'.putObj D (.deferred none),hs.rebase k1 (fun b hb=> ?_) ((k4.trans hE.gr k3).trans (M1:=fun b=>b=D) (jv rfl) (fun b hb=> .inr (by rw[hb];exact k8))) k2 (fun o b hb=>hs.ob o b (k5 o b hb)),fun R' h=> ?_⟩
   ·rcases hE.om0 b hb with h1|h1
    ·exact k3 b h1
    ·exact .inr (z06 k4.size h1)
   ·rw[hd];exact⟨by simp,.inl ⟨D,_,rfl,run_takeDeferred hD,h⟩⟩
 obtain⟨w2,hE,hleave⟩:=hbase;obtain⟨us,k1,k2,k3⟩:=h1.sound hE;obtain⟨Lt,p1,p2,p3,p4,p5⟩:=arz hE k2 k3 h2 h3;have hent:=Ln p4 (ρ:=id) (H:=H') (Lt:=Lt) (args:=rs) (vals:=us) p5 h3.inj h3.hp p2 p3;have hom:∀b,xz E' id H' rs us b→E'.om b:=fun b hb=>yn p4 p3 p5 hb
 have hfin:=hent.rebase (O0:=⟨E.om,d9 E H⟩) (w0:=w) (F:=F) (fun b hb=>⟨.inr hb,fun hc=>(hE.om_lt b (hom b hc)).2 hb,fun hc=>(hE.om_lt b (p1 b hc)).2 hb⟩) (fun b hb=>hE.om0 b (hom b hb)) hE.gr hE.flt (fun o b hb=>by
  obtain⟨q1,_⟩:=hE.ob o b hb;refine⟨q1, ?_⟩;simp only[B0,d9]at hb;split at hb
  ·rename_i y hy;exact h4 o y hy
  ·cases hb)
 rcases he with rfl|rfl
 ·exact hleave _ ⟨ve us,ku k1,rs,H',_,us,h5,p3.len,rfl,hfin⟩
 ·exact hleave _ ⟨ve us,ku k1,rs,H',_,us,h5,p3.len,rfl,hfin⟩⟩
end
end Go.Ck
