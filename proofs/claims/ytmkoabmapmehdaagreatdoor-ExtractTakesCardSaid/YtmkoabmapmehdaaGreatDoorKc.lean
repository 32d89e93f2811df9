/- What is proved here: parts of the proofs of this seat's statements (a verified evaluator for calls over pure values, its laws, and contracts of functions). No condition. -/
import Derived.Test.YtmkoabmapmehdaaGreatDoorKb
set_option linter.all false
open Array renaming getElem?_setIfInBounds_ne→z00,setIfInBounds_eq_of_size_le→z02
open List renaming getElem?_set→z01,mem_or_eq_of_mem_set→z03,getElem?_eq_some_iff→z04,mem_of_getElem?→z05,mem_cons→z07
open Bool renaming false_eq_true→z06
namespace Go.Ck
open Go.RowKit
theorem kq(q:Place)(d:Nat):∀l:List (Nat×SV),aj d (Fs q l)=(aj d l).map fun v=>if v.on q then .dead else v
 |[]=>rfl
 |(k,v)::r=>by
  simp only[Fs,aj];split
  ·rfl
  ·exact kq q d r
theorem ox(q:Place)(s:St)(p:Place)(v:SV)(h:(kill q s).at p=some v):(v= .dead∧∃u,s.at p=some u)∨(s.at p=some v∧∀d,p= .slot d→v.on q=false):=by
 cases p with
 |slot d=>
  simp only[St.at,kill,kq,Option.map_eq_some_iff]at h;obtain⟨u,hu,he⟩:=h;split at he
  ·exact .inl ⟨he.symm,u,hu⟩
  ·rename_i ho;subst he;exact .inr ⟨hu,fun _ _=>by simpa using ho⟩
 |part d i=>
  refine .inr ⟨?_,by simp⟩
  simp only[St.at,kill,kq]at h⊢;cases hl:aj d s.sl with
  |none=>simp[hl]at h
  |some u=>
   simp only[hl,Option.map_some]at h;by_cases ho:u.on q=true
   ·simp[ho]at h
   ·simp only[ho]at h;exact h
 |cell o i=>exact .inr ⟨h,by simp⟩
theorem nq(q:Place)(s:St){p:Place}{e:TypeId}{xs:List PV}(h:s.at p=some (.own e xs)):(kill q s).at p=some (.own e xs):=by
 cases p with
 |slot d=>simp only[St.at,kill,kq]at h⊢;simp[h,SV.on]
 |part d i=>
  simp only[St.at,kill,kq]at h⊢;cases hl:aj d s.sl with
  |none=>simp[hl]at h
  |some u=>cases u<;>simp[hl]at h;simp[SV.on,h]
 |cell o i=>exact h
section
variable {P : Program} {O0 : Base} {F : Nat → Prop} {w0 w : World} {s : St} {E : Env} {tmps : Array Value}
theorem Rel.forget(h:Rel P O0 w0 F s E tmps w){s':St}(hn:s'.n=s.n)(hat:∀p v,s'.at p=some v→v= .dead∨s.at p=some v∨∃vs us,v= .tup vs∧s.at p=some (.tup us)∧vs.length=us.length)(hho:∀o x,aj o s'.hp=some x→aj o s.hp=some x)
  (hna:∀p v q,s'.at p=some v→v.on q=true→∃e xs,s'.at q=some (.own e xs)) (hnp:∀p v o,s'.at p=some v→v.pts o=true→∃x,aj o s'.hp=some x)
  (hcv:∀p,(∃v,s'.at p=some v)→∃v,s.at p=some v) (hob:∀o x,aj o s.hp=some x→∃y,aj o s'.hp=some y):Rel P O0 w0 F s' E tmps w where
 place p v hp:=by
  rcases hat p v hp with rfl|h1|⟨vs,us,rfl,h1,h2⟩
  ·obtain⟨u,hu⟩:=hcv p ⟨_,hp⟩;obtain⟨x,hx,_⟩:=h.place p u hu;exact⟨x,hx,trivial⟩
  ·exact h.place p v h1
  ·obtain⟨x,hx,hv⟩:=h.place p _ h1;simp only[ip]at hv⊢;obtain⟨xs,rfl,h3⟩:=hv;exact⟨_,hx,xs,rfl,h3.trans h2.symm⟩
 obj o x hx:=by
  obtain⟨h1,h2⟩:=h.obj o x (hho o x hx);exact⟨h1,h2⟩
 size:=hn.trans h.size
 i1 o o' x x' hx hx':=h.i1 o o' x x' (hho _ _ hx) (hho _ _ hx')
 i2 p q e xs e' ys b hp hq:=by
  have h1:s.at p=some (.own e xs):=by rcases hat p _ hp with h1|h1|⟨_,_,h1,_⟩<;>first|(cases h1;done)|exact h1
  have h2:s.at q=some (.own e' ys):=by rcases hat q _ hq with h1|h1|⟨_,_,h1,_⟩<;>first|(cases h1;done)|exact h1
  exact h.i2 p q e xs e' ys b h1 h2
 i3 p e xs o x b hp hx:=by
  have h1:s.at p=some (.own e xs):=by rcases hat p _ hp with h1|h1|⟨_,_,h1,_⟩<;>first|(cases h1;done)|exact h1
  exact h.i3 p e xs o x b h1 (hho _ _ hx)
 om_lt:=h.om_lt
 om0:=h.om0
 na p v q hp hq:=by
  rcases hat p v hp with rfl|h1|⟨_,_,rfl,_⟩
  ·simp[SV.on]at hq
  ·obtain⟨h2,h3,h4⟩:=h.na p v q h1 hq;exact⟨h2,hna p v q hp hq,h4⟩
  ·simp[SV.on]at hq
 np:=hnp
 gr:=h.gr
 flt:=h.flt
 ob o b hb:=⟨(h.ob o b hb).1,let⟨_,y,hy⟩:=h.ob o b hb;hob o y hy⟩
theorem Rel.kill(h:Rel P O0 w0 F s E tmps w)(q:Place):Rel P O0 w0 F (kill q s) E tmps w:=by
 refine h.forget rfl (fun p v hp=> ?_) (fun o x hx=>hx) (fun p v r hp hr=> ?_) (fun p v o hp ho=> ?_) (fun p ⟨v,hp⟩=> ?_) (fun o x hx=>⟨x,hx⟩)
 ·rcases ox q s p v hp with⟨rfl,_⟩|⟨h1,_⟩
  ·exact .inl rfl
  ·exact .inr (.inl h1)
 ·rcases ox q s p v hp with⟨rfl,_⟩|⟨h1,h2⟩
  ·simp[SV.on]at hr
  ·obtain⟨_,⟨e,xs,h3⟩,_⟩:=h.na p v r h1 hr;exact⟨e,xs,nq q s h3⟩
 ·rcases ox q s p v hp with⟨rfl,_⟩|⟨h1,_⟩
  ·simp[SV.pts]at ho
  ·exact h.np p v o h1 ho
 ·rcases ox q s p v hp with⟨_,u,hu⟩|⟨h1,_⟩
  ·exact⟨u,hu⟩
  ·exact⟨v,h1⟩
def Hj(p:Place)(s:St):Prop:=∀q v,s.at q=some v→v.on p=false
theorem Rel.free_kill(h:Rel P O0 w0 F s E tmps w)(p:Place):Hj p (Ck.kill p s):=by
 intro q v hq;cases hv:v.on p with
 |false=>rfl
 |true=>
  rcases ox p s q v hq with⟨rfl,_⟩|⟨h1,h2⟩
  ·simp[SV.on]at hv
  ·obtain⟨⟨d,rfl⟩,_⟩:=h.na q v p h1 hv;rw[h2 d rfl]at hv;cases hv
theorem Rel.free_of(h:Rel P O0 w0 F s E tmps w){p:Place}(hp:∀e xs,s.at p≠some (.own e xs)):Hj p s:=by
 intro q v hq;cases hv:v.on p with
 |false=>rfl
 |true=>
  obtain⟨_,⟨e,xs,h1⟩,_⟩:=h.na q v p hq hv;exact absurd h1 (hp e xs)
theorem Rel.clear(h:Rel P O0 w0 F s E tmps w)(d:Nat):Rel P O0 w0 F (clear d s) E tmps w∧Hj (.slot d) (Ck.clear d s):=by
 unfold Ck.clear;split
 ·exact⟨h.kill _,h.free_kill _⟩
 ·rename_i hn;exact⟨h,h.free_of (fun e xs he=>hn e xs he)⟩
theorem ti(d:Nat)(s:St):(Ck.clear d s).n=s.n:=by unfold Ck.clear;split<;>rfl
theorem Di(d:Nat)(s:St):(Ck.clear d s).hp=s.hp:=by unfold Ck.clear;split<;>rfl
theorem cj(d:Nat)(v:SV)(s:St)(p:Place):(setSlot d v s).at p=match p with
  | .slot d'=>if d=d' then some v else s.at p
  | .part d' i=>if d=d' then(match v with| .tup vs=>vs[i]?|_=>none)else s.at p
  | .cell _ _=>s.at p:=by
 cases p with
 |slot d'=>simp only[St.at,setSlot,aj]
 |part d' i=>
  by_cases hd:d=d'
  ·simp only[St.at,setSlot,aj,hd,if_true];cases v<;>rfl
  ·simp only[St.at,setSlot,aj,hd,if_false]
 |cell o i=>rfl
def SV.easy:SV→Bool
 | .own _ _| .tup _=>false
 |_=>true
theorem RS.al_inv{A:Nat→Prop}{p:Place}{x:Value}(h:RS P A E w (.al p) x):x=E.hdr p:=by cases h;rfl
theorem Rel.easySlot(h:Rel P O0 w0 F s E tmps w){d:Nat}{v:SV}{x:Value}(hd:d<s.n)(hf:Hj (.slot d) s)(he:v.easy=true)(hr:v= .dead∨RS P (fun b=>E.om b∨F b) E w v x)
  (hon:∀q,v.on q=true→q≠ .slot d∧(∃e xs,s.at q=some (.own e xs))∧∀d i,q≠ .part d i) (hpt:∀o,v.pts o=true→∃y,aj o s.hp=some y):
  Rel P O0 w0 F (setSlot d v s) E (tmps.setIfInBounds d x) w:=by
 have hsz:d<tmps.size:=by rw[←h.size];exact hd
 have hat:∀p u,(Ck.setSlot d v s).at p=some u→(p= .slot d∧u=v)∨((∀i,p≠ .part d i)∧p≠ .slot d∧s.at p=some u):=by
  intro p u hp;rw[cj]at hp;cases p with
  |slot d'=>
   simp only at hp;split at hp
   ·rename_i e;subst e;simp at hp;exact .inl ⟨rfl,hp.symm⟩
   ·rename_i e;exact .inr ⟨by simp,by simpa using fun h=>e h.symm,hp⟩
  |part d' i=>
   simp only at hp;split at hp
   ·cases v<;>simp[SV.easy]at he hp
   ·rename_i e;exact .inr ⟨fun i=>by simpa using fun h=>absurd h.symm e,by simp,hp⟩
  |cell o i=>exact .inr ⟨by simp,by simp,hp⟩
 have hcv:∀p y,(∀i,p≠ .part d i)→p≠ .slot d→CV E tmps w p y→CV E (tmps.setIfInBounds d x) w p y:=by
  intro p y h1 h2 hc;cases p with
  |slot d'=>
   simp only[CV]at hc⊢;rw[z00 (by rintro rfl;exact h2 rfl)]
   exact hc
  |part d' i=>
   simp only[CV]at hc⊢;obtain⟨vs,h3,h4⟩:=hc;exact⟨vs,by rw[z00 (by rintro rfl;exact h1 i rfl)];exact h3,h4⟩
  |cell o i=>exact hc
 have hown:∀p e xs,(Ck.setSlot d v s).at p=some (.own e xs)→s.at p=some (.own e xs):=by
  intro p e xs hp;rcases hat p _ hp with⟨_,rfl⟩|⟨_,_,h1⟩
  ·simp[SV.easy]at he
  ·exact h1
 have hkeep:∀q e xs,q≠ .slot d→(∀d i,q≠ .part d i)→s.at q=some (.own e xs)→(Ck.setSlot d v s).at q=some (.own e xs):=by
  intro q e xs h1 h2 hq;rw[cj];cases q with
  |slot d'=>simp only;rw[if_neg (by rintro rfl;exact h1 rfl)];exact hq
  |part d' i=>exact absurd rfl (h2 d' i)
  |cell o i=>exact hq
 refine { place:= ?_,obj:=h.obj,size:=by simp[Ck.setSlot,h.size],i1:=h.i1,i2:= ?_,i3:= ?_,om_lt:=h.om_lt,om0:=h.om0,na:= ?_,np:= ?_,gr:=h.gr,flt:=h.flt,ob:=h.ob }
 ·intro p u hp;rcases hat p u hp with⟨rfl,rfl⟩|⟨h1,h2,h3⟩
  ·refine⟨x,by simp[CV,hsz], ?_⟩
   cases u<;>simp[SV.easy]at he<;>first|exact trivial|exact hr.resolve_left (by simp)
  ·obtain⟨y,hy,hpv⟩:=h.place p u h3;exact⟨y,hcv p y h1 h2 hy,hpv⟩
 ·exact fun p q e xs e' ys b hp hq=>h.i2 p q e xs e' ys b (hown _ _ _ hp) (hown _ _ _ hq)
 ·exact fun p e xs o y b hp=>h.i3 p e xs o y b (hown _ _ _ hp)
 ·intro p u q hp hq;rcases hat p u hp with⟨rfl,rfl⟩|⟨h1,h2,h3⟩
  ·obtain⟨h4,⟨e,xs,h5⟩,h6⟩:=hon q hq;exact⟨⟨d,rfl⟩,⟨e,xs,hkeep q e xs h4 h6 h5⟩,h6⟩
  ·obtain⟨h4,⟨e,xs,h5⟩,h6⟩:=h.na p u q h3 hq;have:q≠ .slot d:=by
    rintro rfl;rw[hf p u h3]at hq;cases hq
   exact⟨h4,⟨e,xs,hkeep q e xs this h6 h5⟩,h6⟩
 ·intro p u o hp ho;rcases hat p u hp with⟨rfl,rfl⟩|⟨h1,h2,h3⟩
  ·exact hpt o ho
  ·exact h.np p u o h3 ho
end
end Go.Ck
namespace Go.Ck
open Go.RowKit
def Env.setHdr(E:Env)(p:Place)(x:Value):Env:= { E with hdr:=fun q=>if q=p then x else E.hdr q }
def Env.addOm(E:Env)(N:Nat→Prop):Env:= { E with om:=fun b=>E.om b∨N b }
theorem ci(E:Env)(p:Place)(x:Value):(E.setHdr p x).hdr p=x:=by simp[Env.setHdr]
theorem cp(E:Env){p q:Place}(x:Value)(h:q≠p):(E.setHdr p x).hdr q=E.hdr q:=by simp[Env.setHdr,h]
theorem RS.setHdr{P:Program}{A:Nat→Prop}{E:Env}{w:World}{p:Place}{x:Value}{v:SV}{y:Value}(h:RS P A E w v y)(hp:v.on p=false):RS P A (E.setHdr p x) w v y:=by
 induction h with
 |pv q y h=>exact .pv q y h
 |nils=>exact .nils
 |al q=>
  have hq:q≠p:=by simpa[SV.on]using hp
  have:=RS.al (P:=P) (A:=A) (E:=E.setHdr p x) (w:=w) q
  rwa [cp _ _ hq]at this
 |vw q e off n y h=>
  have hq:q≠p:=by simpa[SV.on]using hp
  exact .vw q e off n y (by rw[cp _ _ hq];exact h)
 |ptr o off=>exact .ptr (E:=E.setHdr p x) o off
 |ea q e i j b h=>
  have hq:q≠p:=by simpa[SV.on]using hp
  exact .ea q e i j b (by rw[cp _ _ hq];exact h)
 |ra c j vs ad hs h hm=>exact .ra c j vs ad hs h hm
 |fn f caps vs hl h1 h ih=>
  refine .fn f caps vs hl h1 (fun i c v hc hv=>ih i c v hc hv ?_)
  have:=List.all_eq_true.1 h1 c (z05 hc);cases c<;>simp[dr]at this<;>rfl
 |agg cs vs hl h1 h ih=>
  refine .agg cs vs hl h1 (fun i c v hc hv=>ih i c v hc hv ?_)
  have:∀(l:List SV),ic l=true→∀c∈l,c.on p=false:=by
   intro l
   induction l with
   |nil=>simp
   |cons d r ih=>
    intro hl c hc;cases d<;>simp[ic]at hl
    ·rcases z07.1 hc with rfl|hc
     ·rfl
     ·exact ih hl.2 c hc
    ·rcases z07.1 hc with rfl|hc
     ·rfl
     ·exact ih hl c hc
  exact this cs h1 c (z05 hc)
 |mp o=>exact .mp (E:=E.setHdr p x) o
 |yl l=>exact .yl l
 |bm f o=>exact .bm (E:=E.setHdr p x) f o
 |os o off n cap hc=>exact .os (E:=E.setHdr p x) o off n cap hc
 |lit xs g cur e fr h1 h2 h3=>exact .lit xs g cur e fr h1 h2 h3
theorem RS.world{P:Program}{A A':Nat→Prop}{E:Env}{w w':World}{v:SV}{y:Value}{N:Nat→Prop}(hg:∀b,b<w.heap.size→¬A b→¬A' b∧w'.heap[b]?=w.heap[b]?)(h:RS P A E w v y):RS P A' (E.addOm N) w' v y:=by
 induction h with
 |pv q y h=>exact .pv q y (h.mono hg)
 |nils=>exact .nils
 |al q=>exact .al (E:=E.addOm N) q
 |vw q e off n y h=>exact .vw q e off n y h
 |ptr o off=>exact .ptr (E:=E.addOm N) o off
 |ea q e i j b h=>exact .ea q e i j b h
 |ra c j vs ad hs h hm=>
  refine .ra c j vs ad hs (h.mono hg) (fun i v hv=> ?_)
  obtain⟨hA,hc⟩:=hm i v hv;have hlt:=World.block_lt_of_cell? w _ hc;obtain⟨hA',hb⟩:=hg _ hlt hA;refine⟨hA', ?_⟩;rw[World.cell?_of_block (w:=w) hb];exact hc
 |fn f caps vs hl h1 h ih=>exact .fn f caps vs hl h1 ih
 |agg cs vs hl h1 h ih=>exact .agg cs vs hl h1 ih
 |mp o=>exact .mp (E:=E.addOm N) o
 |yl l=>exact .yl l
 |bm f o=>exact .bm (E:=E.addOm N) f o
 |os o off n cap hc=>exact .os (E:=E.addOm N) o off n cap hc
 |lit xs g cur e fr h1 h2 h3=>
  have hlt:=(Array.getElem?_eq_some_iff.1 h2).1;obtain⟨a1,a2⟩:=hg _ hlt h1;exact .lit xs g cur e fr a1 (by rw[a2];exact h2) (h3.mono hg)
section
variable {P : Program} {O0 : Base} {F : Nat → Prop} {w0 w : World} {s : St} {E : Env} {tmps : Array Value}
def jm(s:St)(E:Env)(b:Nat):Prop:=(∀o h,aj o s.hp=some h→E.obj o≠b)∧∀p e xs,s.at p=some (.own e xs)→(E.hdr p).ownBlock≠some b
theorem ki.kept{A A':Nat→Prop}{w w':World}{e:TypeId}{h:Value}{xs:List PV}(ho:ki P A w e h xs)(hg:∀b,b<w.heap.size→¬A b→¬A' b∧w'.heap[b]?=w.heap[b]?)(hb:∀b,h.ownBlock=some b→w'.heap[b]?=w.heap[b]?):ki P A' w' e h xs:=by
 obtain⟨cs,h1,h2,h3,h4⟩:=ho;refine⟨cs,⟨h1.1, ?_⟩,h2.mono hg,h3,h4⟩;rcases h1.2 with h5|⟨g,cap,cur,rfl,h6,h7,h8⟩
 ·exact .inl h5
 ·exact .inr ⟨g,cap,cur,rfl,h6,by rw[hb g rfl];exact h7,h8⟩
theorem Rel.world(h:Rel P O0 w0 F s E tmps w){w':World}{M:Nat→Prop}(hg:Grow M w w')(hM:∀b,M b→E.om b∧jm s E b)(N:Nat→Prop)(hN:∀b,N b→w.heap.size≤b∧b<w'.heap.size):
  Rel P O0 w0 F s (E.addOm N) tmps w':=by
 have hA:∀b,b<w.heap.size→¬(E.om b∨F b)→¬((E.addOm N).om b∨F b)∧w'.heap[b]?=w.heap[b]?:=by
  intro b hb hn;refine⟨?_,hg.block b hb (fun hm=>hn (.inl (hM b hm).1))⟩
  rintro((h1|h1)|h1)
  ·exact hn (.inl h1)
  ·have:=(hN b h1).1;omega
  ·exact hn (.inr h1)
 have hobj:∀o y,aj o s.hp=some y→w'.heap[E.obj o]?=w.heap[E.obj o]?:=by
  intro o y hl;have:=h.obj o y hl;exact hg.block _ (h.om_lt _ this.1).1 (fun hm=>(hM _ hm).2.1 o y hl rfl)
 refine { place:= ?_,obj:= ?_,size:=h.size,i1:=h.i1,i2:=h.i2,i3:=h.i3,om_lt:= ?_,om0:= ?_,na:=h.na,np:=h.np,gr:= ?_,flt:=h.flt,ob:=h.ob }
 ·intro p v hp;obtain⟨x,hx,hv⟩:=h.place p v hp;refine⟨x, ?_, ?_⟩
  ·cases p with
   |slot d=>exact hx
   |part d i=>exact hx
   |cell o i=>
    simp only[CV]at hx⊢;have:∃y,aj o s.hp=some y:=by
     simp only[St.at]at hp;cases hl:aj o s.hp with
     |none=>simp[hl]at hp
     |some y=>exact⟨y,rfl⟩
    obtain⟨y,hl⟩:=this;have hb:=hobj o y hl;exact(World.cell?_of_block (w:=w) (w':=w') (a:=⟨E.obj o,i,none⟩) hb).trans hx
  ·cases v<;>simp only[ip]at hv⊢
   case own e xs=>
    obtain⟨h1,h2,h3⟩:=hv;refine⟨h1,h2.kept hA (fun b hb=>hg.block b (h.om_lt b (h3 b hb)).1 (fun hm=>(hM b hm).2.2 p e xs hp hb)),fun b hb=> .inl (h3 b hb)⟩
   case tup vs=>exact hv
   all_goals exact hv.world hA
 ·intro o y hl;obtain⟨h1,h2⟩:=h.obj o y hl;refine⟨.inl h1, ?_⟩;have hb:=hobj o y hl;cases y with
  |cells e cs=>
   obtain⟨vs,h3,h4⟩:=h2;exact⟨vs,hb.trans h3,h4⟩
  |mp es=>
   obtain⟨ms,c,h3,h4,h5⟩:=h2;exact⟨ms,c,hb.trans h3,h4,fun i kv m hk hm=>⟨(h5 i kv m hk hm).1.mono hA,(h5 i kv m hk hm).2.mono hA⟩⟩
 ·rintro b (hb|hb)
  ·have:=h.om_lt b hb;exact⟨Nat.lt_of_lt_of_le this.1 hg.size,this.2⟩
  ·have:=hN b hb;refine⟨this.2,fun hf=> ?_⟩
   have h1:=h.flt b hf;have h2:=h.gr.size;omega
 ·rintro b (hb|hb)
  ·exact h.om0 b hb
  ·have:=hN b hb;have h2:=h.gr.size;exact .inr (by omega)
 ·exact h.gr.trans hg (fun b hb=>h.om0 b (hM b hb).1)
end
end Go.Ck
namespace Go.Ck
open Go.RowKit
section
variable {P : Program} {O0 : Base} {F : Nat → Prop} {w0 w : World} {s : St} {E : Env} {tmps : Array Value}
theorem ip.setHdr{A:Nat→Prop}{p q:Place}{x y:Value}{v:SV}(h:ip P A E w q v y)(hv:v.on p=false)(hq:q≠p∨∀e xs,v≠ .own e xs):ip P A (E.setHdr p x) w q v y:=by
 cases v<;>simp only[ip]at h⊢
 case own e xs=>
  rcases hq with hq|hq
  ·rw[cp _ _ hq];exact h
  ·exact absurd rfl (hq e xs)
 case tup vs=>exact h
 all_goals exact h.setHdr hv
theorem Rel.setOwnSlot(h:Rel P O0 w0 F s E tmps w){d:Nat}{e:TypeId}{xs:List PV}{x:Value}(hd:d<s.n)(hf:Hj (.slot d) s)(ho:ki P (fun b=>E.om b∨F b) w e x xs)
  (hb:∀b,x.ownBlock=some b→E.om b∧jm s E b):Rel P O0 w0 F (setSlot d (.own e xs) s) (E.setHdr (.slot d) x) (tmps.setIfInBounds d x) w:=by
 have hsz:d<tmps.size:=by rw[←h.size];exact hd
 have hat:∀p u,(Ck.setSlot d (.own e xs) s).at p=some u→(p= .slot d∧u= .own e xs)∨((∀i,p≠ .part d i)∧p≠ .slot d∧s.at p=some u):=by
  intro p u hp;rw[cj]at hp;cases p with
  |slot d'=>
   simp only at hp;split at hp
   ·rename_i e;subst e;simp at hp;exact .inl ⟨rfl,hp.symm⟩
   ·rename_i e;exact .inr ⟨by simp,by simpa using fun h=>e h.symm,hp⟩
  |part d' i=>
   simp only at hp;split at hp
   ·cases hp
   ·rename_i e;exact .inr ⟨fun i=>by simpa using fun h=>absurd h.symm e,by simp,hp⟩
  |cell o i=>exact .inr ⟨by simp,by simp,hp⟩
 have hcv:∀p y,(∀i,p≠ .part d i)→p≠ .slot d→CV E tmps w p y→CV (E.setHdr (.slot d) x) (tmps.setIfInBounds d x) w p y:=by
  intro p y h1 h2 hc;cases p with
  |slot d'=>
   simp only[CV]at hc⊢;rw[z00 (by rintro rfl;exact h2 rfl)]
   exact hc
  |part d' i=>
   simp only[CV]at hc⊢;obtain⟨vs,h3,h4⟩:=hc;exact⟨vs,by rw[z00 (by rintro rfl;exact h1 i rfl)];exact h3,h4⟩
  |cell o i=>exact hc
 refine { place:= ?_,obj:= ?_,size:=by simp[Ck.setSlot,h.size],i1:=h.i1,i2:= ?_,i3:= ?_,om_lt:=h.om_lt,om0:=h.om0,na:= ?_,np:= ?_,gr:=h.gr,flt:=h.flt,ob:=h.ob }
 ·intro p u hp;rcases hat p u hp with⟨rfl,rfl⟩|⟨h1,h2,h3⟩
  ·refine⟨x,by simp[CV,hsz], ?_⟩
   simp only[ip,ci];exact⟨trivial,ho,fun b hb'=>(hb b hb').1⟩
  ·obtain⟨y,hy,hpv⟩:=h.place p u h3;exact⟨y,hcv p y h1 h2 hy,hpv.setHdr (hf p u h3) (.inl h2)⟩
 ·intro o y hl;obtain⟨h1,h2⟩:=h.obj o y hl;refine⟨h1, ?_⟩;cases y<;>exact h2
 ·intro p q e' xs' e'' ys b hp hq h1 h2;rcases hat p _ hp with⟨rfl,_⟩|⟨_,hp2,hp3⟩
  ·rcases hat q _ hq with⟨rfl,_⟩|⟨_,hq2,hq3⟩
   ·rfl
   ·rw[ci]at h1;rw[cp _ _ hq2]at h2;exact absurd h2 ((hb b h1).2.2 q _ _ hq3)
  ·rw[cp _ _ hp2]at h1;rcases hat q _ hq with⟨rfl,_⟩|⟨_,hq2,hq3⟩
   ·rw[ci]at h2;exact absurd h1 ((hb b h2).2.2 p _ _ hp3)
   ·rw[cp _ _ hq2]at h2;exact h.i2 p q _ _ _ _ b hp3 hq3 h1 h2
 ·intro p e' xs' o y b hp hl h1;rcases hat p _ hp with⟨rfl,_⟩|⟨_,hp2,hp3⟩
  ·rw[ci]at h1;exact(hb b h1).2.1 o y hl
  ·rw[cp _ _ hp2]at h1;exact h.i3 p _ _ o y b hp3 hl h1
 ·intro p u q hp hq;rcases hat p u hp with⟨rfl,rfl⟩|⟨h1,h2,h3⟩
  ·simp[SV.on]at hq
  ·obtain⟨h4,⟨e',xs',h5⟩,h6⟩:=h.na p u q h3 hq;have hne:q≠ .slot d:=by
    rintro rfl;rw[hf p u h3]at hq;cases hq
   refine⟨h4,⟨e',xs', ?_⟩,h6⟩;rw[cj];cases q with
   |slot d'=>simp only;rw[if_neg (by rintro rfl;exact hne rfl)];exact h5
   |part d' i=>exact absurd rfl (h6 d' i)
   |cell o i=>exact h5
 ·intro p u o hp ho';rcases hat p u hp with⟨rfl,rfl⟩|⟨h1,h2,h3⟩
  ·simp[SV.pts]at ho'
  ·exact h.np p u o h3 ho'
theorem Rel.setDead(h:Rel P O0 w0 F s E tmps w){d:Nat}(x:Value)(hd:d<s.n)(hf:Hj (.slot d) s):Rel P O0 w0 F (setSlot d .dead s) E (tmps.setIfInBounds d x) w:=
 h.easySlot hd hf rfl (.inl rfl) (by simp[SV.on]) (by simp[SV.pts])
end
end Go.Ck
namespace Go.Ck
open Go.RowKit
theorem agz{P:Program}{A:Nat→Prop}{E E':Env}{w:World}{v:SV}{y:Value}(ho:E'.obj=E.obj)(hh:E'.hdr=E.hdr)(h:RS P A E w v y):RS P A E' w v y:=by
 have:=RS.world (A':=A) (w':=w) (N:=E'.om) (fun b _ hn=>⟨hn,rfl⟩) h
 induction h with
 |pv q y h=>exact .pv q y h
 |nils=>exact .nils
 |al q=>rw[←hh];exact .al q
 |vw q e off n y h=>exact .vw q e off n y (by rw[hh];exact h)
 |ptr o off=>rw[←ho];exact .ptr o off
 |ea q e i j b h=>exact .ea q e i j b (by rw[hh];exact h)
 |ra c j vs ad hs h hm=>exact .ra c j vs ad hs h hm
 |fn f caps vs hl h1 h ih=>exact .fn f caps vs hl h1 (fun i c v hc hv=>ih i c v hc hv (RS.world (A':=A) (w':=w) (N:=E'.om) (fun b _ hn=>⟨hn,rfl⟩) (h i c v hc hv)))
 |agg cs vs hl h1 h ih=>exact .agg cs vs hl h1 (fun i c v hc hv=>ih i c v hc hv (RS.world (A':=A) (w':=w) (N:=E'.om) (fun b _ hn=>⟨hn,rfl⟩) (h i c v hc hv)))
 |mp o=>rw[←ho];exact .mp o
 |yl l=>exact .yl l
 |bm f o=>rw[←ho];exact .bm f o
 |os o off n cap hc=>rw[←ho];exact .os o off n cap hc
 |lit xs g cur e fr h1 h2 h3=>exact .lit xs g cur e fr h1 h2 h3
theorem RS.grow{P:Program}{A A':Nat→Prop}{E:Env}{w w':World}{v:SV}{y:Value}(hg:∀b,b<w.heap.size→¬A b→¬A' b∧w'.heap[b]?=w.heap[b]?)(h:RS P A E w v y):RS P A' E w' v y:=
 agz (E:=E.addOm fun _=>False) rfl rfl (h.world hg)
theorem dm(o:Nat)(x:HO):∀(l:List (Nat×HO)) (o':Nat),aj o' (setObj o x l)=if o'=o then(aj o l).map fun _=>x else aj o' l
 |[],o'=>by simp[setObj,aj]
 |(k,v)::r,o'=>by
  simp only[setObj];by_cases hk:k=o
  ·subst hk;simp only[if_true,aj];by_cases h1:k=o'
   ·subst h1;simp
   ·simp[h1,Ne.symm h1]
  ·simp only[hk,if_false,aj];by_cases h1:k=o'
   ·subst h1;simp[hk]
   ·rw[if_neg h1,dm o x r o'];simp[h1]
section
variable {P : Program} {O0 : Base} {F : Nat → Prop} {w0 w : World} {s : St} {E : Env} {tmps : Array Value}
theorem my{o i:Nat}{e:TypeId}{cs:List SV}(hl:aj o s.hp=some (.cells e cs))(v:SV)(p:Place):(cm (.cell o i) v s).at p=match p with
  | .cell o' j=>if o'=o then(cs.set i v)[j]? else s.at p
  |p=>s.at p:=by
 simp only[cm,hl];cases p with
 |slot d=>rfl
 |part d j=>rfl
 |cell o' j=>
  by_cases h1:o'=o
  ·subst h1;simp[St.at,dm,hl]
  ·simp only[St.at,dm,h1,if_false]
theorem j0(w:World)(b i:Nat)(y:Value)(k:Nat):(w.setCell ⟨b,i,none⟩ y).heap[k]?=if k=b then(w.heap[b]?).map (fun| .cells c e f=> .cells (c.setIfInBounds i y) e f|o=>o)else w.heap[k]?:=by
 simp only[World.setCell,Array.getElem?_modify];by_cases h:k=b
 ·subst h;simp;cases w.heap[k]? with
  |none=>rfl
  |some o=>cases o<;>rfl
 ·rw[if_neg (fun h'=>h h'.symm),if_neg h]
theorem Rel.writeCell(h:Rel P O0 w0 F s E tmps w){o i:Nat}{e:TypeId}{cs:List SV}{v:SV}{y:Value}(hl:aj o s.hp=some (.cells e cs))(hi:i<cs.length)(hf:Hj (.cell o i) s)(h1:ue v=true)
  (hv:ip P (fun b=>E.om b∨F b) (E.setHdr (.cell o i) y) w (.cell o i) v y) (hon:∀q,v.on q=false) (hb:(∃e' xs,v= .own e' xs)→∀b,y.ownBlock=some b→E.om b∧jm s E b) (hpt:∀o',v.pts o'=true→∃z,aj o' s.hp=some z):
  Rel P O0 w0 F (cm (.cell o i) v s) (E.setHdr (.cell o i) y) tmps (w.setCell ⟨E.obj o,i,none⟩ y):=by
 obtain⟨vs,hheap,hsz,hone,hom,hcl,hcell⟩:=h.objCells hl;have hA:∀b,b<w.heap.size→¬(E.om b∨F b)→¬(E.om b∨F b)∧(w.setCell ⟨E.obj o,i,none⟩ y).heap[b]?=w.heap[b]?:=by
  intro b hb' hn;refine⟨hn, ?_⟩;rw[j0,if_neg (by rintro rfl;exact hn (.inl hom))]
 have hblk:∀b,b≠E.obj o→(w.setCell ⟨E.obj o,i,none⟩ y).heap[b]?=w.heap[b]?:=by
  intro b hb';rw[j0,if_neg hb']
 have hobj:(w.setCell ⟨E.obj o,i,none⟩ y).heap[E.obj o]?=some (.cells (vs.setIfInBounds i y) e (0,0)):=by
  rw[j0,if_pos rfl,hheap];rfl
 have hat:∀p u,(cm (.cell o i) v s).at p=some u→(p= .cell o i∧u=v)∨(p≠ .cell o i∧s.at p=some u):=by
  intro p u hp;rw[my hl]at hp;cases p with
  |slot d=>exact .inr ⟨by simp,hp⟩
  |part d j=>exact .inr ⟨by simp,hp⟩
  |cell o' j=>
   simp only at hp;split at hp
   ·rename_i ho;subst ho
    rw[z01]at hp;split at hp
    ·rename_i hj;subst hj
     simp[hi]at hp;exact .inl ⟨rfl,hp.symm⟩
    ·rename_i hj;exact .inr ⟨by simpa using fun h=>hj h.symm,by simp[St.at,hl,hp]⟩
   ·rename_i ho;exact .inr ⟨by simp[ho],hp⟩
 have hkeep:∀p u,p≠ .cell o i→s.at p=some u→(cm (.cell o i) v s).at p=some u:=by
  intro p u hne hp;rw[my hl];cases p with
  |slot d=>exact hp
  |part d j=>exact hp
  |cell o' j=>
   simp only;split
   ·rename_i ho;subst ho
    rw[z01,if_neg (by rintro rfl;exact hne rfl)]
    simpa[St.at,hl]using hp
   ·exact hp
 have hhp:∀o' z,aj o' (cm (.cell o i) v s).hp=some z→(o'=o∧z= .cells e (cs.set i v))∨(o'≠o∧aj o' s.hp=some z):=by
  intro o' z hz;simp only[cm,hl,dm]at hz;split at hz
  ·rename_i ho;subst ho;simp[hl]at hz;exact .inl ⟨rfl,hz.symm⟩
  ·rename_i ho;exact .inr ⟨ho,hz⟩
 have hhp':∀o' z,aj o' s.hp=some z→∃z',aj o' (cm (.cell o i) v s).hp=some z':=by
  intro o' z hz;simp only[cm,hl,dm];split
  ·rename_i ho;subst ho;simp[hl]
  ·exact⟨z,hz⟩
 have hlk:∀o' z,aj o' (cm (.cell o i) v s).hp=some z→∃z',aj o' s.hp=some z':=by
  intro o' z hz;rcases hhp o' z hz with⟨rfl,_⟩|⟨_,h2⟩
  ·exact⟨_,hl⟩
  ·exact⟨_,h2⟩
 have hPV:∀p u x,ip P (fun b=>E.om b∨F b) (E.setHdr (.cell o i) y) w p u x→(∀e' xs,u= .own e' xs→∀b,((E.setHdr (.cell o i) y).hdr p).ownBlock=some b→b≠E.obj o)→ip P (fun b=>E.om b∨F b) (E.setHdr (.cell o i) y) (w.setCell ⟨E.obj o,i,none⟩ y) p u x:=by
  intro p u x hp hne;cases u<;>simp only[ip]at hp⊢
  case own e' xs=>
   obtain⟨h2,h3,h4⟩:=hp;exact⟨h2,h3.kept hA (fun b hb'=>hblk b (hne e' xs rfl b hb')),h4⟩
  case tup us=>exact hp
  all_goals exact hp.grow hA
 refine { place:= ?_,obj:= ?_,size:=by simp[cm,hl,h.size],i1:= ?_,i2:= ?_,i3:= ?_,om_lt:= ?_,om0:=h.om0,na:= ?_,np:= ?_,gr:= ?_,flt:=h.flt,ob:= ?_ }
 ·intro p u hp;rcases hat p u hp with⟨rfl,rfl⟩|⟨hne,h3⟩
  ·refine⟨y, ?_,hPV _ _ _ hv ?_⟩
   ·simp only[CV];show(w.setCell ⟨E.obj o,i,none⟩ y).cell? ⟨E.obj o,i,none⟩=some y
    have hi2:i<vs.size:=by omega
    simp[World.cell?,hobj,hi2]
   ·intro e' xs he b hb';rw[ci]at hb';exact fun hbo=>(hb ⟨e',xs,he⟩ b hb').2.1 o _ hl hbo.symm
  ·obtain⟨x,hx,hpv⟩:=h.place p u h3;refine⟨x, ?_,hPV _ _ _ (hpv.setHdr (hf p u h3) (.inl hne)) ?_⟩
   ·cases p with
    |slot d=>exact hx
    |part d j=>exact hx
    |cell o' j=>
     simp only[CV]at hx⊢;show(w.setCell ⟨E.obj o,i,none⟩ y).cell? ⟨E.obj o',j,none⟩=some x
     by_cases ho:o'=o
     ·subst ho;rw[hcl]at hx;have hj:j≠i:=by rintro rfl;exact hne rfl
      simp[World.cell?,hobj,z00 (Ne.symm hj),hx]
     ·have:∃z,aj o' s.hp=some z:=by
       simp only[St.at]at h3;cases hl':aj o' s.hp with
       |none=>simp[hl']at h3
       |some z=>exact⟨z,rfl⟩
      obtain⟨z,hz⟩:=this;have hne':E.obj o'≠E.obj o:=fun he=>ho (h.i1 o' o z _ hz hl he)
      have hb':=hblk (E.obj o') hne';exact(World.cell?_of_block (w:=w) (a:=⟨E.obj o',j,none⟩) hb').trans hx
   ·intro e' xs he b hb';rw[cp _ _ hne]at hb';subst he;exact fun hbo=>h.i3 p e' xs o _ b h3 hl hb' hbo.symm
 ·intro o' z hz;rcases hhp o' z hz with⟨rfl,rfl⟩|⟨hne,hz'⟩
  ·refine⟨hom,vs.setIfInBounds i y,hobj,by simpa using hsz,fun c hc=> ?_⟩
   rcases z03 hc with hc|rfl
   ·exact hone c hc
   ·exact h1
  ·obtain⟨h2,h3⟩:=h.obj o' z hz';refine⟨h2, ?_⟩;have hne':E.obj o'≠E.obj o:=fun he=>hne (h.i1 o' o z _ hz' hl he)
   have hb':=hblk (E.obj o') hne';cases z with
   |cells e' cs'=>
    obtain⟨us,h4,h5⟩:=h3;exact⟨us,hb'.trans h4,h5⟩
   |mp es=>
    obtain⟨ms,c,h4,h5,h6⟩:=h3;exact⟨ms,c,hb'.trans h4,h5,fun j kv m hk hm=>⟨(h6 j kv m hk hm).1.mono hA,(h6 j kv m hk hm).2.mono hA⟩⟩
 ·intro a b x x' hx hx' he;obtain⟨z,hz⟩:=hlk a x hx;obtain⟨z',hz'⟩:=hlk b x' hx';exact h.i1 a b z z' hz hz' he
 ·intro p q e' xs e'' ys b hp hq hbp hbq;rcases hat p _ hp with⟨rfl,he⟩|⟨hpn,hp'⟩
  ·rcases hat q _ hq with⟨rfl,_⟩|⟨hqn,hq'⟩
   ·rfl
   ·rw[ci]at hbp;rw[cp _ _ hqn]at hbq;exact absurd hbq ((hb ⟨_,_,he.symm⟩ b hbp).2.2 q _ _ hq')
  ·rw[cp _ _ hpn]at hbp;rcases hat q _ hq with⟨rfl,he⟩|⟨hqn,hq'⟩
   ·rw[ci]at hbq;exact absurd hbp ((hb ⟨_,_,he.symm⟩ b hbq).2.2 p _ _ hp')
   ·rw[cp _ _ hqn]at hbq;exact h.i2 p q _ _ _ _ b hp' hq' hbp hbq
 ·intro p e' xs o' z b hp hz hbp;obtain⟨z',hz'⟩:=hlk o' z hz;rcases hat p _ hp with⟨rfl,he⟩|⟨hpn,hp'⟩
  ·rw[ci]at hbp;exact(hb ⟨_,_,he.symm⟩ b hbp).2.1 o' z' hz'
  ·rw[cp _ _ hpn]at hbp;exact h.i3 p _ _ o' z' b hp' hz' hbp
 ·intro b hb';have:=h.om_lt b hb';simpa using this
 ·intro p u q hp hq;rcases hat p u hp with⟨rfl,rfl⟩|⟨hne,hp'⟩
  ·rw[hon q]at hq;cases hq
  ·obtain⟨h4,⟨e',xs',h5⟩,h6⟩:=h.na p u q hp' hq;have hqn:q≠ .cell o i:=by
    rintro rfl;rw[hf p u hp']at hq;cases hq
   exact⟨h4,⟨e',xs',hkeep q _ hqn h5⟩,h6⟩
 ·intro p u o' hp ho';rcases hat p u hp with⟨rfl,rfl⟩|⟨hne,hp'⟩
  ·obtain⟨z,hz⟩:=hpt o' ho';exact hhp' o' z hz
  ·obtain⟨z,hz⟩:=h.np p u o' hp' ho';exact hhp' o' z hz
 ·refine h.gr.trans (M1:=fun b=>b=E.obj o) ⟨rfl,rfl,rfl,by simp,fun b _ hb'=>hblk b hb'⟩ (fun b hb'=> ?_)
  subst hb';exact h.om0 _ hom
 ·intro o' k hok;obtain⟨h1,y,hy⟩:=h.ob o' k hok;exact⟨h1,hhp' o' y hy⟩
end
end Go.Ck
namespace Go.Ck
open Go.RowKit
def SV.isTup:SV→Bool
 | .tup _=>true
 |_=>false
theorem m6{p:Place}{u v:SV}{s:St}(hp:s.at p=some u)(hu:u.isTup=false)(hv:v.isTup=false){r:Place}{y:SV}(hr:(cm p v s).at r=some y):
  (r=p∧y=v)∨(r≠p∧s.at r=some y)∨∃d i vs,p= .part d i∧r= .slot d∧s.at r=some (.tup vs)∧y= .tup (vs.set i v):=by
 cases p with
 |slot d=>
  simp only[cm,cj]at hr;cases r with
  |slot d'=>
   simp only at hr;split at hr
   ·rename_i e;subst e;simp at hr;exact .inl ⟨rfl,hr.symm⟩
   ·rename_i e;exact .inr (.inl ⟨by simpa using fun h=>e h.symm,hr⟩)
  |part d' i=>
   simp only at hr;split at hr
   ·cases v<;>simp[SV.isTup]at hv hr
   ·exact .inr (.inl ⟨by simp,hr⟩)
  |cell o i=>exact .inr (.inl ⟨by simp,hr⟩)
 |part d i=>
  simp only[St.at]at hp;cases hl:aj d s.sl with
  |none=>simp[hl]at hp
  |some x=>
   cases x<;>simp[hl]at hp
   rename_i vs;simp only[cm,hl,cj]at hr;cases r with
   |slot d'=>
    simp only at hr;split at hr
    ·rename_i e;subst e;simp at hr;exact .inr (.inr ⟨d,i,vs,rfl,rfl,hl,hr.symm⟩)
    ·rename_i e;exact .inr (.inl ⟨by simp,hr⟩)
   |part d' j=>
    simp only at hr;split at hr
    ·rename_i e;subst e
     rw[z01]at hr;split at hr
     ·rename_i e;subst e
      split at hr
      ·simp at hr;exact .inl ⟨rfl,hr.symm⟩
      ·cases hr
     ·rename_i e;exact .inr (.inl ⟨by simpa using fun h=>e h.symm,by simp[St.at,hl,hr]⟩)
    ·rename_i e;exact .inr (.inl ⟨by simpa using fun h=>absurd h.symm e,hr⟩)
   |cell o j=>exact .inr (.inl ⟨by simp,hr⟩)
 |cell o i=>
  simp only[St.at]at hp;cases hl:aj o s.hp with
  |none=>simp[hl]at hp
  |some x=>
   cases x<;>simp[hl]at hp
   rename_i e cs;rw[my hl]at hr;cases r with
   |slot d=>exact .inr (.inl ⟨by simp,hr⟩)
   |part d j=>exact .inr (.inl ⟨by simp,hr⟩)
   |cell o' j=>
    simp only at hr;split at hr
    ·rename_i e';subst e'
     rw[z01]at hr;split at hr
     ·rename_i e';subst e'
      split at hr
      ·simp at hr;exact .inl ⟨rfl,hr.symm⟩
      ·cases hr
     ·rename_i e';exact .inr (.inl ⟨by simpa using fun h=>e' h.symm,by simp[St.at,hl,hr]⟩)
    ·rename_i e';exact .inr (.inl ⟨by simp[e'],hr⟩)
theorem Bh{p:Place}{u v:SV}{s:St}(hp:s.at p=some u):(cm p v s).at p=some v:=by
 cases p with
 |slot d=>simp[cm,cj]
 |part d i=>
  simp only[St.at]at hp;cases hl:aj d s.sl with
  |none=>simp[hl]at hp
  |some x=>
   cases x<;>simp[hl]at hp
   rename_i vs;have:=(z04.1 hp).1;simp[cm,hl,cj,this]
 |cell o i=>
  simp only[St.at]at hp;cases hl:aj o s.hp with
  |none=>simp[hl]at hp
  |some x=>
   cases x<;>simp[hl]at hp
   rename_i e cs;have:=(z04.1 hp).1;rw[my hl];simp[this]
theorem wh{p:Place}{u v:SV}{s:St}(hp:s.at p=some u)(hu:u.isTup=false){r:Place}{y:SV}(hr:s.at r=some y)(hne:r≠p)(hy:y.isTup=false):(cm p v s).at r=some y:=by
 cases p with
 |slot d=>
  simp only[cm,cj];cases r with
  |slot d'=>simp only;rw[if_neg (by rintro rfl;exact hne rfl)];exact hr
  |part d' i=>
   simp only;split
   ·rename_i e;subst e
    simp only[St.at]at hp hr;rw[hp]at hr;cases u<;>simp[SV.isTup]at hu hr
   ·exact hr
  |cell o i=>exact hr
 |part d i=>
  simp only[St.at]at hp;cases hl:aj d s.sl with
  |none=>simp[hl]at hp
  |some x=>
   cases x<;>simp[hl]at hp
   rename_i vs;simp only[cm,hl,cj];cases r with
   |slot d'=>
    simp only;split
    ·rename_i e;subst e
     simp only[St.at]at hr;rw[hl]at hr;cases hr
     simp[SV.isTup]at hy
    ·exact hr
   |part d' j=>
    simp only;split
    ·rename_i e;subst e
     rw[z01,if_neg (by rintro rfl;exact hne rfl)]
     simpa[St.at,hl]using hr
    ·exact hr
   |cell o j=>exact hr
 |cell o i=>
  simp only[St.at]at hp;cases hl:aj o s.hp with
  |none=>simp[hl]at hp
  |some x=>
   cases x<;>simp[hl]at hp
   rename_i e cs;rw[my hl];cases r with
   |slot d=>exact hr
   |part d j=>exact hr
   |cell o' j=>
    simp only;split
    ·rename_i e';subst e'
     rw[z01,if_neg (by rintro rfl;exact hne rfl)]
     simpa[St.at,hl]using hr
    ·exact hr
theorem vt(p:Place)(v:SV)(s:St):(cm p v s).n=s.n:=by
 cases p with
 |slot d=>rfl
 |part d i=>simp only[cm];split<;>rfl
 |cell o i=>simp only[cm];split<;>rfl
theorem uk(p:Place)(v:SV)(s:St)(o:Nat)(x:HO)(h:aj o (cm p v s).hp=some x):aj o s.hp=some x∨∃e cs i,p= .cell o i∧aj o s.hp=some (.cells e cs)∧x= .cells e (cs.set i v):=by
 cases p with
 |slot d=>exact .inl h
 |part d i=>simp only[cm]at h;split at h<;>exact .inl h
 |cell o' i=>
  simp only[cm]at h;split at h
  ·rename_i e cs hl;simp only[dm]at h;split at h
   ·rename_i e';subst e';simp[hl]at h;exact .inr ⟨e,cs,i,rfl,hl,h.symm⟩
   ·exact .inl h
  ·exact .inl h
theorem uv(p:Place)(v:SV)(s:St)(o:Nat)(x:HO)(h:aj o s.hp=some x):∃y,aj o (cm p v s).hp=some y:=by
 cases p with
 |slot d=>exact⟨x,h⟩
 |part d i=>simp only[cm];split<;>exact⟨x,h⟩
 |cell o' i=>
  simp only[cm];split
  ·rename_i e cs hl;simp only[dm];split
   ·rename_i e';subst e';simp[hl]
   ·exact⟨x,h⟩
  ·exact⟨x,h⟩
section
variable {P : Program} {O0 : Base} {F : Nat → Prop} {w0 w : World} {s : St} {E : Env} {tmps : Array Value}
theorem Rel.recast(h:Rel P O0 w0 F s E tmps w){p:Place}{u v:SV}{y x:Value}(hp:s.at p=some u)(hu:u.isTup=false)(hv:v.isTup=false)(hf:Hj p s)(h1:ue v=true)(hcv:CV E tmps w p y)
  (hx:(∀e xs,v≠ .own e xs)∨x=y) (hpv:ip P (fun b=>E.om b∨F b) (E.setHdr p x) w p v y) (hon:∀q,v.on q=true→(∃d,p= .slot d)∧q≠p∧(∃e xs,s.at q=some (.own e xs))∧∀d i,q≠ .part d i)
  (hb:(∃e' xs,v= .own e' xs)→∀b,x.ownBlock=some b→E.om b∧(∀o h,aj o s.hp=some h→E.obj o≠b)∧∀q e xs,q≠p→s.at q=some (.own e xs)→(E.hdr q).ownBlock≠some b) (hpt:∀o',v.pts o'=true→∃z,aj o' s.hp=some z):
  Rel P O0 w0 F (cm p v s) (E.setHdr p x) tmps w:=by
 have hin:∀ {r y},(cm p v s).at r=some y→(r=p∧y=v)∨(r≠p∧s.at r=some y)∨∃d i vs,p= .part d i∧r= .slot d∧s.at r=some (.tup vs)∧y= .tup (vs.set i v):=fun hr=>m6 hp hu hv hr
 have hlk:∀o z,aj o (cm p v s).hp=some z→∃z',aj o s.hp=some z':=by
  intro o z hz;rcases uk p v s o z hz with h2|⟨e,cs,i,_,h2,_⟩
  ·exact⟨z,h2⟩
  ·exact⟨_,h2⟩
 refine { place:= ?_,obj:= ?_,size:=(vt _ _ _).trans h.size,i1:= ?_,i2:= ?_,i3:= ?_,om_lt:=h.om_lt,om0:=h.om0,na:= ?_,np:= ?_,gr:=h.gr,flt:=h.flt,ob:= ?_ }
 ·intro r z hr;rcases hin hr with⟨rfl,rfl⟩|⟨hne,h2⟩|⟨d,i,vs,rfl,rfl,h2,rfl⟩
  ·refine⟨y, ?_,hpv⟩;cases r<;>exact hcv
  ·obtain⟨x',hx',hpv'⟩:=h.place r z h2;refine⟨x', ?_,hpv'.setHdr (hf r z h2) (.inl hne)⟩;cases r<;>exact hx'
  ·obtain⟨x',hx',hpv'⟩:=h.place _ _ h2;refine⟨x',hx', ?_⟩;simp only[ip]at hpv'⊢;obtain⟨us,h3,h4⟩:=hpv';exact⟨us,h3,by simp[h4]⟩
 ·intro o z hz;rcases uk p v s o z hz with h2|⟨e,cs,i,rfl,h2,rfl⟩
  ·obtain⟨h3,h4⟩:=h.obj o z h2;refine⟨h3, ?_⟩;cases z<;>exact h4
  ·obtain⟨h3,vs,h4,h5,h6⟩:=h.obj o _ h2;refine⟨h3,vs,h4,by simp[h5],fun c hc=> ?_⟩
   rcases z03 hc with hc|rfl
   ·exact h6 c hc
   ·exact h1
 ·intro a b z z' hz hz' he;obtain⟨q,hq⟩:=hlk a z hz;obtain⟨q',hq'⟩:=hlk b z' hz';exact h.i1 a b q q' hq hq' he
 ·have hown:∀r e' ys b,(cm p v s).at r=some (.own e' ys)→((E.setHdr p x).hdr r).ownBlock=some b→(r=p∧v= .own e' ys∧x.ownBlock=some b)∨(r≠p∧s.at r=some (.own e' ys)∧(E.hdr r).ownBlock=some b):=by
   intro r e' ys b hr hb';rcases hin hr with⟨rfl,h2⟩|⟨hne,h2⟩|⟨_,_,_,_,_,_,h2⟩
   ·rw[ci]at hb';exact .inl ⟨rfl,h2.symm,hb'⟩
   ·rw[cp _ _ hne]at hb';exact .inr ⟨hne,h2,hb'⟩
   ·cases h2
  intro a c e' xs e'' ys b ha hc hba hbc;rcases hown a e' xs b ha hba with⟨rfl,he,hb1⟩|⟨hna,ha',hb1⟩
  ·rcases hown c e'' ys b hc hbc with⟨rfl,_,_⟩|⟨hnc,hc',hb2⟩
   ·rfl
   ·exact absurd hb2 ((hb ⟨_,_,he⟩ b hb1).2.2 c _ _ hnc hc')
  ·rcases hown c e'' ys b hc hbc with⟨rfl,he,hb2⟩|⟨hnc,hc',hb2⟩
   ·exact absurd hb1 ((hb ⟨_,_,he⟩ b hb2).2.2 a _ _ hna ha')
   ·exact h.i2 a c _ _ _ _ b ha' hc' hb1 hb2
 ·intro r e' ys o z b hr hz hb';obtain⟨z',hz'⟩:=hlk o z hz;rcases hin hr with⟨rfl,h2⟩|⟨hne,h2⟩|⟨_,_,_,_,_,_,h2⟩
  ·rw[ci]at hb';exact(hb ⟨_,_,h2.symm⟩ b hb').2.1 o z' hz'
  ·rw[cp _ _ hne]at hb';exact h.i3 r _ _ o z' b h2 hz' hb'
  ·cases h2
 ·intro r z q hr hq;rcases hin hr with⟨rfl,rfl⟩|⟨hne,h2⟩|⟨_,_,_,_,_,_,rfl⟩
  ·obtain⟨h3,h4,⟨e',xs',h5⟩,h6⟩:=hon q hq;exact⟨h3,⟨e',xs',wh hp hu h5 h4 rfl⟩,h6⟩
  ·obtain⟨h3,⟨e',xs',h5⟩,h6⟩:=h.na r z q h2 hq;have hqn:q≠p:=by rintro rfl;rw[hf r z h2]at hq;cases hq
   exact⟨h3,⟨e',xs',wh hp hu h5 hqn rfl⟩,h6⟩
  ·simp[SV.on]at hq
 ·intro r z o hr ho;rcases hin hr with⟨rfl,rfl⟩|⟨hne,h2⟩|⟨_,_,_,_,_,_,rfl⟩
  ·obtain⟨z,hz⟩:=hpt o ho;exact uv _ _ _ o z hz
  ·obtain⟨z',hz'⟩:=h.np r z o h2 ho;exact uv _ _ _ o z' hz'
  ·simp[SV.pts]at ho
 ·intro o k hok;obtain⟨h1,y,hy⟩:=h.ob o k hok;exact⟨h1,uv _ _ _ o y hy⟩
end
end Go.Ck
namespace Go.Ck
open Go.RowKit
theorem Gv(E:Env)(p:Place):E.setHdr p (E.hdr p)=E:=by
 cases E with|mk a b c=> ?_
 simp only[Env.setHdr,Env.mk.injEq,true_and,and_true]
 funext q
 split
 ·rename_i h;rw[h]
 ·rfl
def mq(s:St)(v:SV):Prop:=v.easy=true∧(∀q,v.on q=true→(∃e xs,s.at q=some (.own e xs))∧∀d i,q≠ .part d i)∧∀o,v.pts o=true→∃h,aj o s.hp=some h
theorem mq.pv(s:St)(p:PV):mq s (.pv p):=⟨rfl,by simp[SV.on],by simp[SV.pts]⟩
theorem mq.nils(s:St):mq s .nils:=⟨rfl,by simp[SV.on],by simp[SV.pts]⟩
theorem Nd(d:Nat)(s:St){q:Place}{e:TypeId}{xs:List PV}(h:s.at q=some (.own e xs)):(clear d s).at q=some (.own e xs):=by
 unfold clear;split
 ·exact nq _ s h
 ·exact h
theorem Xv(d:Nat)(s:St){q:Place}{e:TypeId}{xs:List PV}(h:(clear d s).at q=some (.own e xs)):s.at q=some (.own e xs):=by
 unfold clear at h;split at h
 ·rcases ox _ s q _ h with⟨h1,_⟩|⟨h1,_⟩
  ·cases h1
  ·exact h1
 ·exact h
section
variable {P : Program} {O0 : Base} {F : Nat → Prop} {w0 w : World} {s : St} {E : Env} {tmps : Array Value}
theorem Rel.putGood(h:Rel P O0 w0 F s E tmps w){v:SV}{x:Value}(d:Nat)(hg:mq s v)(hr:RS P (fun b=>E.om b∨F b) E w v x):Rel P O0 w0 F (put d v s) E (tmps.setIfInBounds d x) w:=by
 unfold put;split
 ·rename_i hd;obtain⟨hc,hf⟩:=h.clear d;have hd':d<(Ck.clear d s).n:=by rw[ti];exact hd
  cases hon:v.on (.slot d)with
  |true=>simp only[if_true];exact hc.setDead x hd' hf
  |false=>
   simp only[z06,if_false];refine hc.easySlot hd' hf hg.1 (.inr hr) (fun q hq=> ?_) (fun o ho=>by rw[Di];exact hg.2.2 o ho)
   obtain⟨⟨e,xs,h1⟩,h2⟩:=hg.2.1 q hq;exact⟨(fun he=>by subst he;rw[hon]at hq;cases hq),⟨e,xs,Nd d s h1⟩,h2⟩
 ·rename_i hd;rw[z02 (by rw[←h.size];omega)]
  exact h
theorem jm.clear{E:Env}{b:Nat}(d:Nat)(h:jm s E b):jm (Ck.clear d s) E b:=
 ⟨fun o y hl=>h.1 o y (by rw[Di]at hl;exact hl),fun p e xs hp=>h.2 p e xs (Xv d s hp)⟩
theorem Rel.putOwn(h:Rel P O0 w0 F s E tmps w){e:TypeId}{xs:List PV}{x:Value}(d:Nat)(ho:ki P (fun b=>E.om b∨F b) w e x xs)(hb:∀b,x.ownBlock=some b→E.om b∧jm s E b):
  ∃E',Rel P O0 w0 F (put d (.own e xs) s) E' (tmps.setIfInBounds d x) w:=by
 unfold put;split
 ·rename_i hd;obtain⟨hc,hf⟩:=h.clear d;have hd':d<(Ck.clear d s).n:=by rw[ti];exact hd
  simp only[SV.on,z06,if_false];exact⟨_,hc.setOwnSlot hd' hf ho (fun b h1=>⟨(hb b h1).1,(hb b h1).2.clear d⟩)⟩
 ·rename_i hd;rw[z02 (by rw[←h.size];omega)]
  exact⟨E,h⟩
theorem z6(q:Place)(s:St){p:Place}{e:TypeId}{xs:List PV}(h:(kill q s).at p=some (.own e xs)):s.at p=some (.own e xs):=by
 rcases ox q s p _ h with⟨h1,_⟩|⟨h1,_⟩
 ·cases h1
 ·exact h1
theorem Rel.take(h:Rel P O0 w0 F s E tmps w){p:Place}{e:TypeId}{xs:List PV}(hp:s.at p=some (.own e xs)):
  CV E tmps w p (E.hdr p)∧ki P (fun b=>E.om b∨F b) w e (E.hdr p) xs∧(∀b,(E.hdr p).ownBlock=some b→E.om b∧jm (xy p s) E b)∧Rel P O0 w0 F (xy p s) E tmps w:=by
 obtain⟨x,hx,rfl,ho,hom⟩:=h.place p _ hp;have hk:=h.kill p;have hpk:(Ck.kill p s).at p=some (.own e xs):=nq p s hp;refine⟨hx,ho,fun b hb=>⟨hom b hb,⟨fun o y hl he=> ?_,fun q e' ys hq hqb=> ?_⟩⟩, ?_⟩
 ·unfold xy at hl;rcases uk p .dead _ o y hl with h2|⟨e2,cs,i,_,h2,_⟩
  ·exact h.i3 p e xs o _ b hp h2 hb he
  ·exact h.i3 p e xs o _ b hp h2 hb he
 ·unfold xy at hq;rcases m6 hpk rfl rfl hq with⟨_,h2⟩|⟨hne,h2⟩|⟨_,_,_,_,_,_,h2⟩
  ·cases h2
  ·exact hne (h.i2 q p e' ys e xs b (z6 p s h2) hp hqb hb)
  ·cases h2
 ·have:=hk.recast (v:= .dead) (y:=E.hdr p) (x:=E.hdr p) hpk rfl rfl (h.free_kill p) rfl (by cases p<;>exact hx) (.inr rfl) (by simp[ip]) (by simp[SV.on]) (by rintro⟨_,_,h2⟩;cases h2) (by simp[SV.pts])
  rwa [Gv]at this
end
end Go.Ck
namespace Go.Ck
open Go.RowKit
section
variable {P : Program} {O0 : Base} {F : Nat → Prop} {w0 w : World} {s : St} {E : Env} {tmps : Array Value}
theorem Rel.ev_good(h:Rel P O0 w0 F s E tmps w){x:Operand}{v:SV}(hv:ev s x=some v):mq s v:=by
 unfold ev at hv;split at hv
 ·rename_i t;split at hv
  ·rename_i e xs hl;cases hv
   refine⟨rfl,fun q hq=> ?_,by simp[SV.pts]⟩
   have:q= .slot t:=by simpa[SV.on,eq_comm]using hq
   subst this;exact⟨⟨e,xs,hl⟩,by simp⟩
  ·cases hv
  ·cases hv
  ·rename_i h1 h2 h3;refine⟨?_,fun q hq=> ?_,fun o ho=>h.np (.slot t) v o hv ho⟩
   ·cases v<;>first|rfl|(exact absurd hv (h1 _ _))|(exact absurd hv (h3 _))
   ·exact(h.na (.slot t) v q hv hq).2
 ·rename_i c;unfold ofConst at hv;split at hv<;>cases hv<;>first|exact .pv _ _|exact .nils _
 ·cases hv
  exact⟨rfl,by simp[SV.on],by simp[SV.pts]⟩
 ·cases hv
theorem ul{o:Option PV}{v:SV}(h:Ym o=some v):mq s v:=by
 cases o<;>cases h;exact .pv _ _
theorem abq{o:Option (List Int)}{v:SV}(h:akw o=some v):mq s v:=by
 cases o<;>cases h;exact .pv _ _
theorem aer{o:Option (List PV)}{v:SV}(h:afg o=some v):mq s v:=by
 cases o<;>cases h;exact .pv _ _
theorem Mx{o:Option Int}{v:SV}(h:intO o=some v):mq s v:=by
 cases o<;>cases h;exact .pv _ _
theorem M5{c:Bool}{op:BinOp}{v:SV}(h:Vg c op=some v):mq s v:=by
 unfold Vg at h;split at h<;>cases h<;>exact .pv _ _
theorem Yc{T:TK}{op:BinOp}{x y v:SV}(h:Lq T op x y=some v):mq s v:=by
 unfold Lq at h;split at h
 ·exact ul h
 ·exact ul h
 ·split at h
  ·exact ul h
  ·cases h
 ·split at h
  ·exact M5 h
  ·cases h
 ·split at h
  ·exact M5 h
  ·cases h
 ·cases h
theorem Xs{x:SV}{A B:TK}{C:TypeId→TK}{v:SV}(h:convT s x A B C=some v):mq s v:=by
 unfold convT at h;split at h
 ·split at h<;>cases h;exact .pv _ _
 ·split at h<;>cases h;exact .pv _ _
 ·split at h
  ·unfold bstrO at h;split at h
   ·exact abq h
   ·cases h
  ·cases h
 ·cases h
theorem Xq{j:Nat}{T:Option (Nat×Bool)}{o:Option PV}{v:SV}(h:Yy j T o=some v):mq s v:=by
 cases o with
 |none=>cases h
 |some c=>exact ul h
theorem act{e i j:Nat}{T:Option (Nat×Bool)}{o:Option SV}{v:SV}(h:afe e i j T o=some v):mq s v:=by
 unfold afe at h;split at h
 ·split at h
  ·exact Xq h
  ·cases h
 ·cases h
theorem Rel.cellO_good(h:Rel P O0 w0 F s E tmps w){o off:Nat}{e:TypeId}{cs:List SV}(hl:aj o s.hp=some (.cells e cs)){v:SV}(hv:Q5 o off cs[off]?=some v):mq s v:=by
 have hat:s.at (.cell o off)=cs[off]?:=by simp[St.at,hl]
 rw[←hat]at hv;cases hc:s.at (.cell o off)with
 |none=>rw[hc]at hv;cases hv
 |some u=>
  rw[hc]at hv;unfold Q5 at hv;split at hv
  ·rename_i e' xs he;cases hv
   cases he
   refine⟨rfl,fun q hq=> ?_,by simp[SV.pts]⟩
   have:q= .cell o off:=by simpa[SV.on,eq_comm]using hq
   subst this;exact⟨⟨e',xs,hc⟩,by simp⟩
  ·cases hv
  ·cases hv
  ·rename_i h1 h2 h3;have e:u=v:=by simpa using hv
   subst e;refine⟨?_,fun q hq=> ?_,fun o' ho=>h.np _ _ o' hc ho⟩
   ·cases u<;>first|rfl|(exact absurd rfl (h1 _ _))|(exact absurd rfl (h3 _))
   ·obtain⟨⟨d,hd⟩,_⟩:=h.na _ _ q hc hq;cases hd
theorem mq.of_on{v u:SV}(h:mq s v)(he:u.easy=true)(hon:∀q,u.on q=true→v.on q=true)(hp:∀o,u.pts o=true→v.pts o=true):mq s u:=
 ⟨he,fun q hq=>h.2.1 q (hon q hq),fun o ho=>h.2.2 o (hp o ho)⟩
theorem Rel.aload_good(h:Rel P O0 w0 F s E tmps w){T:Option (Nat×Bool)}{x v:SV}(hv:aload T s x=some v):mq s v:=by
 unfold aload at hv;split at hv
 ·exact ul hv
 ·exact act hv
 ·unfold aff at hv;split at hv
  ·rename_i e cs hl;split at hv
   ·split at hv
    ·exact aer hv
    ·cases hv
   ·exact h.cellO_good hl hv
   ·cases hv
  ·cases hv
 ·cases hv
theorem ajn{p:Place}{e k:Nat}{v:SV}(hp:∀d i,p≠ .part d i)(h:eaO p e k (s.at p)=some v):mq s v:=by
 unfold eaO at h;split at h
 ·rename_i e' xs he;split at h<;>cases h
  refine⟨rfl,fun q hq=> ?_,by simp[SV.pts]⟩
  have:p=q:=by simpa[SV.on]using hq
  subst this;exact⟨⟨_,_,he⟩,hp⟩
 ·cases h
theorem Ui{k:Int}{x v:SV}{T:TK}(hx:mq s x)(h:indexT s k x T=some v):mq s v:=by
 unfold indexT at h;split at h
 ·split at h
  ·cases h
  ·split at h
   ·split at h
    ·unfold raO at h;split at h<;>cases h
     exact⟨rfl,by simp[SV.on],by simp[SV.pts]⟩
    ·cases h
   ·rename_i p;exact ajn (hx.2.1 p (by simp[SV.on])).2 h
   ·split at h<;>cases h
    exact hx.of_on rfl (by simp[SV.on]) (by simp[SV.pts])
   ·split at h<;>cases h
    exact hx.of_on rfl (by simp[SV.on]) (by simp[SV.pts])
   ·cases h
 ·split at h
  ·cases h
  ·split at h
   ·split at h<;>cases h
    exact hx.of_on rfl (by simp[SV.on]) (by simp[SV.pts])
   ·cases h
 ·cases h
theorem Tr{l n:Nat}{x v:SV}{T:TK}(hx:mq s x)(h:H6 l n x T=some v):mq s v:=by
 unfold H6 at h;split at h
 ·split at h
  ·split at h<;>cases h
   exact .pv _ _
  ·split at h<;>cases h
   exact hx.of_on rfl (by simp[SV.on]) (by simp[SV.pts])
  ·split at h<;>cases h
   exact hx.of_on rfl (by simp[SV.on]) (by simp[SV.pts])
  ·split at h<;>cases h
   exact .nils _
  ·cases h
 ·split at h<;>cases h
  exact .pv _ _
 ·cases h
theorem Rel.aval_good(h:Rel P O0 w0 F s E tmps w){ty:TypeId}{op:Op}{v:SV}(hv:aval P s ty op=some v):mq s v:=by
 unfold aval at hv;split at hv
 ·exact h.ev_good hv
 ·exact h.ev_good hv
 ·split at hv
  ·split at hv<;>cases hv
   exact .pv _ _
  ·split at hv<;>cases hv
   exact .pv _ _
  ·cases hv
 ·split at hv
  ·split at hv<;>cases hv
   exact .pv _ _
  ·cases hv
 ·split at hv
  ·exact Yc hv
  ·cases hv
 ·split at hv
  ·exact Xs hv
  ·cases hv
 ·split at hv<;>cases hv<;>(rename_i he;exact h.ev_good he)
 ·split at hv
  ·exact h.aload_good hv
  ·cases hv
 ·split at hv
  ·rename_i he;have hx:=h.ev_good he;unfold kr at hv;split at hv
   ·split at hv
    ·split at hv
     ·cases hv
     ·split at hv<;>cases hv<;>exact hx.of_on rfl (by simp[SV.on]) (by simp[SV.pts])
    ·cases hv
   ·cases hv
  ·cases hv
 ·split at hv
  ·unfold In at hv;split at hv
   ·split at hv
    ·split at hv
     ·split at hv
      ·cases hv
      ·exact ul hv
     ·cases hv
    ·cases hv
   ·cases hv
  ·cases hv
 ·split at hv
  ·rename_i he _;have hx:=h.ev_good he;unfold aindexAddr at hv;split at hv
   ·split at hv
    ·cases hv
    ·exact Ui hx hv
   ·cases hv
  ·cases hv
 ·split at hv
  ·rename_i he _ _;have hx:=h.ev_good he;unfold Im sliceN at hv;split at hv
   ·split at hv
    ·unfold Ob at hv;split at hv
     ·exact Tr hx hv
     ·cases hv
    ·cases hv
   ·cases hv
  ·cases hv
 ·split at hv
  ·split at hv<;>cases hv
   exact .pv _ _
  ·cases hv
 ·split at hv<;>cases hv
  exact .pv _ _
 ·split at hv
  ·split at hv
   ·unfold lenT at hv;split at hv
    ·split at hv<;>cases hv
     exact .pv _ _
    ·split at hv
     ·cases hv
     ·cases hv
     ·exact Mx hv
    ·split at hv
     ·exact Mx hv
     ·cases hv
    ·cases hv
   ·cases hv
  ·split at hv
   ·unfold ak0 at hv;split at hv
    ·split at hv<;>cases hv;exact .pv _ _
    ·cases hv
   ·cases hv
  ·split at hv
   ·unfold ak1 at hv;split at hv
    ·split at hv<;>cases hv;exact .pv _ _
    ·cases hv
   ·cases hv
  ·cases hv
 ·cases hv
theorem sm{a:Act}(h:Rel P O0 w0 F s E a.tmps w){o:Oper}{d:Nat}{v:SV}(hv:aval P s o.type o.op=some v):
  ∃x,(execOp a.eval o).run P w= .ok (.value x) w∧Rel P O0 w0 F (put d v s) E (a.tmps.setIfInBounds d x) w:=by
 obtain⟨x,h1,h2⟩:=X9 h hv;exact⟨x,h1,h.putGood d (h.aval_good hv) h2⟩
end
end Go.Ck
