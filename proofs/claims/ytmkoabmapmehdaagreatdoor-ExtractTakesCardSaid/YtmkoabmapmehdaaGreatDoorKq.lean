/- What is proved here: parts of the proofs of this seat's statements (a verified evaluator for calls over pure values, its laws, and contracts of functions). No condition. -/
import Derived.Test.YtmkoabmapmehdaaGreatDoorKp
set_option linter.all false
open Array renaming getD_eq_getD_getElem?→z00,getElem?_eq_getElem→z01,replicate→z03,getElem?_eq_none→z12
open List renaming all_eq_true→z02,getElem?_append_left→z04,mem_of_getElem?→z06,take_append_of_le_length→z08,getElem?_append_right→z09,mem_cons→z10,getElem?_eq_getElem→z11,any_eq_true→z13,replicate→z14,range→z17
open Bool renaming and_eq_true→z05
open Nat renaming lt_or_ge→z07,zero_add→z15,le_refl→z16
namespace Go.Ck
open Go.RowKit
structure Le (s t:St):Prop where
 sl:∀d v,aj d s.sl=some v→aj d t.sl=some v
 hp:s.hp=t.hp
section
variable {P : Program} {s t : St}
theorem Le.at(h:Le s t){p:Place}{v:SV}(hv:s.at p=some v):t.at p=some v:=by
 cases p with
 |slot d=>exact h.sl d v hv
 |part d i=>
  simp only[St.at]at hv⊢;cases hl:aj d s.sl with
  |none=>rw[hl]at hv;cases hv
  |some u=>rw[hl]at hv;rw[h.sl d u hl];exact hv
 |cell o i=>simp only[St.at]at hv⊢;rw[←h.hp];exact hv
theorem Le.ev(h:Le s t){x:Operand}{v:SV}(hv:Ck.ev s x=some v):Ck.ev t x=some v:=by
 cases x with
 |tmp d=>
  unfold Ck.ev at hv⊢;simp only at hv⊢;cases hl:aj d s.sl with
  |none=>rw[hl]at hv;cases hv
  |some u=>rw[h.sl d u hl];rw[hl]at hv;exact hv
 |_=>exact hv
theorem Le.evs(h:Le s t):∀ {l:List Operand} {vs:List SV},Ck.evs s l=some vs→Ck.evs t l=some vs
 |[],vs,hv=>hv
 |x::r,vs,hv=>by
  simp only[Ck.evs]at hv⊢;split at hv
  ·rename_i v vs' h1 h2;rw[h.ev h1,h.evs h2];exact hv
  ·cases hv
theorem Le.evo(h:Le s t){x:Option Operand}{v:Option SV}(hv:Ck.evo s x=some v):Ck.evo t x=some v:=by
 cases x with
 |none=>exact hv
 |some x=>
  simp only[Ck.evo]at hv⊢;split at hv
  ·rename_i v' h1;rw[h.ev h1];exact hv
  ·cases hv
theorem Le.cont(h:Le s t){v:SV}{xs:List PV}(hv:Ck.cont s v=some xs):Ck.cont t v=some xs:=by
 cases v with
 |al p=>
  simp only[Ck.cont]at hv⊢;cases hl:s.at p with
  |none=>rw[hl]at hv;cases hv
  |some u=>rw[h.at hl];rw[hl]at hv;exact hv
 |vw p e off n=>
  simp only[Ck.cont]at hv⊢;cases hl:s.at p with
  |none=>rw[hl]at hv;cases hv
  |some u=>rw[h.at hl];rw[hl]at hv;exact hv
 |pv p=>cases p<;>exact hv
 |_=>exact hv
theorem Le.alen(h:Le s t){v:SV}{n:Int}(hv:Ck.alen s v=some n):Ck.alen t v=some n:=by
 have key:∀u,(match Ck.cont s u with|some xs=>some (xs.length:Int)|none=>none)=some n→(match Ck.cont t u with|some xs=>some (xs.length:Int)|none=>none)=some n:=by
  intro u hu;split at hu
  ·rename_i xs h1;rw[h.cont h1];exact hu
  ·cases hu
 cases v with
 |pv p=>cases p<;>first|exact hv|exact key (.pv _) hv
 |mp o=>simp only[Ck.alen]at hv⊢;rw[←h.hp];exact hv
 |own e xs=>exact key (.own e xs) hv
 |nils=>exact key .nils hv
 |al p=>exact key (.al p) hv
 |vw p e off n=>exact key (.vw p e off n) hv
 |ptr o off=>exact key (.ptr o off) hv
 |ea p e i j=>exact key (.ea p e i j) hv
 |ra c j=>exact key (.ra c j) hv
 |fn f caps=>exact key (.fn f caps) hv
 |tup vs=>exact key (.tup vs) hv
 |agg cs=>exact key (.agg cs) hv
 |yl l=>exact key (.yl l) hv
 |bm f o=>exact key (.bm f o) hv
 |os o off n=>exact key (.os o off n) hv
 |lit xs=>exact key (.lit xs) hv
 |dead=>exact key .dead hv
theorem Le.aload(h:Le s t){T:Option (Nat×Bool)}{v u:SV}(hv:Ck.aload T s v=some u):Ck.aload T t v=some u:=by
 cases v with
 |ea p e i j=>
  simp only[Ck.aload]at hv⊢;cases hl:s.at p with
  |none=>rw[hl]at hv;cases hv
  |some u=>rw[h.at hl];rw[hl]at hv;exact hv
 |ptr o off=>simp only[Ck.aload]at hv⊢;rw[←h.hp];exact hv
 |_=>exact hv
theorem Le.indexT(h:Le s t){k:Int}{v u:SV}{T:TK}(hv:Ck.indexT s k v T=some u):Ck.indexT t k v T=some u:=by
 cases T with
 |sl e ez eb ea=>
  simp only[Ck.indexT]at hv⊢;split at hv
  ·cases hv
  ·rename_i hez;rw[if_neg hez];cases v with
   |al p=>
    simp only at hv⊢;cases hl:s.at p with
    |none=>rw[hl]at hv;cases hv
    |some u=>rw[h.at hl];rw[hl]at hv;exact hv
   |pv p=>cases p<;>exact hv
   |_=>exact hv
 |arr n e ez ea=>cases v<;>exact hv
 |_=>exact hv
theorem Le.aindexAddr(h:Le s t){T:TypeId}{v u k:SV}(hv:Ck.aindexAddr P s T v k=some u):Ck.aindexAddr P t T v k=some u:=by
 cases k with
 |pv p=>
  cases p with
  |int kk n=>
   simp only[Ck.aindexAddr]at hv⊢;split at hv
   ·cases hv
   ·rename_i hn;rw[if_neg hn];exact h.indexT hv
  |_=>exact hv
 |_=>exact hv
theorem Le.lenT(h:Le s t){v u:SV}{T:TK}(hv:Ck.lenT s v T=some u):Ck.lenT t v T=some u:=by
 have key:∀v,Ck.intO (Ck.alen s v)=some u→Ck.intO (Ck.alen t v)=some u:=by
  intro v hv;cases hl:Ck.alen s v with
  |none=>rw[hl]at hv;cases hv
  |some n=>rw[h.alen hl];rw[hl]at hv;exact hv
 cases T with
 |sl e ez eb ea=>
  cases v with
  |pv p=>cases p<;>first|exact hv|exact key (.pv _) hv
  |mp o=>exact hv
  |own e xs=>exact key (.own e xs) hv
  |nils=>exact key .nils hv
  |al p=>exact key (.al p) hv
  |vw p e off n=>exact key (.vw p e off n) hv
  |ptr o off=>exact key (.ptr o off) hv
  |ea p e i j=>exact key (.ea p e i j) hv
  |ra c j=>exact key (.ra c j) hv
  |fn f caps=>exact key (.fn f caps) hv
  |tup vs=>exact key (.tup vs) hv
  |agg cs=>exact key (.agg cs) hv
  |yl l=>exact key (.yl l) hv
  |bm f o=>exact key (.bm f o) hv
  |os o off n=>exact key (.os o off n) hv
  |lit xs=>exact key (.lit xs) hv
  |dead=>exact key .dead hv
 |map a b=>
  cases v with
  |mp o=>exact key _ hv
  |_=>exact hv
 |_=>exact hv
theorem Le.convT(h:Le s t){v u:SV}{A B:TK}{C:TypeId→TK}(hv:Ck.convT s v A B C=some u):Ck.convT t v A B C=some u:=by
 have key:Ck.bstrO (Ck.cont s v)=some u→Ck.bstrO (Ck.cont t v)=some u:=by
  intro hv;cases hl:Ck.cont s v with
  |none=>rw[hl]at hv;cases hv
  |some n=>rw[h.cont hl];rw[hl]at hv;exact hv
 unfold Ck.convT at hv⊢;split at hv
 ·exact hv
 ·exact hv
 ·split at hv
  ·rename_i he;exact key hv
  ·cases hv
 ·cases hv
theorem Le.sliceN(h:Le s t){T:TK}{v u:SV}{lo hi:Option (Option Int)}(hv:Ck.sliceN T v lo hi (Ck.alen s v)=some u):Ck.sliceN T v lo hi (Ck.alen t v)=some u:=by
 cases hl:Ck.alen s v with
 |none=>rw[hl]at hv;cases hv
 |some n=>rw[h.alen hl];rw[hl]at hv;exact hv
def Bb:Op→Bool
 | .move _| .unOp _ _ _| .binOp _ _ _ _ _| .convert _ _ _| .nilCheck _| .load _ _| .fieldAddr _ _ _| .field _ _ _| .indexAddr _ _ _=>true
 | .slice _ _ _ _ none=>true
 | .extract (.tmp _) _=>true
 | .call c=>(match c.callee with| .builtin .len=>true|_=>false)
 |_=>false
theorem Le.aval(h:Le s t){ty:TypeId}{op:Op}{u:SV}(hc:Bb op=true)(hv:Ck.aval P s ty op=some u):Ck.aval P t ty op=some u:=by
 cases op with
 |move x=>exact h.ev hv
 |unOp op ty x=>
  simp only[Ck.aval]at hv⊢;cases hx:Ck.ev s x with
  |none=>rw[hx]at hv;cases hv
  |some v=>rw[h.ev hx];rw[hx]at hv;exact hv
 |binOp op ty x y z=>
  simp only[Ck.aval]at hv⊢;cases hx:Ck.ev s x with
  |none=>rw[hx]at hv;cases hv
  |some v=>
   cases hy:Ck.ev s y with
   |none=>rw[hx,hy]at hv;cases hv
   |some v'=>rw[h.ev hx,h.ev hy];rw[hx,hy]at hv;exact hv
 |convert a b x=>
  simp only[Ck.aval]at hv⊢;cases hx:Ck.ev s x with
  |none=>rw[hx]at hv;cases hv
  |some v=>rw[h.ev hx];rw[hx]at hv;exact h.convT hv
 |nilCheck x=>
  simp only[Ck.aval]at hv⊢;cases hx:Ck.ev s x with
  |none=>rw[hx]at hv;cases hv
  |some v=>rw[h.ev hx];rw[hx]at hv;exact hv
 |load ty x=>
  simp only[Ck.aval]at hv⊢;cases hx:Ck.ev s x with
  |none=>rw[hx]at hv;cases hv
  |some v=>rw[h.ev hx];rw[hx]at hv;exact h.aload hv
 |fieldAddr ty x f=>
  simp only[Ck.aval]at hv⊢;cases hx:Ck.ev s x with
  |none=>rw[hx]at hv;cases hv
  |some v=>rw[h.ev hx];rw[hx]at hv;exact hv
 |field ty x f=>
  simp only[Ck.aval]at hv⊢;cases hx:Ck.ev s x with
  |none=>rw[hx]at hv;cases hv
  |some v=>rw[h.ev hx];rw[hx]at hv;exact hv
 |indexAddr ty x y=>
  simp only[Ck.aval]at hv⊢;cases hx:Ck.ev s x with
  |none=>rw[hx]at hv;cases hv
  |some v=>
   cases hy:Ck.ev s y with
   |none=>rw[hx,hy]at hv;cases hv
   |some v'=>rw[h.ev hx,h.ev hy];rw[hx,hy]at hv;exact h.aindexAddr hv
 |slice ty x lo hi m=>
  cases m with
  |some _=>cases hc
  |none=>
   simp only[Ck.aval]at hv⊢;cases hx:Ck.ev s x with
   |none=>rw[hx]at hv;cases hv
   |some v=>
    cases hy:Ck.evo s lo with
    |none=>rw[hx,hy]at hv;cases hv
    |some v'=>
     cases hz:Ck.evo s hi with
     |none=>rw[hx,hy,hz]at hv;cases hv
     |some v''=>rw[h.ev hx,h.evo hy,h.evo hz];rw[hx,hy,hz]at hv;exact h.sliceN hv
 |extract x i=>
  cases x with
  |tmp d=>
   simp only[Ck.aval]at hv⊢;cases hx:s.at (.part d i)with
   |none=>rw[hx]at hv;cases hv
   |some v=>rw[h.at hx];rw[hx]at hv;exact hv
  |_=>cases hc
 |call c=>
  simp only[Bb]at hc;simp only[Ck.aval]at hv⊢;split at hc
  ·rename_i hcal;simp only[hcal]at hv⊢;cases hx:Ck.evs s c.args.toList with
   |none=>rw[hx]at hv;cases hv
   |some vs=>
    rw[h.evs hx];rw[hx]at hv
    split at hv
    ·rename_i v t' h1 h2;cases h1
     exact h.lenT hv
    ·cases hv
  ·cases hc
 |_=>cases hc
theorem ajk{x:Nat}{v:SV}(h:Ck.ev s (.tmp x)=some v):∀vs,aj x s.sl≠some (.tup vs):=by
 intro vs hl;unfold Ck.ev at h;simp only[hl]at h;cases h
theorem Ya{o:Oper}{d:Nat}{v:SV}(hd:o.dst=some d)(hc:Bb o.op=true)(hv:Ck.aval P s o.type o.op=some v):du P o s=some (put d v s):=by
 have hE:(reads o.op=true∨N4 P s d o.type o.op=none):=by
  cases ho:o.op with
  |move x=>
   cases x with
   |tmp x=>
    right
    rw[ho]at hv;simp only[Ck.aval]at hv;simp only[N4];split
    ·rename_i vs hl;exact absurd hl (ajk hv vs)
    ·rfl
   |_=>exact .inl rfl
  |extract x i=>
   cases x with
   |tmp x=>
    right
    rw[ho]at hv;simp only[Ck.aval]at hv;simp only[N4];split
    ·rename_i e xs hl;rw[hl]at hv;cases hv
    ·rfl
   |_=>rw[ho]at hc;cases hc
  |call c=>
   rw[ho]at hc;simp only[Bb]at hc;split at hc
   ·rename_i hcal;left;simp[reads,hcal]
   ·cases hc
  |slice a b c d e=>exact .inl rfl
  |_=>first|exact .inl rfl|(rw[ho]at hc;cases hc)
 unfold du;simp only[hd];by_cases hr:reads o.op=true
 ·rw[if_pos hr,hv];rfl
 ·rw[if_neg hr,hE.resolve_left hr];simp only[yi,hv]
theorem Rel.same{O0:Base}{F:Nat→Prop}{w0 w:World}{E:Env}{tmps:Array Value}(hn:s.n=t.n)(hp:s.hp=t.hp)(hs:∀d,aj d s.sl=aj d t.sl)(h:Rel P O0 w0 F s E tmps w):Rel P O0 w0 F t E tmps w:=by
 have ha:∀p,t.at p=s.at p:=by
  intro p;cases p<;>simp only[St.at,hs,hp]
 have hna:∀p v q,t.at p=some v→v.on q=true→(∃d,p= .slot d)∧(∃e xs,t.at q=some (.own e xs))∧∀d i,q≠ .part d i:=fun p v q h1 h2=>by
  obtain⟨a1,⟨e,xs,a2⟩,a3⟩:=h.na p v q (by rw[←ha];exact h1) h2
  exact⟨a1,⟨e,xs,by rw[ha];exact a2⟩,a3⟩
 have hnp:∀p v o,t.at p=some v→v.pts o=true→∃h,aj o t.hp=some h:=fun p v o h1 h2=>by
  obtain⟨y,hy⟩:=h.np p v o (by rw[←ha];exact h1) h2
  exact⟨y,by rw[←hp];exact hy⟩
 have hob:∀o b,O0.ob o=some b→E.obj o=b∧∃y,aj o t.hp=some y:=fun o b hb=>by
  obtain⟨a1,y,hy⟩:=h.ob o b hb;exact⟨a1,y,by rw[←hp];exact hy⟩
 exact⟨fun p v hv=>h.place p v (by rw[←ha];exact hv),fun o y hy=>h.obj o y (by rw[hp];exact hy),hn▸h.size,fun o o' y y' hy hy'=>h.i1 o o' y y' (by rw[hp];exact hy) (by rw[hp];exact hy'),fun p q e xs e' ys b h1 h2=>h.i2 p q e xs e' ys b (by rw[←ha];exact h1) (by rw[←ha];exact h2),fun p e xs o y b h1 h2=>h.i3 p e xs o y b (by rw[←ha];exact h1) (by rw[hp];exact h2),h.om_lt,h.om0,hna,hnp,h.gr,h.flt,hob⟩
theorem AW.same{R:Option Nat}{Φ:Exit→Cx→St→Prop}{k:List It}{C:Cx}{e:Exit}(hn:s.n=t.n)(hp:s.hp=t.hp)(hs:∀d,aj d s.sl=aj d t.sl)(h:AW P R Φ e k C t):AW P R Φ e k C s:=
 wb (fun B a w ⟨hd,E,hE⟩=>⟨B,hd,E,Rel.same hn hp hs hE⟩) h
end
def A6(P:Program)(o:Oper)(d:Nat)(s:St)(v:SV):Prop:=∀(R:Option Nat) (Φ:Exit→Cx→St→Prop) (k:List It) (C:Cx) (all:Array Oper) (r:List Oper) (t:St),Le s t→aj d t.sl=none→d<t.n→AW P R Φ .normal (.ops all r::k) C (setSlot d v t)→AW P R Φ .normal (.ops all (o::r)::k) C t
theorem rg{d:Nat}{v:SV}{t:St}(h:aj d t.sl=none)(hn:d<t.n)(hv:v.on (.slot d)=false):put d v t=setSlot d v t:=by
 unfold put clear;rw[if_pos hn,h,hv];rfl
section
variable {P : Program} {R : Option Nat} {Φ : Exit → Cx → St → Prop} {k : List It} {C : Cx} {s : St}
theorem A6.read{o:Oper}{d:Nat}{v:SV}(hg:o.guard=none)(hd:o.dst=some d)(hc:Bb o.op=true)(hv:aval P s o.type o.op=some v)(hon:v.on (.slot d)=false):A6 P o d s v:=fun R Φ k C all r t hle hl hn h=>by
 refine AW.step hg (Ya hd hc (hle.aval hc hv)) ?_;rw[rg hl hn hon];exact h
theorem Le.callOp{s t:St}(h:Le s t){op:Op}{x:FuncId×List SV}(hc:Ck.callOp s op=some x):Ck.callOp t op=some x:=by
 cases op with
 |call c=>
  simp only[Ck.callOp]at hc⊢;split at hc
  ·rename_i fx hcal;unfold Q6 at hc;split at hc
   ·rename_i f caps hf;split at hc
    ·rename_i vs hvs;rw[h.ev hf,h.evs hvs];exact hc
    ·cases hc
   ·cases hc
  ·cases hc
 |_=>cases hc
theorem Rr{s:St}:∀ps:List PV,Pass P s id (ps.map SV.pv) (ps.map SV.pv) [] none
 |[]=> .nil
 |p::r=> .pv p (Rr r)
theorem ape(ps:List PV):Hc id [] (ps.map SV.pv) [] none=true:=by
 have:(ps.map SV.pv).all (inL (bk []))=true:=by
  simp only[List.all_map,z02];intro p _;simp[inL,B8]
 simp only[Hc,this];rfl
theorem A6.call{o:Oper}{d:Nat}{f:FuncId}{ps:List PV}{p:PV}(hg:o.guard=none)(hd:o.dst=some d)(hc:Ck.callOp s o.op=some (f,ps.map SV.pv))(hF:Fn P f [] (ps.map SV.pv) (fun rs H=>rs=[.pv p]∧H=[])):A6 P o d s (.pv p):=fun R Φ k C all r t hle hl hn h=>by
 refine av id hF (Rr ps) ?_ hg hd (hle.callOp hc) trivial (ape ps) rfl rfl;have:sf t id none [] d [SV.pv p] []=put d (.pv p) t:=rfl;rw[this,rg hl hn rfl];exact h
end
end Go.Ck
namespace Go.Ck
open Go.RowKit
def Ar(T:List (Nat×SV)):List Nat→List (Nat×SV)
 |[]=> []
 |u::r=>(match aj u T with|some v=>(u,v)::Ar T r|none=>Ar T r)
def ru(T:List (Nat×SV))(us:List Nat)(s:St):St:=⟨s.n,Ar T us++s.sl,s.hp⟩
def sel(listed:Array Bool):Nat→List (Nat×SV)→List (Nat×SV)
 |_,[]=> []
 |i,x::r=>if listed.getD i false=true then x::sel listed (i+1) r else sel listed (i+1) r
def Cc(listed:Array Bool)(T:List (Nat×SV))(s:St):St:=⟨s.n,sel listed 0 T++s.sl,s.hp⟩
theorem R3{α:Type}(d:Nat)(l r:List (Nat×α)):aj d (l++r)=match aj d l with|some v=>some v|none=>aj d r:=by
 induction l with
 |nil=>rfl
 |cons x l ih=>
  obtain⟨k,v⟩:=x;simp only[List.cons_append,aj];split
  ·rfl
  ·exact ih
theorem Ex{T:List (Nat×SV)}{d:Nat}{v:SV}:∀ {us:List Nat},aj d (Ar T us)=some v→d∈us∧aj d T=some v
 |[],h=>by cases h
 |u::r,h=>by
  simp only[Ar]at h;split at h
  ·rename_i v' hl;simp only[aj]at h;split at h
   ·rename_i hu;subst hu;cases h;exact⟨by simp,hl⟩
   ·obtain⟨h1,h2⟩:=Ex h;exact⟨by simp[h1],h2⟩
  ·obtain⟨h1,h2⟩:=Ex h;exact⟨by simp[h1],h2⟩
theorem O4{α:Type}{d:Nat}{v:α}:∀ {T:List (Nat×α)},aj d T=some v→(d,v)∈T
 |[],h=>by cases h
 |(k,u)::r,h=>by
  simp only[aj]at h;split at h
  ·rename_i e;subst e;cases h;simp
  ·exact List.mem_cons_of_mem _ (O4 h)
theorem aiv{T:List (Nat×SV)}{d:Nat}{v:SV}(h:aj d T=some v):∃j:Nat,T[j]?=some (d,v):=by
 have:=O4 h;exact List.mem_iff_getElem?.1 this
theorem Rk(listed:Array Bool)(i:Nat)(x:Nat×SV)(r:List (Nat×SV)):sel listed i (x::r)=if listed.getD i false=true then x::sel listed (i+1) r else sel listed (i+1) r:=rfl
theorem G0{listed:Array Bool}{x:Nat×SV}:∀ {T:List (Nat×SV)} {i:Nat},x∈sel listed i T↔∃j,T[j]?=some x∧listed.getD (i+j) false=true
 |[],i=>by simp[sel]
 |y::r,i=>by
  have ih:=G0 (x:=x) (listed:=listed) (T:=r) (i:=i+1);have hj:(∃j,(y::r)[j]?=some x∧listed.getD (i+j) false=true)↔(y=x∧listed.getD i false=true)∨∃j,r[j]?=some x∧listed.getD (i+1+j) false=true:=by
   constructor
   ·rintro⟨j,h1,h2⟩;cases j with
    |zero=>left;simp at h1;exact⟨h1,h2⟩
    |succ j=>right;exact⟨j,by simpa using h1,by rw[show i+1+j=i+(j+1)by omega];exact h2⟩
   ·rintro(⟨h1,h2⟩|⟨j,h1,h2⟩)
    ·exact⟨0,by simp[h1],h2⟩
    ·exact⟨j+1,by simpa using h1,by rw[show i+(j+1)=i+1+j by omega];exact h2⟩
  rw[hj,←ih,Rk];by_cases h:listed.getD i false=true
  ·rw[if_pos h,z10];constructor
   ·rintro(h1|h1)
    ·exact .inl ⟨h1.symm,h⟩
    ·exact .inr h1
   ·rintro(⟨h1,_⟩|h1)
    ·exact .inl h1.symm
    ·exact .inr h1
  ·rw[if_neg h];constructor
   ·exact .inr
   ·rintro(⟨_,h1⟩|h1)
    ·exact absurd h1 h
    ·exact h1
theorem Mt{α:Type}{d:Nat}{v:α}:∀ {l:List (Nat×α)},(d,v)∈l→(∀u,(d,u)∈l→u=v)→aj d l=some v
 |[],h,_=>by cases h
 |(k,u)::r,h,hu=>by
  simp only[aj];split
  ·rename_i e;subst e;rw[hu u (by simp)]
  ·rename_i e;refine Mt ?_ (fun u' h'=>hu u' (by simp[h']))
   rcases z10.1 h with h|h
   ·cases h;exact absurd rfl e
   ·exact h
structure Keys (T:List (Nat×SV)):Prop where
 one:∀(i j d:Nat) (u v:SV),T[i]?=some (d,u)→T[j]?=some (d,v)→i=j
theorem yp{T:List (Nat×SV)}(hk:Keys T){listed:Array Bool}{j d:Nat}{v:SV}(hj:T[j]?=some (d,v))(hl:listed.getD j false=true):aj d (sel listed 0 T)=some v:=by
 refine Mt (G0.2 ⟨j,hj,by simpa using hl⟩) (fun u hu=> ?_)
 obtain⟨i,h1,_⟩:=G0.1 hu;have:=hk.one i j d u v h1 hj;subst this;rw[h1]at hj;cases hj;rfl
open Classical in
theorem H8{T:List (Nat×SV)}{listed:Array Bool}(hk:Keys T){s:St}{d:Nat}:aj d (Cc listed T s).sl=if∃j v,T[j]?=some (d,v)∧listed.getD j false=true then aj d (sel listed 0 T)else aj d s.sl:=by
 simp only[Cc,R3];split
 ·rename_i v hv;rw[if_pos]
  ·exact hv.symm
  ·obtain⟨j,h1,h2⟩:=(G0 (x:=(d,v))).1 (O4 hv);exact⟨j,v,h1,by simpa using h2⟩
 ·rename_i hv;rw[if_neg];rintro⟨j,v,h1,h2⟩;rw[yp hk h1 h2]at hv;cases hv
def vm(o:Oper):List Nat:=(o.after.toList.filter (Region.binds .any)).map (·.on)
def anc(all:Array Oper):Nat→Nat→List Nat
 |0,_=> []
 |f+1,i=>(match all[i]? with
  |some o=>(vm o).flatMap fun j=>j::anc all f j
  |none=> [])
def S0(all:Array Oper)(M i:Nat):Bool:=match all[i]? with
 |some o=>(vm o).any (fun j=>decide (M≤j))||(z17 M).all (fun j=>(anc all (i+1) i).contains j)
 |none=>true
def usB(all:Array Oper)(i:Nat)(us:List Nat):Bool:=match all[i]? with
 |some o=>us.all fun u=>(vm o).any fun j=>match all[j]? with|some oj=>oj.dst==some u|none=>false
 |none=>false
def akv(all:Array Oper):Nat→List (List Nat)→Bool
 |_,[]=>true
 |i,us::r=>usB all i us&&akv all (i+1) r
def aC2(all:Array Oper)(i:Nat):Bool:=match all[i]? with
 |some o=>(vm o).all fun j=>decide (j<i)
 |none=>true
def Pp(all:Array Oper)(usl:List (List Nat))(M:Nat):Bool:=
 decide (M≤all.size)&& (usl.length==M)&& (z17 all.size).all (aC2 all)&&akv all 0 usl&& (List.range' M (all.size-M)).all (S0 all M)
theorem Lw{all:Array Oper}:∀ {usl:List (List Nat)} {i j:Nat} {us:List Nat},akv all i usl=true→usl[j]?=some us→usB all (i+j) us=true
 |[],i,j,us,_,h=>by simp at h
 |x::r,i,j,us,hb,h=>by
  simp only[akv,z05]at hb;cases j with
  |zero=>simp at h;subst h;exact hb.1
  |succ j=>
   have:=Lw (j:=j) hb.2 (by simpa using h)
   rw[show i+(j+1)=i+1+j by omega];exact this
theorem Kn{o:Oper}{j:Nat}:j∈vm o↔∃e∈o.after,Region.binds .any e=true∧e.on=j:=by
 simp only[vm,List.mem_map,List.mem_filter,Array.mem_toList_iff];constructor
 ·rintro⟨e,⟨h1,h2⟩,h3⟩;exact⟨e,h1,h2,h3⟩
 ·rintro⟨e,h1,h2,h3⟩;exact⟨e,⟨h1,h2⟩,h3⟩
def aC9(all:Array Oper)(listed:Array Bool):Prop:=∀i o,all[i]?=some o→listed.getD i false=true→∀j∈vm o,listed.getD j false=true
theorem Km{all:Array Oper}{listed:Array Bool}(hs:aC9 all listed):∀(f i:Nat) (o:Oper),all[i]?=some o→(∀j∈vm o,listed.getD j false=true)→∀j∈anc all f i,listed.getD j false=true
 |0,i,o,_,_,j,h=>by simp[anc]at h
 |f+1,i,o,ho,hr,j,h=>by
  simp only[anc,ho,List.mem_flatMap,z10]at h;obtain⟨j',h1,rfl|h2⟩:=h
  ·exact hr _ h1
  ·cases ho':all[j']? with
   |none=>cases f<;>simp[anc,ho']at h2
   |some o'=>exact Km hs f j' o' ho' (hs j' o' ho' (hr _ h1)) j h2
structure RowsOK (P:Program) (all:Array Oper) (s:St) (usl:List (List Nat)) (T:List (Nat×SV)):Prop where
 len:T.length=usl.length
 row:∀i d v,T[i]?=some (d,v)→∃o us,all[i]?=some o∧o.guard=none∧o.dst=some d∧usl[i]?=some us∧A6 P o d (ru (T.take i) us s) v
def age(s:St)(T:List (Nat×SV)):Bool:=T.all fun x=>(match aj x.1 s.sl with|none=>true|some _=>false)&&decide (x.1<s.n)
def Ie:List (Nat×SV)→Bool
 |[]=>true
 |x::r=> !(r.any fun y=>y.1==x.1)&&Ie r
theorem F4:∀ {T:List (Nat×SV)},Ie T=true→Keys T
 |[],_=>⟨fun i j d u v h=>by simp at h⟩
 |x::r,h=>by
  simp only[Ie,z05,Bool.not_eq_true']at h;have ih:=F4 h.2;have hne:∀(j d:Nat) (v:SV),r[j]?=some (d,v)→d≠x.1:=by
   intro j d v hj e;have:=List.any_eq_false.1 h.1 (d,v) (z06 hj);simp[e]at this
  refine⟨fun i j d u v hi hj=> ?_⟩
  cases i with
  |zero=>
   cases j with
   |zero=>rfl
   |succ j=>
    simp at hi hj;exact absurd (by rw[hi]) (hne j d v hj)
  |succ i=>
   cases j with
   |zero=>
    simp at hi hj;exact absurd (by rw[hj]) (hne i d u hi)
   |succ j=>simp at hi hj;rw[ih.one i j d u v hi hj]
def Lh(listed:Array Bool):Nat→Nat
 |0=>0
 |n+1=>Lh listed n+if listed.getD n false=true then 0 else 1
theorem Sw{l l':Array Bool}:∀ {n:Nat},(∀j,j<n→l.getD j false=l'.getD j false)→Lh l n=Lh l' n
 |0,_=>rfl
 |n+1,h=>by simp only[Lh];rw[Sw (fun j hj=>h j (by omega)),h n (by omega)]
theorem aab{l:Array Bool}{i:Nat}(hl:l.getD i true=false):∀ {n:Nat},i<n→Lh l n=Lh (l.setIfInBounds i true) n+1
 |0,h=>by omega
 |n+1,h=>by
  have hlt:i<l.size:=by
   rcases z07 i l.size with h'|h'
   ·exact h'
   ·rw[z00,z12 h']at hl;cases hl
  simp only[Lh];by_cases hi:i=n
  ·subst hi;have e1:l.getD i false=false:=by
    rw[z00,z01 hlt]at hl⊢;exact hl
   have e2:(l.setIfInBounds i true).getD i false=true:=by
    simp[z00,hlt]
   rw[e1,e2,Sw (l':=l.setIfInBounds i true) (fun j hj=>by rw[getD_set_ne false (by omega)])]
   simp
  ·rw[aab hl (by omega:i<n),getD_set_ne false hi];omega
theorem Jd{l:Array Bool}:∀ {n:Nat},Lh l n=0→∀j,j<n→l.getD j false=true
 |0,_,j,h=>by omega
 |n+1,hc,j,h=>by
  simp only[Lh]at hc;by_cases hj:j=n
  ·subst hj;by_cases hh:l.getD j false=true
   ·exact hh
   ·rw[if_neg hh]at hc;omega
  ·exact Jd (n:=n) (by omega) j (by omega)
theorem Pn{l:Array Bool}:∀ {n:Nat},0<Lh l n→∃j,j<n∧l.getD j false=false∧∀i,i<j→l.getD i false=true
 |0,h=>by simp[Lh]at h
 |n+1,h=>by
  by_cases hc:0<Lh l n
  ·obtain⟨j,h1,h2,h3⟩:=Pn hc;exact⟨j,by omega,h2,h3⟩
  ·have h0:Lh l n=0:=by omega
   simp only[Lh,h0]at h;refine⟨n,by omega, ?_,fun i hi=>Jd h0 i hi⟩
   cases hh:l.getD n false with
   |false=>rfl
   |true=>rw[hh]at h;simp at h
def ym(M n:Nat):Array Bool:=(z14 M true++z14 (n-M) false).toArray
theorem Zg{listed:Array Bool}:∀ {T:List (Nat×SV)} {i:Nat},(∀j,j<T.length→listed.getD (i+j) false=true)→sel listed i T=T
 |[],i,_=>rfl
 |x::r,i,h=>by
  rw[Rk];have h0:=h 0 (by simp)
  rw[Nat.add_zero]at h0;rw[if_pos h0,Zg (fun j hj=>by have:=h (j+1) (by simp;omega);rw[show i+1+j=i+(j+1)by omega];exact this)]
theorem Ul(M n j:Nat):(ym M n).getD j false=decide (j<M):=by
 simp only[ym,z00,List.getElem?_toArray];by_cases h:j<M
 ·rw[z04 (by simpa using h)]
  simp[h]
 ·rw[z09 (by simp;omega)]
  simp only[h,decide_false,List.length_replicate,List.getElem?_replicate];split<;>rfl
theorem Yb{l:Array Bool}{M n:Nat}(hn:l.size=n)(hM:M≤n)(h:∀j,l.getD j false=decide (j<M)):l=ym M n:=by
 have hs:(ym M n).size=n:=by simp[ym];omega
 refine Array.ext (by rw[hn,hs]) (fun i h1 h2=> ?_)
 have a:=h i;have b:=Ul M n i;rw[z00,z01 h1]at a;rw[z00,z01 h2]at b;simp only[Option.getD_some]at a b;rw[a,b]
theorem adr{l:Array Bool}{i:Nat}(h:l.getD i true=false):l.getD i false=false∧i<l.size:=by
 rcases z07 i l.size with h'|h'
 ·rw[z00,z01 h']at h⊢;exact⟨h,h'⟩
 ·rw[z00,z12 h']at h;cases h
theorem ads{l:Array Bool}{i:Nat}(h:l.getD i false=false)(hi:i<l.size):l.getD i true=false:=by
 rw[z00,z01 hi]at h⊢;exact h
section
variable {P : Program} {R : Option Nat} {Φ : Exit → Cx → St → Prop} {k : List It} {C : Cx} {s : St} {all : Array Oper}
theorem aqq{id:Nat}{usl:List (List Nat)}{T:List (Nat×SV)}{M:Nat}(fuel:Nat)(hm:P.follows .mixedOrders=true)(hsz:fuel+M=all.size)(hc:Pp all usl M=true)(hr:RowsOK P all s usl T)(hf:age s T=true)(hn:Ie T=true)
  (h:AW P R Φ .normal (.any all fuel (ym M all.size)::k) C ⟨s.n,T++s.sl,s.hp⟩):AW P R Φ .normal (.code (.region id all true)::k) C s:=by
 have hk:=F4 hn;simp only[Pp,z05,decide_eq_true_eq,beq_iff_eq,z02]at hc;obtain⟨⟨⟨⟨hM,hul⟩,hlow⟩,hus⟩,hbl⟩:=hc;have hTM:T.length=M:=by rw[hr.len,hul]
 have hfresh:∀d v,(d,v)∈T→aj d s.sl=none∧d<s.n:=by
  intro d v hd;have:=z02.1 hf (d,v) hd;simp only[z05,decide_eq_true_eq]at this;refine⟨?_,this.2⟩;have h1:=this.1;split at h1
  ·assumption
  ·cases h1
 have key:∀m listed,listed.size=all.size→(∀j,M≤j→listed.getD j false=false)→aC9 all listed→Lh listed M=m→AW P R Φ .normal (.any all (fuel+m) listed::k) C (Cc listed T s):=by
  intro m
  induction m with
  |zero=>
   intro listed hls hge hsh hcnt;have hall:=Jd hcnt;have e1:listed=ym M all.size:=Yb hls hM (fun j=>by
    by_cases hj:j<M
    ·rw[hall j hj];simp[hj]
    ·rw[hge j (by omega)];simp[hj])
   have e2:Cc listed T s=⟨s.n,T++s.sl,s.hp⟩:=by
    unfold Cc;rw[Zg (fun j hj=>by rw[z15];exact hall j (by omega))]
   rw[e2,e1];exact h
  |succ m ih=>
   intro listed hls hge hsh hcnt;rw[←Nat.add_assoc];have hne:Region.ready .any all listed≠ []:=by
    obtain⟨j,h1,h2,h3⟩:=Pn (by omega:0<Lh listed M)
    have hjs:j<all.size:=by omega
    have:j∈Region.ready .any all listed:=mem_ready.2 ⟨ads h2 (by omega),all[j],z01 hjs,fun e he hb=>by
     have hl:=hlow j (by simpa using hjs)
     simp only[aC2,z01 hjs,z02,decide_eq_true_eq]at hl;exact h3 _ (hl _ (Kn.2 ⟨e,he,hb,rfl⟩))⟩
    intro e;rw[e]at this;cases this
   refine ce (fun i hi=> ?_) rfl hne
   obtain⟨hun,o,ho,hready⟩:=mem_ready.1 hi;obtain⟨hun',hisz⟩:=adr hun;have hafl:∀j∈vm o,listed.getD j false=true:=fun j hj=>by
    obtain⟨e,h1,h2,rfl⟩:=Kn.1 hj;exact hready e h1 h2
   have hiM:i<M:=by
    rcases z07 i M with h'|h'
    ·exact h'
    ·exfalso
     have hb:=hbl i (by rw[List.mem_range'_1];omega)
     simp only[S0,ho,Bool.or_eq_true,z13,decide_eq_true_eq,z02]at hb;rcases hb with⟨j,h1,h2⟩|hb
     ·have:=hafl j h1;rw[hge j h2]at this;cases this
     ·obtain⟨j,h1,h2,_⟩:=Pn (by omega:0<Lh listed M)
      have:=hb j (by simpa using h1)
      have:=Km hsh (i+1) i o ho hafl j (by simpa using this)
      rw[h2]at this;cases this
   obtain⟨⟨d,v⟩,hT⟩:∃x,T[i]?=some x:=⟨T[i]'(by omega),z11 (by omega)⟩
   obtain⟨o',us,ho',hg,hd,hu,hdoes⟩:=hr.row i d v hT;rw[ho]at ho';cases ho'
   have hpick:jg all [i]=[o]:=by simp[jg,ho]
   rw[hpick];obtain⟨hdf,hdn⟩:=hfresh d v (z06 hT);have husB:=Lw hus hu;rw[z15]at husB;simp only[usB,ho,z02,z13]at husB;refine hdoes R Φ _ C all [] _ ⟨fun d' v' hv'=> ?_,rfl⟩ ?_ hdn (Nu ?_)
   ·rw[H8 hk];simp only[ru,R3]at hv';split at hv'
    ·rename_i v'' hp;cases hv'
     obtain⟨h1,h2⟩:=Ex hp;obtain⟨j,hj⟩:=aiv h2;have hj':T[j]?=some (d',v'):=by
      rw[List.getElem?_take]at hj;split at hj
      ·exact hj
      ·cases hj
     obtain⟨j2,g1,g2⟩:=husB d' h1;split at g2
     ·rename_i oj hoj;simp only[beq_iff_eq]at g2;obtain⟨oj',us',q1,q2,q3,_⟩:=hr.row j d' v' hj';have hj2l:=hafl j2 g1;have hj2M:j2<M:=by
       rcases z07 j2 M with h'|h'
       ·exact h'
       ·rw[hge j2 h']at hj2l;cases hj2l
      obtain⟨⟨d2,v2⟩,hT2⟩:∃x,T[j2]?=some x:=⟨T[j2]'(by omega),z11 (by omega)⟩
      obtain⟨o2,us2,r1,r2,r3,_⟩:=hr.row j2 d2 v2 hT2;rw[hoj]at r1;cases r1
      rw[g2]at r3;cases r3
      have:=hk.one j j2 d' v' v2 hj' hT2;subst this;rw[if_pos ⟨j,v',hj',hj2l⟩];exact yp hk hj' hj2l
     ·cases g2
    ·rw[if_neg]
     ·exact hv'
     ·rintro⟨j,u,h1,_⟩;rw[(hfresh d' u (z06 h1)).1]at hv';cases hv'
   ·rw[H8 hk,if_neg]
    ·exact hdf
    ·rintro⟨j,u,h1,h2⟩;have:=hk.one i j d v u hT h1;subst this;rw[hun']at h2;cases h2
   ·have hset:(listed.setIfInBounds i true).getD i false=true:=by simp[z00,hisz]
    refine AW.same (t:=Cc (listed.setIfInBounds i true) T s) rfl rfl (fun d'=> ?_) (ih _ (by simpa using hls) (fun j hj=> ?_) (fun i' o' ho'' hl' j hj=> ?_) ?_)
    ·have hlook:aj d' (setSlot d v (Cc listed T s)).sl=if d=d' then some v else aj d' (Cc listed T s).sl:=rfl
     rw[hlook,H8 hk,H8 hk];by_cases hdd:d=d'
     ·subst hdd;rw[if_pos rfl,if_pos ⟨i,v,hT,hset⟩,yp hk hT hset]
     ·rw[if_neg hdd];by_cases hex:∃j u,T[j]?=some (d',u)∧listed.getD j false=true
      ·obtain⟨j,u,h1,h2⟩:=hex;rw[if_pos ⟨j,u,h1,h2⟩,if_pos ⟨j,u,h1,getD_set_true h2⟩,yp hk h1 h2,yp hk h1 (getD_set_true h2)]
      ·rw[if_neg hex,if_neg];rintro⟨j,u,h1,h2⟩;refine hex ⟨j,u,h1, ?_⟩;by_cases hij:i=j
       ·subst hij;rw[hT]at h1;cases h1;exact absurd rfl hdd
       ·rw[getD_set_ne false hij]at h2;exact h2
    ·rw[getD_set_ne false (by omega)];exact hge j hj
    ·by_cases hij:i=i'
     ·subst hij;rw[ho]at ho'';cases ho'';exact getD_set_true (hafl j hj)
     ·rw[getD_set_ne false hij]at hl';exact getD_set_true (hsh i' o' ho'' hl' j hj)
    ·have:=aab hun hiM;omega
 refine tl hm ?_;have hrep:∀j,(z03 all.size false).getD j false=false:=fun j=>by
  rw[z00,Array.getElem?_replicate];split<;>rfl
 have h0:Lh (z03 all.size false) M=M:=by
  have:∀n,Lh (z03 all.size false) n=n:=by
   intro n
   induction n with
   |zero=>rfl
   |succ n ih=>simp only[Lh,ih,hrep];simp
  exact this M
 have:=key M (z03 all.size false) (by simp) (fun j _=>hrep j) (fun i o _ hl=>by rw[hrep]at hl;cases hl) h0
 rw[hsz]at this;refine AW.same (t:=Cc (z03 all.size false) T s) rfl rfl (fun d=> ?_) this
 rw[H8 hk,if_neg];rintro⟨j,v,_,h2⟩;rw[hrep]at h2;cases h2
def CK(P:Program)(R:Option Nat)(Φ:Exit→Cx→St→Prop)(k:List It)(C:Cx)(id:Nat)(all:Array Oper)(s:St)(i:Nat)(usl:List (List Nat))(T:List (Nat×SV)):Prop:=
 usl.length=i→RowsOK P all s usl T→AW P R Φ .normal (.code (.region id all true)::k) C s
theorem cr{id:Nat}(h:CK P R Φ k C id all s 0 [] []):AW P R Φ .normal (.code (.region id all true)::k) C s:=
 h rfl ⟨rfl,fun i d v h=>by simp at h⟩
theorem RowsOK.add{usl:List (List Nat)}{T:List (Nat×SV)}(hr:RowsOK P all s usl T){us:List Nat}{o:Oper}{d:Nat}{v:SV}(ho:all[usl.length]?=some o)(hg:o.guard=none)(hd:o.dst=some d)(hD:A6 P o d (ru T us s) v):RowsOK P all s (usl++[us]) (T++[(d,v)]):=by
 refine⟨by simp[hr.len],fun i d' v' hi=> ?_⟩
 have hlen:=hr.len;by_cases h:i<T.length
 ·rw[z04 h]at hi;obtain⟨o',us',h1,h2,h3,h4,h5⟩:=hr.row i d' v' hi;refine⟨o',us',h1,h2,h3,by rw[z04 (by omega)];exact h4, ?_⟩
  rw[z08 (by omega)];exact h5
 ·have hlt:i<(T++[(d,v)]).length:=(List.getElem?_eq_some_iff.1 hi).1;have hi':i=T.length:=by simp at hlt;omega
  subst hi';rw[z09 (z16 _)]at hi;simp at hi;obtain⟨rfl,rfl⟩:=hi;refine⟨o,us,by rw[hlen];exact ho,hg,hd,by rw[hlen];simp, ?_⟩
  rw[z08 (z16 _),List.take_length];exact hD
def onB(d:Nat)(v:SV):Bool:=v.on (.slot d)
def afq(o:Oper)(d:Nat):Option SV→Option (Nat×SV)
 |some v=>if onB d v=true then none else some (d,v)
 |none=>none
def zn(P:Program)(s:St):Option Oper→Option (Nat×SV)
 |some o=>(match o.guard with
  |none=>(match o.dst with
   |some d=>if Bb o.op=true then afq o d (aval P s o.type o.op)else none
   |none=>none)
  |some _=>none)
 |none=>none
mutual
def qr(P:Program)(all:Array Oper)(s:St):Nat→List (List Nat)→List (Nat×SV)→Option (Nat×List (Nat×SV))
 |i,[],T=>some (i,T)
 |i,us::r,T=>uq P all s i r T (zn P (ru T us s) all[i]?)
def uq(P:Program)(all:Array Oper)(s:St):Nat→List (List Nat)→List (Nat×SV)→Option (Nat×SV)→Option (Nat×List (Nat×SV))
 |i,r,T,some x=>qr P all s (i+1) r (T++[x])
 |_,_,_,none=>none
end
theorem Qj{s:St}{x:Option Oper}{d:Nat}{v:SV}(h:zn P s x=some (d,v)):∃o,x=some o∧o.guard=none∧o.dst=some d∧A6 P o d s v:=by
 unfold zn at h;split at h
 ·rename_i o;split at h
  ·rename_i hg;split at h
   ·rename_i d' hd;split at h
    ·rename_i hc;unfold afq at h;split at h
     ·rename_i v' hv;split at h
      ·cases h
      ·rename_i hon;cases h
       exact⟨o,rfl,hg,hd,.read hg hd hc hv (by simpa[onB]using hon)⟩
     ·cases h
    ·cases h
   ·cases h
  ·cases h
 ·cases h
theorem bu{id i i':Nat}{usl:List (List Nat)}{T T':List (Nat×SV)}(usn:List (List Nat))(h:CK P R Φ k C id all s i' (usl++usn) T')(hr:qr P all s i usn T=some (i',T')):CK P R Φ k C id all s i usl T:=by
 induction usn generalizing i usl T with
 |nil=>
  simp only[qr]at hr;cases hr
  rw[List.append_nil]at h;exact h
 |cons us r ih=>
  intro hi hR;simp only[qr]at hr;cases hx:zn P (ru T us s) all[i]? with
  |none=>rw[hx]at hr;simp[uq]at hr
  |some x=>
   obtain⟨d,v⟩:=x;rw[hx]at hr;simp only[uq]at hr;obtain⟨o,h1,h2,h3,h4⟩:=Qj hx;refine ih (usl:=usl++[us]) (by rw[List.append_assoc];exact h) hr (by simp[hi]) (hR.add (by rw[hi];exact h1) h2 h3 h4)
theorem CK.call{id i f d:Nat}{usl:List (List Nat)}{T:List (Nat×SV)}{o:Oper}{ps:List PV}{p:PV}(us:List Nat)(hF:Fn P f [] (ps.map SV.pv) (fun rs H=>rs=[.pv p]∧H=[]))(h:CK P R Φ k C id all s (i+1) (usl++[us]) (T++[(d,.pv p)]))
  (ho:all[i]?=some o:=by rfl) (hg:o.guard=none:=by rfl) (hd:o.dst=some d:=by rfl) (hc:callOp (ru T us s) o.op=some (f,ps.map SV.pv):=by simp only[go_sem,↓reduceIte]<;>rfl):CK P R Φ k C id all s i usl T:=fun hi hR=>
 h (by simp[hi]) (hR.add (by rw[hi];exact ho) hg hd (.call hg hd hc hF))
theorem CK.done{id M:Nat}{usl:List (List Nat)}{T:List (Nat×SV)}(f:Nat)(hm:P.follows .mixedOrders=true)(h:AW P R Φ .normal (.any all f (ym M all.size)::k) C ⟨s.n,T++s.sl,s.hp⟩)(hsz:f+M=all.size:=by rfl)(hc:Pp all usl M=true:=by decide+kernel)(hf:age s T=true:=by rfl)(hn:Ie T=true:=by rfl):CK P R Φ k C id all s M usl T:=fun hi hR=>
 aqq f hm hsz hc hR hf hn h
end
theorem Ur(P:Program)(all:Array Oper)(s:St)(i:Nat)(T:List (Nat×SV)):qr P all s i [] T=some (i,T):=by rw[qr]
theorem Qi(P:Program)(all:Array Oper)(s:St)(i:Nat)(us:List Nat)(r:List (List Nat))(T:List (Nat×SV)):qr P all s i (us::r) T=uq P all s i r T (zn P (ru T us s) all[i]?):=by rw[qr]
theorem K9(P:Program)(all:Array Oper)(s:St)(i:Nat)(r:List (List Nat))(T:List (Nat×SV))(x:Nat×SV):uq P all s i r T (some x)=qr P all s (i+1) r (T++[x]):=by rw[uq]
theorem acl(T:List (Nat×SV)):Ar T []=[]:=rfl
def af7(T:List (Nat×SV))(u:Nat)(r:List Nat):Option SV→List (Nat×SV)
 |some v=>(u,v)::Ar T r
 |none=>Ar T r
theorem Ws(T:List (Nat×SV))(u:Nat)(r:List Nat):Ar T (u::r)=af7 T u r (aj u T):=by
 simp only[Ar];cases aj u T<;>rfl
attribute [go_sem] Ur Qi K9 acl Ws af7 zn afq Bb ru onB List.cons_append List.nil_append
end Go.Ck
namespace Go.Ck
theorem aie(P:Program)(fl:Bool)(e:Exit)(k:List It)(s:St):ji P fl 0 e k s=⟨e,k,s⟩:=by unfold ji;rfl
attribute [go_sem] aie
section
variable {P : Program} {R : Option Nat} {Φ : Exit → Cx → St → Prop} {k : List It} {C : Cx} {s : St}
theorem vn(m:Nat){e e':Exit}{k k':List It}{s s':St}(h:AW P R Φ e' k' C s')(hn:ji P false (3*m) e k s=⟨e',k',s'⟩:=by simp only[go_sem,↓reduceIte,Nat.reduceMul]<;>rfl):AW P R Φ e k C s:=by
 refine cf (fl:=false) (3*m) ?_;rw[hn];exact h
end
end Go.Ck
