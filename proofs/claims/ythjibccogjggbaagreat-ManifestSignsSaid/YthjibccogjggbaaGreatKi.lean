/- What is proved here: parts of the proofs of this seat's statements (a verified evaluator for calls over pure values, its laws, and contracts of functions). No condition. -/
import Derived.Test.YthjibccogjggbaaGreatKh
import Derived.Laws.Cover3
set_option linter.all false
set_option linter.unusedVariables false
namespace Go.Ck
open Go.RowKit
section
variable {P : Program} {O0 : Base} {F : Nat → Prop} {w0 w : World} {s : St} {E : Env} {a : Act}
/-- More slots. -/
theorem Rel.extend {k : Nat} {sl : List (Nat × SV)} {hp : List (Nat × HO)} {t u : Array Value} (h : Rel P O0 w0 F ⟨k, sl, hp⟩ E t w) {n : Nat} (hn : n = (t ++ u).size) : Rel P O0 w0 F ⟨n, sl, hp⟩ E (t ++ u) w where
  place p v hp' := by
    obtain ⟨x, hx, hv⟩ := h.place p v (by cases p <;> exact hp')
    refine ⟨x, ?_, hv⟩
    cases p with
    | slot d =>
      simp only [CV] at hx ⊢
      rw [Array.getElem?_append_left (Array.getElem?_eq_some_iff.1 hx).1]; exact hx
    | part d i =>
      simp only [CV] at hx ⊢
      obtain ⟨vs, h1, h2⟩ := hx
      exact ⟨vs, by rw [Array.getElem?_append_left (Array.getElem?_eq_some_iff.1 h1).1]; exact h1, h2⟩
    | cell o i => exact hx
  obj := h.obj
  size := hn
  i1 := h.i1
  i2 p q e xs e' ys b hp hq := h.i2 p q e xs e' ys b (by cases p <;> exact hp) (by cases q <;> exact hq)
  i3 p e xs o y b hp := h.i3 p e xs o y b (by cases p <;> exact hp)
  om_lt := h.om_lt
  om0 := h.om0
  na p v q hp hq := by
    obtain ⟨h1, ⟨e, xs, h2⟩, h3⟩ := h.na p v q (by cases p <;> exact hp) hq
    exact ⟨h1, ⟨e, xs, by cases q <;> exact h2⟩, h3⟩
  np p v o hp ho := h.np p v o (by cases p <;> exact hp) ho
  gr := h.gr
  flt := h.flt
  ob := h.ob

/-- What a body's result variables hold. -/
inductive Rets (P : Program) (s : St) : List ResultVar → List SV → Prop where
  | nil : Rets P s [] []
  | tmp {t : Tmp} {v : SV} {r : List ResultVar} {vs : List SV} (hv : ev s (.tmp t) = some v) (h : Rets P s r vs) : Rets P s (.tmp t :: r) (v :: vs)
  | cell {b : Tmp} {t : TypeId} {o off : Nat} {v : SV} {r : List ResultVar} {vs : List SV} (ha : ev s (.tmp b) = some (.ptr o off)) (hv : aload (tsh P t) s (.ptr o off) = some v) (h : Rets P s r vs) : Rets P s (.cell b t :: r) (v :: vs)

def resOf (tmps : Array Value) : ResultVar → Sem Value
  | .tmp t => pure (tmps.getD t undef)
  | .cell b t => do loadVar t (← asAddr (tmps.getD b undef))

theorem mapM_cons_run {tmps : Array Value} {r : ResultVar} {l : List ResultVar} {x : Value} {us : List Value} (h : (resOf tmps r).run P w = .ok x w) (h1 : (l.mapM (resOf tmps)).run P w = .ok us w) : ((r :: l).mapM (resOf tmps)).run P w = .ok (x :: us) w := by
  simp [List.mapM_cons, h, h1]

theorem Rets.sound (h : Rel P O0 w0 F s E a.tmps w) {l : List ResultVar} {svs : List SV} (hr : Rets P s l svs) :
    ∃ us : List Value, (l.mapM (resOf a.tmps)).run P w = .ok us w ∧ us.length = svs.length ∧ ∀ (i : Nat) (v : SV) (x : Value), svs[i]? = some v → us[i]? = some x → RS P (fun b => E.om b ∨ F b) E w v x := by
  induction hr with
  | nil => exact ⟨[], by simp, rfl, by simp⟩
  | tmp hv _ ih =>
    obtain ⟨us, h1, h2, h3⟩ := ih
    have h0 := h.ev_tmp hv
    refine ⟨_ :: us, mapM_cons_run (Sem.run_pure ..) h1, by simp [h2], fun i v x hi hx => ?_⟩
    cases i with
    | zero => rw [List.getElem?_cons_zero] at hi hx; cases hi; cases hx; exact h0
    | succ i => exact h3 i v x (by simpa using hi) (by simpa using hx)
  | cell ha hv _ ih =>
    obtain ⟨us, h1, h2, h3⟩ := ih
    have h0 := h.ev_tmp ha
    obtain ⟨y, k1, k2⟩ := aload_sound h hv h0
    refine ⟨y :: us, ?_, by simp [h2], fun i v x hi hx => ?_⟩
    · refine mapM_cons_run ?_ h1
      simp only [resOf]
      generalize a.tmps.getD _ undef = p at h0 k1 ⊢
      cases h0
      simp [Instr.loadAt, Instr.sureAddr] at k1
      simp [asAddr, k1]
    · cases i with
      | zero => simp at hi hx; subst hi; subst hx; exact k2
      | succ i => exact h3 i v x (by simpa using hi) (by simpa using hx)

theorem run_results {fn : Func} {tmps : Array Value} {us : List Value} (h : (fn.results.toList.mapM (resOf tmps)).run P w = .ok us w) : (results fn tmps).run P w = .ok (pack us) w := by
  have e : results fn tmps = (do
      let vs ← fn.results.mapM (resOf tmps)
      pure (if h : vs.size = 1 then vs[0] else .tuple vs)) := rfl
  rw [e, Array.mapM_eq_mapM_toList]
  simp only [Sem.run_bind, Sem.run_map, h, Sem.run_pure]
  match us with
  | [] => simp [pack]
  | [u] => simp [pack]
  | u :: v :: r => simp [pack]

end
end Go.Ck

set_option linter.unusedVariables false
namespace Go.Ck
open Go.RowKit
section
variable {P : Program} {O0 : Base} {F : Nat → Prop} {w0 w : World} {s : St} {E : Env} {a : Act}
/-- How a body may end. -/
def Ends (P : Program) (res : List ResultVar) (H : List (Nat × HO)) (Ψ : List SV → List (Nat × HO) → Prop) (C : Cx) (e : Exit) (C' : Cx) (s' : St) : Prop :=
  C' = C ∧ (e = .normal ∨ e = .ret) ∧ ∃ svs rs H' L m, Rets P s' res svs ∧ Pass P s' id svs rs L m ∧ CallOK s' id H' rs L m ∧ (∀ o y, look o H = some y → ∃ z, look o H' = some z) ∧ Ψ rs H'

/-- A contract out of a body. -/
theorem Fn.of_body {f : FuncId} {fn : Func} {c : Code} {H : List (Nat × HO)} {args : List SV} {Ψ : List SV → List (Nat × HO) → Prop} {n : Nat} {res : List ResultVar} (hf : P.funcs[f]? = some fn) (hb : fn.body = some c) (hn : n = args.length + (fn.ntmps - args.length)) (hres : fn.results.toList = res) (hname : (fn.name == "runtime.NumGoroutine") = false) (hH : H.all (fun y => decide (1000 ≤ y.1)) = true)
    (h : ∀ C, AW P none (Ends P res H Ψ C) .normal [.code c] C ⟨n, zslots args 0, H⟩) : Fn P f H args Ψ := ⟨⟨fn, hf, hname, by simp [hb]⟩, fun F w E vals hl hG hR => by
  subst hres
  refine calls_of_wp hf hb ?_
  have h0 := hR.extend (u := Array.replicate (fn.ntmps - vals.toArray.size) undef) (n := n) (by simp [hn, hl])
  let B0 : Bs := ⟨⟨E.om, obOf E H⟩, w, F⟩
  have hw := h (fun B d => B = B0 ∧ d = []) B0 { tmps := vals.toArray ++ Array.replicate (fn.ntmps - vals.toArray.size) undef, defers := [] } w ⟨⟨⟨rfl, rfl⟩, (fun o ho => by
    show obOf E H o = none
    unfold obOf
    split
    · rename_i y hy
      have := List.all_eq_true.1 hH _ (look_mem hy)
      simp at this
      simp only [lim] at ho
      omega
    · rfl), hG⟩, E, h0⟩
  simp only [den] at hw
  refine wp_mono ((wpIn_wide (n := 0)).1 hw) (fun e a w' hq => ?_)
  obtain ⟨C', s', B, ⟨rfl, he, svs, rs, H', L, m, h1, h2, h3, h4, h5⟩, ⟨⟨rfl, hd⟩, _⟩, E', hE⟩ := hq
  obtain ⟨us, k1, k2, k3⟩ := h1.sound hE
  obtain ⟨Lt, p1, p2, p3, p4, p5⟩ := prep hE k2 k3 h2 h3
  have hent := entry p4 (ρ := id) (H := H') (Lt := Lt) (args := rs) (vals := us) p5 h3.inj h3.hp p2 p3
  have hom : ∀ b, OmC E' id H' rs us b → E'.om b := fun b hb => OmC_om p4 p3 p5 hb
  have hfin := hent.rebase (O0 := ⟨E.om, obOf E H⟩) (w0 := w) (F := F) (fun b hb => ⟨.inr hb, fun hc => (hE.om_lt b (hom b hc)).2 hb, fun hc => (hE.om_lt b (p1 b hc)).2 hb⟩) (fun b hb => hE.om0 b (hom b hb)) hE.gr hE.flt (fun o b hb => by
    obtain ⟨q1, _⟩ := hE.ob o b hb
    refine ⟨q1, ?_⟩
    simp only [obOf] at hb
    split at hb
    · rename_i y hy; exact h4 o y hy
    · cases hb)
  have hfin' : a.defers = [] ∧ ∃ v, (results fn a.tmps).run P w' = .ok v w' ∧ ∃ rs H' E' us, Ψ rs H' ∧ us.length = rs.length ∧ v = pack us ∧ Rel P ⟨E.om, obOf E H⟩ w F ⟨us.length, zslots rs 0, H'⟩ E' us.toArray w' :=
    ⟨hd, pack us, run_results k1, rs, H', _, us, h5, p3.len, rfl, hfin⟩
  rcases he with rfl | rfl
  · exact hfin'
  · exact hfin'⟩
end
end Go.Ck

set_option linter.unusedVariables false
namespace Go.Ck
def pickS : List Nat → List (Nat × SV) → List (Nat × SV)
  | [], _ => []
  | d :: r, sl => match look d sl with
    | some v => (d, v) :: pickS r sl
    | none => pickS r sl
theorem look_pickS (d : Nat) (sl : List (Nat × SV)) : ∀ ds : List Nat, look d (pickS ds sl) = if d ∈ ds then look d sl else none
  | [] => by simp [pickS, look]
  | k :: r => by
    simp only [pickS]
    split
    · rename_i v hv
      simp only [look]
      by_cases h : k = d
      · subst h; simp [hv]
      · rw [if_neg h, look_pickS d sl r]; simp [Ne.symm h]
    · rename_i hv
      rw [look_pickS d sl r]
      by_cases h : d = k
      · subst h; simp [hv]
      · simp [h]

section
variable {P : Program} {O0 : Base} {F : Nat → Prop} {w0 w : World} {s : St} {E : Env} {a : Act} {tmps : Array Value}
end
end Go.Ck

set_option linter.unusedVariables false
namespace Go.Ck
theorem CallOK.none {s : St} {ρ : Nat → Nat} {args : List SV} {L : List Place} {m : Option Place} (h : args.all (fun c => match c with | .ptr _ _ | .mp _ | .os _ _ _ | .fn _ (_ :: _) => false | _ => true) = true) (hm : ∀ p ∈ L, m ≠ some p) : CallOK s ρ [] args L m where
  hH o y h := by simp [look] at h
  inj o o' y y' h := by simp [look] at h
  hp o y c o' h := by simp [look] at h
  pts c hc o ho := by
    have h1 := List.all_eq_true.1 h c hc
    cases c with
    | ptr _ _ => cases h1
    | mp _ => cases h1
    | os _ _ _ => cases h1
    | fn f caps => cases caps with | nil => simp [SV.pts] at ho | cons a r => cases h1
    | _ => simp [SV.pts] at ho
  lent p hp := ⟨hm p hp, fun o y i h => by simp [look] at h⟩
  moved p hp o y i h := by simp [look] at h
end Go.Ck

set_option linter.unusedVariables false
namespace Go.Ck
section
variable {P : Program} {R : Option Nat} {Φ : Exit → Cx → St → Prop} {k : List It} {C : Cx} {s : St}
end
end Go.Ck

set_option linter.unusedVariables false
namespace Go.Ck
section
variable {P : Program} {R : Option Nat} {Φ : Exit → Cx → St → Prop} {k : List It} {C : Cx} {s : St}
/-- An own list is nobody's from here on. -/
theorem AW.freeze {e : Exit} {p : Place} {q : PV} {s' : St} (hf : freeze P s (.al p) = some (q, s')) (h : AW P R Φ e k C s') : AW P R Φ e k C s :=
  AW.weak (fun B a w ha => by
    obtain ⟨hd, E, hE⟩ := ha
    obtain ⟨E', _, hE', _⟩ := freeze_sound hE hf (.al p)
    exact ⟨B, hd, E', hE'⟩) h
/-- Is nil-ness told by the list? Only one way: what is nil is empty. -/
def slLike : SV → Bool
  | .pv (.sl z _) => z != 0
  | .nils | .al _ => true
  | .vw _ _ _ _ => true
  | _ => false

theorem nil_empty {O0 : Base} {F : Nat → Prop} {w0 w : World} {E : Env} {tmps : Array Value} (h : Rel P O0 w0 F s E tmps w) {v : SV} {xs : List PV} {x : Value} (hs : slLike v = true) (hc : cont s v = some xs) (hr : RS P (fun b => E.om b ∨ F b) E w v x) :
    ∃ a len cap, x = .slice a len cap ∧ (a = none → xs = []) := by
  cases v <;> simp [slLike] at hs
  case pv p =>
    cases p <;> simp at hs
    rename_i z ys
    simp only [cont] at hc
    cases hc
    cases hr with | pv _ _ hr => ?_
    obtain ⟨vs, a, cap, rfl, h1, h2, h3, _⟩ := hr.slParts
    refine ⟨a, _, cap, rfl, fun ha => ?_⟩
    cases xs with
    | nil => rfl
    | cons y r =>
      have hl : vs.length = (y :: r).length * z := by rw [h1.1, flat_length h3]
      have : 0 < vs.length := by rw [hl, List.length_cons]; exact Nat.mul_pos (by omega) (by omega)
      obtain ⟨ad, e, _⟩ := h2 0 vs[0] (List.getElem?_eq_getElem this)
      rw [ha] at e; cases e
  case nils =>
    simp only [cont] at hc
    cases hc
    cases hr
    exact ⟨none, 0, 0, rfl, fun _ => rfl⟩
  case al p =>
    simp only [cont] at hc
    split at hc
    · rename_i e ys hp
      cases hc
      rw [hr.al_inv]
      obtain ⟨cs, h1, _⟩ := h.own hp
      rcases h1.2 with ⟨e1, h0⟩ | ⟨g, cap, cur, e1, _⟩
      · exact ⟨none, 0, 0, e1, fun _ => List.eq_nil_of_length_eq_zero h0⟩
      · exact ⟨_, _, cap, e1, fun h2 => by cases h2⟩
    · cases hc
  case vw p e off n =>
    simp only [cont] at hc
    split at hc
    · split at hc <;> cases hc
      cases hr with | vw _ _ _ _ _ hv => ?_
      obtain ⟨_, a, cap, rfl, _, hb⟩ := hv
      refine ⟨a, n, cap, rfl, fun ha => ?_⟩
      rcases Nat.eq_zero_or_pos n with h0 | h0
      · subst h0; simp
      · obtain ⟨b, _, h2⟩ := hb h0
        rw [ha] at h2; cases h2
    · cases hc

/-- x == nil, x != nil on a slice. -/
theorem AW.eqNil {all : Array Oper} {o : Oper} {r : List Oper} {x y : Operand} {t ty e ez eb d : Nat} {ea : Bool} {vx : SV} {xs : List PV} {op : BinOp} (hop : op = .eql ∨ op = .neq) (hg : o.guard = none) (ho : o.op = .binOp op t x y ty) (hd : o.dst = some d) (hT : tk P t = .sl e ez eb ea)
    (hx : ev s x = some vx) (hs : slLike vx = true) (hc : cont s vx = some xs) (hy : ev s y = some .nils)
    (h : ∀ b : Bool, (b = true → xs = []) → AW P R Φ .normal (.ops all r :: k) C (put d (.pv (.bool (if op = .eql then b else !b))) s)) : AW P R Φ .normal (.ops all (o :: r) :: k) C s := fun B a w ha => by
  simp only [den]
  refine wpListIn_want (by simp [Region.wanted, hg]) (fun c' hc' => by rw [ho] at hc'; cases hc') ?_
  obtain ⟨hdf, E, hE⟩ := ha
  obtain ⟨ad, len, cap, e1, e2⟩ := nil_empty hE hs hc (ev_rs hE hx)
  have e3 : a.eval y = .slice none 0 0 := by
    have := ev_rs hE hy
    generalize a.eval y = z at this
    cases this; rfl
  obtain ⟨hu, _, _⟩ := tk_sl hT
  have hrun : (execOp a.eval o).run P w = .ok (.value (.bool (if op = .eql then ad.isNone else !ad.isNone))) w := by
    have hg : ∀ op, (eqGuard op t x y (.slice ad len cap) (.slice none 0 0)).run P w = .ok () w := by
      intro op
      unfold eqGuard
      cases op <;> rfl
    have he := run_equal_slice_nil (P := P) (w := w) t e ad len cap hu
    rcases hop with rfl | rfl
    · have hb : (binOp .eql t (.slice ad len cap) (.slice none 0 0)).run P w = .ok (.bool ad.isNone) w := by
        show (do pure (.bool (← Op.equal t _ _)) : Sem Value).run P w = _
        simp [he]
      simp only [execOp, ho, e1, e3, Sem.run_bind, hg, hb, Result.andThen_ok, Sem.run_pure, if_true]
    · have hb : (binOp .neq t (.slice ad len cap) (.slice none 0 0)).run P w = .ok (.bool (!ad.isNone)) w := by
        show (do pure (.bool (!(← Op.equal t _ _))) : Sem Value).run P w = _
        simp [he]
      simp only [execOp, ho, e1, e3, Sem.run_bind, hg, hb, Result.andThen_ok, Sem.run_pure]
      simp
  rw [hrun, Oper.uponIn_value, hd]
  refine h ad.isNone (fun hb => e2 (by simpa using hb)) B _ w ⟨by rw [put_defers]; exact hdf, E, ?_⟩
  exact hE.putGood d (.pv _ _) (.pv _ _ (.bool _))
end
end Go.Ck

set_option linter.unusedVariables false
namespace Go.Ck
structure Cfg where
  e : Exit
  k : List It
  s : St

mutual
/-- Steps of a body, as far as they need no choice: a test, a guard, a call, a loop, a region that draws end it. -/
def nrm (P : Program) (fl : Bool) : Nat → Exit → List It → St → Cfg
  | 0, e, k, s => ⟨e, k, s⟩
  | n + 1, .normal, .code .skip :: k, s => nrm P fl n .normal k s
  | n + 1, .normal, .code (.seq x y) :: k, s => nrm P fl n .normal (.code x :: .code y :: k) s
  | n + 1, .normal, .code (.block id c) :: k, s => nrm P fl n .normal (.code c :: .inB id :: k) s
  | n + 1, .normal, .code (.exit id) :: k, s => nrm P fl n (.exit id) k s
  | n + 1, .normal, .code .ret :: k, s => nrm P fl n .ret k s
  | n + 1, .normal, .code (.label _) :: k, s => nrm P fl n .normal k s
  | n + 1, .normal, .code (.goto l) :: k, s => nrm P fl n (.goto l) k s
  | n + 1, .normal, .code (.region _ ops false) :: k, s => nrm P fl n .normal (.ops ops ops.toList :: k) s
  | n + 1, .normal, .inB _ :: k, s => nrm P fl n .normal k s
  | n + 1, .normal, .inS _ _ :: k, s => nrm P fl n .normal k s
  | n + 1, .normal, .ops _ [] :: k, s => nrm P fl n .normal k s
  | n + 1, .normal, .ops all (o :: r) :: k, s => nrmG P fl n all o r k s o.guard
  | n + 1, .exit id, .inB id' :: k, s => if id = id' then nrm P fl n .normal k s else nrm P fl n (.exit id) k s
  | n + 1, .exit id, .code _ :: k, s => nrm P fl n (.exit id) k s
  | n + 1, .exit id, .stop _ :: k, s => nrm P fl n (.exit id) k s
  | n + 1, .exit id, .inS _ _ :: k, s => nrm P fl n (.exit id) k s
  | n + 1, .goto l, .code _ :: k, s => nrm P fl n (.goto l) k s
  | n + 1, .goto l, .inB _ :: k, s => nrm P fl n (.goto l) k s
  | n + 1, .goto l, .stop _ :: k, s => nrm P fl n (.goto l) k s
  | n + 1, .ret, _ :: k, s => nrm P fl n .ret k s
  | _ + 1, e, k, s => ⟨e, k, s⟩
def nrmG (P : Program) (fl : Bool) : Nat → Array Oper → Oper → List Oper → List It → St → Option (Nat × Bool) → Cfg
  | 0, all, o, r, k, s, _ => ⟨.normal, .ops all (o :: r) :: k, s⟩
  | n + 1, all, o, r, k, s, none => nrmK P fl n all o r k s (astep P o s)
  | n + 1, all, o, r, k, s, some (j, want) => if fl = true then nrmB P fl n all o r k s (aguard all s j want) want else ⟨.normal, .ops all (o :: r) :: k, s⟩
def nrmB (P : Program) (fl : Bool) : Nat → Array Oper → Oper → List Oper → List It → St → Option Bool → Bool → Cfg
  | n + 1, all, o, r, k, s, some true, true => nrmK P fl n all o r k s (astep P o s)
  | n + 1, all, o, r, k, s, some false, false => nrmK P fl n all o r k s (astep P o s)
  | n + 1, all, o, r, k, s, some true, false => nrmD P fl n all o r k s o.dst
  | n + 1, all, o, r, k, s, some false, true => nrmD P fl n all o r k s o.dst
  | _, all, o, r, k, s, _, _ => ⟨.normal, .ops all (o :: r) :: k, s⟩
def nrmD (P : Program) (fl : Bool) : Nat → Array Oper → Oper → List Oper → List It → St → Option Nat → Cfg
  | n + 1, all, o, r, k, s, some d => nrm P fl n .normal (.ops all r :: k) (put d (.tup []) s)
  | _, all, o, r, k, s, _ => ⟨.normal, .ops all (o :: r) :: k, s⟩
def nrmK (P : Program) (fl : Bool) : Nat → Array Oper → Oper → List Oper → List It → St → Option St → Cfg
  | 0, all, o, r, k, s, _ => ⟨.normal, .ops all (o :: r) :: k, s⟩
  | n + 1, all, o, r, k, s, some s' => nrm P fl n .normal (.ops all r :: k) s'
  | _ + 1, all, o, r, k, s, none => ⟨.normal, .ops all (o :: r) :: k, s⟩
end
section
variable {P : Program} {fl : Bool} {R : Option Nat} {Φ : Exit → Cx → St → Prop} {C : Cx}
theorem AW.passR {i : It} {k : List It} {s : St} (h : AW P R Φ .ret k C s) : AW P R Φ .ret (i :: k) C s := fun B a w ha => by
  cases i <;> exact h B a w ha

mutual
theorem nrm_sound : ∀ (n : Nat) {e : Exit} {k : List It} {s : St}, AW P R Φ (nrm P fl n e k s).e (nrm P fl n e k s).k C (nrm P fl n e k s).s → AW P R Φ e k C s
  | 0, e, k, s, h => h
  | n + 1, e, k, s, h => by
    unfold nrm at h
    split at h
    · exact h
    · exact AW.skip (nrm_sound _ h)
    · exact AW.seq (nrm_sound _ h)
    · exact AW.block (nrm_sound _ h)
    · exact AW.exit (nrm_sound _ h)
    · exact AW.ret (nrm_sound _ h)
    · exact AW.label (nrm_sound _ h)
    · exact AW.goto (nrm_sound _ h)
    · exact AW.region (nrm_sound _ h)
    · exact AW.inB (nrm_sound _ h)
    · exact AW.inS (nrm_sound _ h)
    · exact AW.opsNil (nrm_sound _ h)
    · exact nrmG_sound _ h
    · split at h
      · rename_i he
        subst he
        exact AW.outX (nrm_sound _ h)
      · rename_i he
        exact AW.passX he (nrm_sound _ h)
    · exact AW.passC (by simp) (nrm_sound _ h)
    · exact AW.passS (by simp) (nrm_sound _ h)
    · exact AW.xI (nrm_sound _ h)
    · exact AW.passC (by simp) (nrm_sound _ h)
    · exact AW.passB (by simp) (nrm_sound _ h)
    · exact AW.passS (by simp) (nrm_sound _ h)
    · exact AW.passR (nrm_sound _ h)
    · exact h
theorem nrmG_sound : ∀ (n : Nat) {all : Array Oper} {o : Oper} {r : List Oper} {k : List It} {s : St}, AW P R Φ (nrmG P fl n all o r k s o.guard).e (nrmG P fl n all o r k s o.guard).k C (nrmG P fl n all o r k s o.guard).s → AW P R Φ .normal (.ops all (o :: r) :: k) C s
  | 0, all, o, r, k, s, h => h
  | n + 1, all, o, r, k, s, h => by
    cases hg : o.guard with
    | none =>
      rw [hg] at h
      simp only [nrmG] at h
      exact nrmK_sound n (fun j want hj => by rw [hg] at hj; cases hj) h
    | some g =>
      obtain ⟨j, want⟩ := g
      rw [hg] at h
      simp only [nrmG] at h
      by_cases hf : fl = true
      · rw [if_pos hf] at h
        exact nrmB_sound n hg h
      · rw [if_neg hf] at h
        exact h
theorem nrmB_sound : ∀ (n : Nat) {all : Array Oper} {o : Oper} {r : List Oper} {k : List It} {s : St} {j : Nat} {want : Bool}, o.guard = some (j, want) → AW P R Φ (nrmB P fl n all o r k s (aguard all s j want) want).e (nrmB P fl n all o r k s (aguard all s j want) want).k C (nrmB P fl n all o r k s (aguard all s j want) want).s → AW P R Φ .normal (.ops all (o :: r) :: k) C s
  | 0, all, o, r, k, s, j, want, hg, h => by
    simp only [nrmB] at h
    exact h
  | n + 1, all, o, r, k, s, j, want, hg, h => by
    cases hb : aguard all s j want with
    | none =>
      rw [hb] at h
      simp only [nrmB] at h
      exact h
    | some b =>
      rw [hb] at h
      cases b <;> cases want <;> simp only [nrmB] at h
      · exact nrmK_sound n (fun j' want' hj => by rw [hg] at hj; cases hj; exact hb) h
      · exact nrmD_sound n hg hb h
      · exact nrmD_sound n hg hb h
      · exact nrmK_sound n (fun j' want' hj => by rw [hg] at hj; cases hj; exact hb) h
theorem nrmD_sound : ∀ (n : Nat) {all : Array Oper} {o : Oper} {r : List Oper} {k : List It} {s : St} {j : Nat} {want : Bool}, o.guard = some (j, want) → aguard all s j want = some (!want) → AW P R Φ (nrmD P fl n all o r k s o.dst).e (nrmD P fl n all o r k s o.dst).k C (nrmD P fl n all o r k s o.dst).s → AW P R Φ .normal (.ops all (o :: r) :: k) C s
  | 0, all, o, r, k, s, j, want, hg, hb, h => by
    simp only [nrmD] at h
    exact h
  | n + 1, all, o, r, k, s, j, want, hg, hb, h => by
    cases hd : o.dst with
    | none =>
      rw [hd] at h
      simp only [nrmD] at h
      exact h
    | some d =>
      rw [hd] at h
      simp only [nrmD] at h
      exact AW.guardF hg hd hb (nrm_sound n h)
theorem nrmK_sound : ∀ (n : Nat) {all : Array Oper} {o : Oper} {r : List Oper} {k : List It} {s : St}, (∀ j want, o.guard = some (j, want) → aguard all s j want = some want) → AW P R Φ (nrmK P fl n all o r k s (astep P o s)).e (nrmK P fl n all o r k s (astep P o s)).k C (nrmK P fl n all o r k s (astep P o s)).s → AW P R Φ .normal (.ops all (o :: r) :: k) C s
  | 0, all, o, r, k, s, hg, h => h
  | n + 1, all, o, r, k, s, hg, h => by
    cases hs : astep P o s with
    | none =>
      rw [hs] at h
      simp only [nrmK] at h
      exact h
    | some s' =>
      rw [hs] at h
      simp only [nrmK] at h
      cases hgd : o.guard with
      | none => exact AW.step hgd hs (nrm_sound n h)
      | some g =>
        obtain ⟨j, want⟩ := g
        exact AW.guardT hgd (hg j want hgd) (AW.step rfl hs (nrm_sound n h))
end
theorem nrm_skip (n : Nat) (k : List It) (s : St) : nrm P fl (n + 1) .normal (.code .skip :: k) s = nrm P fl n .normal k s := rfl
theorem nrm_seq (n : Nat) (x y : Code) (k : List It) (s : St) : nrm P fl (n + 1) .normal (.code (.seq x y) :: k) s = nrm P fl n .normal (.code x :: .code y :: k) s := rfl
theorem nrm_block (n id : Nat) (c : Code) (k : List It) (s : St) : nrm P fl (n + 1) .normal (.code (.block id c) :: k) s = nrm P fl n .normal (.code c :: .inB id :: k) s := rfl
theorem nrm_exit (n id : Nat) (k : List It) (s : St) : nrm P fl (n + 1) .normal (.code (.exit id) :: k) s = nrm P fl n (.exit id) k s := rfl
theorem nrm_ret (n : Nat) (k : List It) (s : St) : nrm P fl (n + 1) .normal (.code .ret :: k) s = nrm P fl n .ret k s := rfl
theorem nrm_region (n id : Nat) (ops : List Oper) (k : List It) (s : St) : nrm P fl (n + 1) .normal (.code (.region id ops.toArray false) :: k) s = nrm P fl n .normal (.ops ops.toArray ops :: k) s := rfl
theorem nrm_inB (n id : Nat) (k : List It) (s : St) : nrm P fl (n + 1) .normal (.inB id :: k) s = nrm P fl n .normal k s := rfl
theorem nrm_nil (n : Nat) (all : Array Oper) (k : List It) (s : St) : nrm P fl (n + 1) .normal (.ops all [] :: k) s = nrm P fl n .normal k s := rfl
theorem nrm_ops (n : Nat) (all : Array Oper) (o : Oper) (r : List Oper) (k : List It) (s : St) : nrm P fl (n + 1) .normal (.ops all (o :: r) :: k) s = nrmG P fl n all o r k s o.guard := rfl
theorem nrm_xB (n id id' : Nat) (k : List It) (s : St) : nrm P fl (n + 1) (.exit id) (.inB id' :: k) s = if id = id' then nrm P fl n .normal k s else nrm P fl n (.exit id) k s := rfl
theorem nrm_xC (n id : Nat) (c : Code) (k : List It) (s : St) : nrm P fl (n + 1) (.exit id) (.code c :: k) s = nrm P fl n (.exit id) k s := rfl
theorem nrm_xS (n id : Nat) (K : Cx → St → Prop) (k : List It) (s : St) : nrm P fl (n + 1) (.exit id) (.stop K :: k) s = nrm P fl n (.exit id) k s := rfl
theorem nrm_r (n : Nat) (i : It) (k : List It) (s : St) : nrm P fl (n + 1) .ret (i :: k) s = nrm P fl n .ret k s := by cases i <;> rfl
theorem nrm_end (n : Nat) (e : Exit) (s : St) : nrm P fl (n + 1) e [] s = ⟨e, [], s⟩ := by cases e <;> rfl
theorem nrm_cond (n : Nat) (c : Operand) (x y : Code) (k : List It) (s : St) : nrm P fl (n + 1) .normal (.code (.cond c x y) :: k) s = ⟨.normal, .code (.cond c x y) :: k, s⟩ := rfl
theorem nrm_loop (n : Nat) (c : Code) (k : List It) (s : St) : nrm P fl (n + 1) .normal (.code (.loop c) :: k) s = ⟨.normal, .code (.loop c) :: k, s⟩ := rfl
theorem nrm_rangeFunc (n : Nat) (g : Operand) (ps : Array Tmp) (x y : Code) (k : List It) (s : St) : nrm P fl (n + 1) .normal (.code (.rangeFunc g ps x y) :: k) s = ⟨.normal, .code (.rangeFunc g ps x y) :: k, s⟩ := rfl
theorem nrm_goto (n l : Nat) (k : List It) (s : St) : nrm P fl (n + 1) .normal (.code (.goto l) :: k) s = nrm P fl n (.goto l) k s := rfl
theorem nrm_label (n l : Nat) (k : List It) (s : St) : nrm P fl (n + 1) .normal (.code (.label l) :: k) s = nrm P fl n .normal k s := rfl
theorem nrm_inS (n l : Nat) (K : Cx → St → Prop) (k : List It) (s : St) : nrm P fl (n + 1) .normal (.inS l K :: k) s = nrm P fl n .normal k s := rfl
theorem nrm_xI (n id l : Nat) (K : Cx → St → Prop) (k : List It) (s : St) : nrm P fl (n + 1) (.exit id) (.inS l K :: k) s = nrm P fl n (.exit id) k s := rfl
theorem nrm_gC (n l : Nat) (c : Code) (k : List It) (s : St) : nrm P fl (n + 1) (.goto l) (.code c :: k) s = nrm P fl n (.goto l) k s := rfl
theorem nrm_gB (n l id : Nat) (k : List It) (s : St) : nrm P fl (n + 1) (.goto l) (.inB id :: k) s = nrm P fl n (.goto l) k s := rfl
theorem nrm_gS (n l : Nat) (K : Cx → St → Prop) (k : List It) (s : St) : nrm P fl (n + 1) (.goto l) (.stop K :: k) s = nrm P fl n (.goto l) k s := rfl
theorem nrm_gI (n l l' : Nat) (K : Cx → St → Prop) (k : List It) (s : St) : nrm P fl (n + 1) (.goto l) (.inS l' K :: k) s = ⟨.goto l, .inS l' K :: k, s⟩ := rfl
theorem nrm_scope (n : Nat) (c : Code) (k : List It) (s : St) : nrm P fl (n + 1) .normal (.code (.scope c) :: k) s = ⟨.normal, .code (.scope c) :: k, s⟩ := rfl
theorem nrm_draw (n id : Nat) (ops : Array Oper) (k : List It) (s : St) : nrm P fl (n + 1) .normal (.code (.region id ops true) :: k) s = ⟨.normal, .code (.region id ops true) :: k, s⟩ := rfl
theorem nrm_stop (n : Nat) (K : Cx → St → Prop) (k : List It) (s : St) : nrm P fl (n + 1) .normal (.stop K :: k) s = ⟨.normal, .stop K :: k, s⟩ := rfl
theorem nrm_any (n : Nat) (all : Array Oper) (f : Nat) (l : Array Bool) (k : List It) (s : St) : nrm P fl (n + 1) .normal (.any all f l :: k) s = ⟨.normal, .any all f l :: k, s⟩ := rfl
theorem nrmG_none (n : Nat) (all : Array Oper) (o : Oper) (r : List Oper) (k : List It) (s : St) : nrmG P fl (n + 1) all o r k s none = nrmK P fl n all o r k s (astep P o s) := rfl
theorem nrmG_some (n : Nat) (all : Array Oper) (o : Oper) (r : List Oper) (k : List It) (s : St) (g : Nat × Bool) : nrmG P false (n + 1) all o r k s (some g) = ⟨.normal, .ops all (o :: r) :: k, s⟩ := rfl
theorem nrmG_told (n : Nat) (all : Array Oper) (o : Oper) (r : List Oper) (k : List It) (s : St) (j : Nat) (want : Bool) : nrmG P true (n + 1) all o r k s (some (j, want)) = nrmB P true n all o r k s (aguard all s j want) want := rfl
theorem nrmB_tt (n : Nat) (all : Array Oper) (o : Oper) (r : List Oper) (k : List It) (s : St) : nrmB P fl (n + 1) all o r k s (some true) true = nrmK P fl n all o r k s (astep P o s) := rfl
theorem nrmB_ff (n : Nat) (all : Array Oper) (o : Oper) (r : List Oper) (k : List It) (s : St) : nrmB P fl (n + 1) all o r k s (some false) false = nrmK P fl n all o r k s (astep P o s) := rfl
theorem nrmB_tf (n : Nat) (all : Array Oper) (o : Oper) (r : List Oper) (k : List It) (s : St) : nrmB P fl (n + 1) all o r k s (some true) false = nrmD P fl n all o r k s o.dst := rfl
theorem nrmB_ft (n : Nat) (all : Array Oper) (o : Oper) (r : List Oper) (k : List It) (s : St) : nrmB P fl (n + 1) all o r k s (some false) true = nrmD P fl n all o r k s o.dst := rfl
theorem nrmD_some (n : Nat) (all : Array Oper) (o : Oper) (r : List Oper) (k : List It) (s : St) (d : Nat) : nrmD P fl (n + 1) all o r k s (some d) = nrm P fl n .normal (.ops all r :: k) (put d (.tup []) s) := rfl
theorem nrmK_none (n : Nat) (all : Array Oper) (o : Oper) (r : List Oper) (k : List It) (s : St) : nrmK P fl (n + 1) all o r k s none = ⟨.normal, .ops all (o :: r) :: k, s⟩ := rfl
theorem nrmK_some (n : Nat) (all : Array Oper) (o : Oper) (r : List Oper) (k : List It) (s s' : St) : nrmK P fl (n + 1) all o r k s (some s') = nrm P fl n .normal (.ops all r :: k) s' := rfl
theorem AW.go {e e' : Exit} {k k' : List It} {s s' : St} (h : AW P R Φ e' k' C s') (hn : nrm P false 1000 e k s = ⟨e', k', s'⟩ := by simp only [go_sem, ↓reduceIte] <;> rfl) : AW P R Φ e k C s := by
  refine nrm_sound (fl := false) 1000 ?_
  rw [hn]
  exact h
/-- The guards, too, are told. -/
theorem AW.gg {e e' : Exit} {k k' : List It} {s s' : St} (h : AW P R Φ e' k' C s') (hn : nrm P true 1000 e k s = ⟨e', k', s'⟩ := by simp only [go_sem, ↓reduceIte] <;> rfl) : AW P R Φ e k C s := by
  refine nrm_sound (fl := true) 1000 ?_
  rw [hn]
  exact h
end
attribute [go_sem] aguard nrmG_told nrmB_tt nrmB_ff nrmB_tf nrmB_ft nrmD_some nrm_skip nrm_seq nrm_block nrm_exit nrm_ret nrm_region nrm_inB nrm_nil nrm_ops nrm_xB nrm_xC nrm_xS nrm_r nrm_end nrm_cond nrm_loop nrm_rangeFunc nrm_goto nrm_label nrm_inS nrm_xI nrm_gC nrm_gB nrm_gS nrm_gI nrm_scope nrm_draw nrm_stop nrm_any nrmG_none nrmG_some nrmK_none nrmK_some
end Go.Ck

set_option linter.unusedVariables false
namespace Go.Ck
def ptsL : SV → List Nat
  | .ptr o _ => [o]
  | .mp o => [o]
  | .os o _ _ => [o]
  | .fn _ caps => caps.filterMap fun | .ptr o _ => some o | _ => none
  | _ => []
theorem ptsL_spec {v : SV} {o : Nat} (h : v.pts o = true) : o ∈ ptsL v := by
  cases v <;> simp [SV.pts] at h
  case os => subst h; simp [ptsL]
  · subst h; simp [ptsL]
  · rename_i f caps
    obtain ⟨c, hc, h1⟩ := h
    simp only [ptsL, List.mem_filterMap]
    refine ⟨c, hc, ?_⟩
    cases c <;> simp at h1 ⊢
    exact h1
  · subst h; simp [ptsL]

def hangOn : SV → Option Place
  | .al p => some p
  | .vw p _ _ _ => some p
  | .ea p _ _ _ => some p
  | _ => none
theorem hangOn_spec {v : SV} {p : Place} (h : v.on p = true) : hangOn v = some p := by cases v <;> simp [SV.on] at h <;> subst h <;> rfl

def tupL : SV → List SV
  | .tup vs => vs
  | _ => []
/-- May only this value be kept? -/
def keptV (ds os : List Nat) (v : SV) : Bool := ((ptsL v).all fun o => os.contains o) && (match hangOn v with
  | some (.slot t) => ds.contains t
  | some (.cell o _) => os.contains o
  | _ => true)
def keptS (ds os : List Nat) (sl : List (Nat × SV)) : List Nat → Bool
  | [] => true
  | d :: r => (match look d sl with
    | some v => keptV ds os v && (tupL v).all (keptV ds os)
    | none => true) && keptS ds os sl r
def keptH (ds os : List Nat) (hp : List (Nat × HO)) : List Nat → Bool
  | [] => true
  | o :: r => (match look o hp with
    | some (.cells _ cs) => cs.all (keptV ds os)
    | _ => true) && keptH ds os hp r
def pickH : List Nat → List (Nat × HO) → List (Nat × HO)
  | [], _ => []
  | d :: r, sl => match look d sl with
    | some v => (d, v) :: pickH r sl
    | none => pickH r sl
theorem look_pickH (d : Nat) (sl : List (Nat × HO)) : ∀ ds : List Nat, look d (pickH ds sl) = if d ∈ ds then look d sl else none
  | [] => by simp [pickH, look]
  | k :: r => by
    simp only [pickH]
    split
    · rename_i v hv
      simp only [look]
      by_cases h : k = d
      · subst h; simp [hv]
      · rw [if_neg h, look_pickH d sl r]; simp [Ne.symm h]
    · rename_i hv
      rw [look_pickH d sl r]
      by_cases h : d = k
      · subst h; simp [hv]
      · simp [h]
/-- Only these slots and objects are kept. -/
def keepB (ds os : List Nat) (s : St) : St := ⟨s.n, pickS ds s.sl, pickH os s.hp⟩
def bigIn (m : Nat) (os : List Nat) : List (Nat × HO) → Bool
  | [] => true
  | (o, _) :: r => (decide (o < m) || os.contains o) && bigIn m os r
/-- May the others be forgotten? -/
def keptB (R : Option Nat) (ds os : List Nat) (s : St) : Bool := keptS ds os s.sl ds && keptH ds os s.hp os && bigIn (lim R) os s.hp

theorem keptS_spec {ds os : List Nat} {sl : List (Nat × SV)} : ∀ {l : List Nat}, keptS ds os sl l = true → ∀ d ∈ l, ∀ v, look d sl = some v → keptV ds os v = true ∧ ∀ u ∈ tupL v, keptV ds os u = true
  | [], _, d, hd, _, _ => by cases hd
  | k :: r, h, d, hd, v, hv => by
    simp only [keptS, Bool.and_eq_true] at h
    rcases List.mem_cons.1 hd with rfl | hd
    · have h1 := h.1
      rw [hv] at h1
      simp only [Bool.and_eq_true, List.all_eq_true] at h1
      exact h1
    · exact keptS_spec h.2 d hd v hv
theorem keptH_spec {ds os : List Nat} {hp : List (Nat × HO)} : ∀ {l : List Nat}, keptH ds os hp l = true → ∀ o ∈ l, ∀ e cs, look o hp = some (.cells e cs) → ∀ v ∈ cs, keptV ds os v = true
  | [], _, d, hd, _, _, _, _, _ => by cases hd
  | k :: r, h, d, hd, e, cs, hv, v, hm => by
    simp only [keptH, Bool.and_eq_true] at h
    rcases List.mem_cons.1 hd with rfl | hd
    · have h1 := h.1
      rw [hv] at h1
      simp only [List.all_eq_true] at h1
      exact h1 v hm
    · exact keptH_spec h.2 d hd e cs hv v hm
theorem bigIn_spec {m : Nat} {os : List Nat} : ∀ {hp : List (Nat × HO)}, bigIn m os hp = true → ∀ o y, look o hp = some y → o < m ∨ o ∈ os
  | [], _, o, y, h => by simp [look] at h
  | (k, v) :: r, hb, o, y, h => by
    simp only [bigIn, Bool.and_eq_true, Bool.or_eq_true, decide_eq_true_eq] at hb
    simp only [look] at h
    split at h
    · rename_i e; subst e
      exact hb.1.imp id (by simp)
    · exact bigIn_spec hb.2 o y h

section
variable {P : Program} {O0 : Base} {F : Nat → Prop} {w0 w : World} {s : St} {E : Env} {tmps : Array Value}
theorem Rel.keepG (h : Rel P O0 w0 F s E tmps w) (ds os : List Nat) (hcs : keptS ds os s.sl ds = true) (hch : keptH ds os s.hp os = true) (hob : ∀ o b, O0.ob o = some b → o ∈ os) : Rel P O0 w0 F (Ck.keepB ds os s) E tmps w := by
  have hsl : ∀ d v, look d (Ck.keepB ds os s).sl = some v → d ∈ ds ∧ look d s.sl = some v := by
    intro d v hv
    simp only [Ck.keepB] at hv
    rw [look_pickS] at hv
    split at hv
    · rename_i hm; exact ⟨hm, hv⟩
    · cases hv
  have hhp : ∀ o v, look o (Ck.keepB ds os s).hp = some v → o ∈ os ∧ look o s.hp = some v := by
    intro d v hv
    simp only [Ck.keepB] at hv
    rw [look_pickH] at hv
    split at hv
    · rename_i hm; exact ⟨hm, hv⟩
    · cases hv
  have hat : ∀ p v, (Ck.keepB ds os s).at p = some v → s.at p = some v ∧ (v.isTup = true ∨ keptV ds os v = true) := by
    intro p v hp
    cases p with
    | slot d =>
      obtain ⟨h1, h2⟩ := hsl d v hp
      exact ⟨h2, .inr (keptS_spec hcs d h1 v h2).1⟩
    | part d i =>
      simp only [St.at] at hp ⊢
      split at hp
      · rename_i vs hvs
        obtain ⟨h1, h2⟩ := hsl d _ hvs
        rw [h2]
        exact ⟨hp, .inr ((keptS_spec hcs d h1 _ h2).2 v (List.mem_of_getElem? hp))⟩
      · cases hp
    | cell o i =>
      simp only [St.at] at hp ⊢
      split at hp
      · rename_i e cs hvs
        obtain ⟨h1, h2⟩ := hhp o _ hvs
        rw [h2]
        exact ⟨hp, .inr (keptH_spec hch o h1 e cs h2 v (List.mem_of_getElem? hp))⟩
      · cases hp
  refine { place := fun p v hp => ?_, obj := fun o y hy => h.obj o y (hhp o y hy).2, size := h.size, i1 := fun o o' y y' h1 h2 => h.i1 o o' y y' (hhp _ _ h1).2 (hhp _ _ h2).2, i2 := fun p q e xs e' ys b h1 h2 => h.i2 p q e xs e' ys b (hat p _ h1).1 (hat q _ h2).1, i3 := fun p e xs o y b h1 h2 => h.i3 p e xs o y b (hat p _ h1).1 (hhp _ _ h2).2, om_lt := h.om_lt, om0 := h.om0, na := fun p v q hp hq => ?_, np := fun p v o hp ho => ?_, gr := h.gr, flt := h.flt, ob := fun o b hb => ?_ }
  · exact h.place p v (hat p v hp).1
  · obtain ⟨h1, h2⟩ := hat p v hp
    obtain ⟨k1, ⟨e, xs, k2⟩, k3⟩ := h.na p v q h1 hq
    refine ⟨k1, ⟨e, xs, ?_⟩, k3⟩
    rcases h2 with h2 | h2
    · cases v <;> simp [SV.isTup] at h2; simp [SV.on] at hq
    · have hv := hangOn_spec hq
      simp only [keptV, Bool.and_eq_true, hv] at h2
      cases q with
      | slot t =>
        have : t ∈ ds := by simpa using h2.2
        simp only [St.at, Ck.keepB]
        rw [look_pickS, if_pos this]
        exact k2
      | part t i => exact absurd rfl (k3 t i)
      | cell o i =>
        have : o ∈ os := by simpa using h2.2
        simp only [St.at, Ck.keepB]
        rw [look_pickH, if_pos this]
        exact k2
  · obtain ⟨h1, h2⟩ := hat p v hp
    obtain ⟨y, hy⟩ := h.np p v o h1 ho
    refine ⟨y, ?_⟩
    rcases h2 with h2 | h2
    · cases v <;> simp [SV.isTup] at h2; simp [SV.pts] at ho
    · simp only [keptV, Bool.and_eq_true, List.all_eq_true] at h2
      have : o ∈ os := by simpa using h2.1 o (ptsL_spec ho)
      simp only [Ck.keepB]
      rw [look_pickH, if_pos this]
      exact hy
  · obtain ⟨k1, y, hy⟩ := h.ob o b hb
    refine ⟨k1, y, ?_⟩
    simp only [Ck.keepB]
    rw [look_pickH, if_pos (hob o b hb)]
    exact hy
theorem Rel.keepB {R : Option Nat} (h : Rel P O0 w0 F s E tmps w) (h0 : ∀ o, o < lim R → O0.ob o = none) (ds os : List Nat) (hc : keptB R ds os s = true) : Rel P O0 w0 F (Ck.keepB ds os s) E tmps w := by
  simp only [keptB, Bool.and_eq_true] at hc
  obtain ⟨⟨hcs, hch⟩, hcb⟩ := hc
  refine h.keepG ds os hcs hch (fun o b hb => ?_)
  obtain ⟨_, y, hy⟩ := h.ob o b hb
  rcases bigIn_spec hcb o y hy with h1 | h1
  · rw [h0 o h1] at hb; cases hb
  · exact h1
end
section
variable {P : Program} {R : Option Nat} {Φ : Exit → Cx → St → Prop} {k : List It} {C : Cx} {s : St}
theorem AW.keepB {e : Exit} {s' : St} (ds os : List Nat) (hc : keptB R ds os s = true) (hs : Ck.keepB ds os s = s') (h : AW P R Φ e k C s') : AW P R Φ e k C s :=
  AW.weak (fun B a w ha => by
    obtain ⟨hd, E, hE⟩ := ha
    exact ⟨B, hd, E, by rw [← hs]; exact hE.keepB hd.2.1 ds os hc⟩) h

/-- A loop over states of one shape: S tells the state, J what holds, μ sinks; only these slots and objects are kept from round to round. -/
theorem AW.loopS {α : Type} {c : Code} (S : α → St) (J : α → Prop) (μ : α → Nat) (ds os : List Nat) (a0 : α) (h0 : J a0)
    (round : ∀ a, J a → ∀ K : Cx → St → Prop, (∀ a' s', keptB R ds os s' = true → Ck.keepB ds os s' = S a' → J a' → μ a' < μ a → K C s') → AW P R Φ .normal (.code c :: .stop K :: k) C (S a)) (hc : keptB R ds os s = true := by simp only [go_sem, ↓reduceIte]) (hs : Ck.keepB ds os s = S a0 := by simp only [go_sem, ↓reduceIte] <;> rfl) : AW P R Φ .normal (.code (.loop c) :: k) C s := by
  refine AW.keepB ds os hc hs ?_
  refine AW.loop (n := μ a0) (fun n s => ∃ a, n = μ a ∧ J a ∧ s = S a) ⟨a0, rfl, h0, rfl⟩ ?_
  rintro n s ⟨a, rfl, hJ, rfl⟩
  intro B x w ha
  have := round a hJ (fun C' s' => C' = C ∧ keptB R ds os s' = true ∧ ∃ a', J a' ∧ μ a' < μ a ∧ Ck.keepB ds os s' = S a') (fun a' s' h1 h2 h3 h4 => ⟨rfl, h1, a', h3, h4, h2⟩) B x w ha
  simp only [den] at this ⊢
  refine wpIn_mono this (fun e x w hq => ?_)
  cases e <;> simp only [den] at hq ⊢
  · obtain ⟨C', s', B', ⟨rfl, hk, a', hJ', hlt, hs'⟩, hd, E, hE⟩ := hq
    exact ⟨C', S a', B', ⟨rfl, μ a', hlt, a', rfl, hJ', rfl⟩, hd, E, by rw [← hs']; exact hE.keepB hd.2.1 ds os hk⟩
  all_goals exact hq
/-- Ways that meet again, in a state of one shape. -/
theorem AW.joinS {α : Type} {c : Code} (S : α → St) (J : α → Prop) (ds os : List Nat)
    (h : ∀ K : Cx → St → Prop, (∀ a' s', keptB R ds os s' = true → Ck.keepB ds os s' = S a' → J a' → K C s') → AW P R Φ .normal (.code c :: .stop K :: k) C s)
    (hk : ∀ a, J a → AW P R Φ .normal k C (S a)) : AW P R Φ .normal (.code c :: k) C s := by
  refine AW.join (fun C' s' => C' = C ∧ keptB R ds os s' = true ∧ ∃ a', J a' ∧ Ck.keepB ds os s' = S a') (h _ (fun a' s' h1 h2 h3 => ⟨rfl, h1, a', h3, h2⟩)) ?_
  rintro C' s' ⟨rfl, h1, a', h3, h2⟩
  exact AW.keepB ds os h1 h2 (hk a' h3)
/-- Again. -/
theorem AW.again {α : Type} {S : α → St} {J : α → Prop} {μ : α → Nat} {ds os : List Nat} {K : Cx → St → Prop} {a : α} (hK : ∀ a' s', keptB R ds os s' = true → Ck.keepB ds os s' = S a' → J a' → μ a' < μ a → K C s') (a' : α) (hJ : J a') (hlt : μ a' < μ a)
    (hc : keptB R ds os s = true := by simp only [go_sem, ↓reduceIte]) (hs : Ck.keepB ds os s = S a' := by simp only [go_sem, ↓reduceIte] <;> rfl) : AW P R Φ .normal (.stop K :: k) C s := AW.stop (hK a' s hc hs hJ hlt)
theorem AW.meet {α : Type} {S : α → St} {J : α → Prop} {ds os : List Nat} {K : Cx → St → Prop} (hK : ∀ a' s', keptB R ds os s' = true → Ck.keepB ds os s' = S a' → J a' → K C s') (a' : α) (hJ : J a')
    (hc : keptB R ds os s = true := by simp only [go_sem, ↓reduceIte]) (hs : Ck.keepB ds os s = S a' := by simp only [go_sem, ↓reduceIte] <;> rfl) : AW P R Φ .normal (.stop K :: k) C s := AW.stop (hK a' s hc hs hJ)
end
def callO (svs : Option (List SV)) : Option SV → Option (FuncId × List SV)
  | some (.fn f caps) => (match svs with
    | some vs => some (f, vs ++ caps)
    | none => none)
  | _ => none
def callOp (s : St) : Op → Option (FuncId × List SV)
  | .call c => (match c.callee with
    | .value fx => callO (evs s c.args.toList) (ev s fx)
    | _ => none)
  | _ => none
def HM (s : St) (ρ : Nat → Nat) : List (Nat × HO) → Prop
  | [] => True
  | (o, y) :: r => look (ρ o) s.hp = some (y.ren ρ) ∧ HM s ρ r
def nodupB : List Nat → Bool
  | [] => true
  | a :: r => !r.contains a && nodupB r
def inL (ns : List Nat) (v : SV) : Bool := (ptsL v).all fun o => ns.contains o
def cellsIn (ns : List Nat) : List (Nat × HO) → Bool
  | [] => true
  | (_, .cells _ cs) :: r => cs.all (inL ns) && cellsIn ns r
  | _ :: r => cellsIn ns r
def offP (ns : List Nat) : Place → Bool
  | .cell o _ => !ns.contains o
  | .part o _ => !ns.contains o
  | _ => true
def offM (ns : List Nat) : Option Place → Bool
  | some p => offP ns p
  | none => true
def neM (p : Place) : Option Place → Bool
  | some q => decide (q ≠ p)
  | none => true
def okB (ρ : Nat → Nat) (H : List (Nat × HO)) (args : List SV) (L : List Place) (m : Option Place) : Bool :=
  nodupB ((namesOf H).map ρ) && cellsIn (namesOf H) H && args.all (inL (namesOf H)) && L.all (fun p => neM p m && offP ((namesOf H).map ρ) p) && offM ((namesOf H).map ρ) m

theorem HM_spec {s : St} {ρ : Nat → Nat} : ∀ {H : List (Nat × HO)}, HM s ρ H → ∀ o y, look o H = some y → look (ρ o) s.hp = some (y.ren ρ)
  | [], _, o, y, h => by simp [look] at h
  | (k, v) :: r, hm, o, y, h => by
    simp only [look] at h
    split at h
    · rename_i e; subst e; cases h; exact hm.1
    · exact HM_spec hm.2 o y h
theorem nodupB_inj {ρ : Nat → Nat} : ∀ {l : List Nat}, nodupB (l.map ρ) = true → l.Nodup ∧ ∀ a ∈ l, ∀ b ∈ l, ρ a = ρ b → a = b
  | [], _ => ⟨List.nodup_nil, fun a h => by cases h⟩
  | a :: r, h => by
    simp only [List.map_cons, nodupB, Bool.and_eq_true, Bool.not_eq_true', List.contains_eq_mem, decide_eq_false_iff_not] at h
    obtain ⟨h0, h3⟩ := h
    obtain ⟨h1, h2⟩ := nodupB_inj h3
    refine ⟨List.nodup_cons.2 ⟨fun hm => h0 (List.mem_map.2 ⟨a, hm, rfl⟩), h1⟩, fun x hx y hy hxy => ?_⟩
    rcases List.mem_cons.1 hx with hx | hx <;> rcases List.mem_cons.1 hy with hy | hy
    · rw [hx, hy]
    · rw [hx] at hxy; exact absurd (List.mem_map.2 ⟨y, hy, hxy.symm⟩) h0
    · rw [hy] at hxy; exact absurd (List.mem_map.2 ⟨x, hx, hxy⟩) h0
    · exact h2 x hx y hy hxy
theorem inL_spec {H : List (Nat × HO)} {v : SV} (h : inL (namesOf H) v = true) {o : Nat} (ho : v.pts o = true) : ∃ z, look o H = some z := by
  have := List.all_eq_true.1 h o (ptsL_spec ho)
  exact look_some_of_mem (by simpa using this)
theorem cellsIn_spec {ns : List Nat} : ∀ {H : List (Nat × HO)}, cellsIn ns H = true → ∀ o y, look o H = some y → ∀ c ∈ y.list, inL ns c = true
  | [], _, o, y, h => by simp [look] at h
  | (k, v) :: r, hb, o, y, h => by
    simp only [look] at h
    split at h
    · rename_i e; subst e; cases h
      cases v with
      | cells e cs =>
        simp only [cellsIn, Bool.and_eq_true, List.all_eq_true] at hb
        exact hb.1
      | mp es => intro c hc; simp [HO.list] at hc
    · refine cellsIn_spec (H := r) ?_ o y h
      cases v <;> simp only [cellsIn, Bool.and_eq_true] at hb
      · exact hb.2
      · exact hb
theorem offP_spec {ns : List Nat} {p : Place} (h : offP ns p = true) {o i : Nat} (ho : o ∈ ns) : p ≠ .cell o i := by
  rintro rfl
  simp [offP] at h
  exact h ho
theorem offP_spec2 {ns : List Nat} {p : Place} (h : offP ns p = true) {o i : Nat} (ho : o ∈ ns) : p ≠ .part o i := by
  rintro rfl
  simp [offP] at h
  exact h ho
theorem names_of_look {H : List (Nat × HO)} {o : Nat} {y : HO} (h : look o H = some y) : o ∈ namesOf H := List.mem_map.2 ⟨_, look_mem h, rfl⟩

theorem CallOK.ofB {s : St} {ρ : Nat → Nat} {H : List (Nat × HO)} {args : List SV} {L : List Place} {m : Option Place} (hM : HM s ρ H) (hB : okB ρ H args L m = true) : CallOK s ρ H args L m := by
  simp only [okB, Bool.and_eq_true, List.all_eq_true] at hB
  obtain ⟨⟨⟨⟨h1, h2⟩, h3⟩, h4⟩, h5⟩ := hB
  obtain ⟨k1, k2⟩ := nodupB_inj h1
  refine ⟨HM_spec hM, fun o o' y y' hy hy' he => k2 o (names_of_look hy) o' (names_of_look hy') he, fun o y c o' hy hc ho => inL_spec (cellsIn_spec h2 o y hy c hc) ho, fun c hc o ho => inL_spec (h3 c hc) ho, fun p hp => ⟨?_, fun o y i hy => ⟨offP_spec (h4 p hp).2 (List.mem_map.2 ⟨o, names_of_look hy, rfl⟩), offP_spec2 (h4 p hp).2 (List.mem_map.2 ⟨o, names_of_look hy, rfl⟩)⟩⟩, fun p hm o y i hy => ?_⟩
  · have := (h4 p hp).1
    cases m with
    | none => simp
    | some q => simp only [neM, decide_eq_true_eq] at this; exact fun h => this (Option.some.inj h)
  · subst hm
    exact offP_spec h5 (List.mem_map.2 ⟨o, names_of_look hy, rfl⟩)

def freshO (s : St) (ρ : Nat → Nat) (H : List (Nat × HO)) : List (Nat × HO) → Bool
  | [] => true
  | (o, _) :: r => (match look o H with
    | some _ => true
    | none => (match look (ρ o) s.hp with | none => true | some _ => false)) && freshO s ρ H r
theorem freshO_spec {s : St} {ρ : Nat → Nat} {H : List (Nat × HO)} : ∀ {H' : List (Nat × HO)}, freshO s ρ H H' = true → ∀ o ∈ namesOf H', look o H = none → look (ρ o) s.hp = none
  | [], _, o, h, _ => by cases h
  | (k, v) :: r, hb, o, h, hn => by
    simp only [freshO, Bool.and_eq_true] at hb
    simp only [namesOf, List.map_cons, List.mem_cons] at h
    rcases h with rfl | h
    · have h1 := hb.1
      rw [hn] at h1
      simp only at h1
      split at h1
      · assumption
      · cases h1
    · exact freshO_spec hb.2 o h hn
def nilL : List Place → Bool
  | [] => true
  | _ => false
/-- What is asked of what a call comes back with. -/
def okA (s : St) (ρ : Nat → Nat) (H : List (Nat × HO)) (L : List Place) (rs : List SV) (H' : List (Nat × HO)) : Bool :=
  rs.all resOK && nodupB ((namesOf H').map ρ) && freshO s ρ H H' && (nilL L || (rs.all SV.clo && H'.all (fun y => y.2.clo)))
/-- The state behind a call. -/
def behind (s : St) (ρ : Nat → Nat) (m : Option Place) (H : List (Nat × HO)) (d : Nat) (rs : List SV) (H' : List (Nat × HO)) : St :=
  afterCall ρ d rs ⟨s.n, (handOver s ρ m H).sl, updHp ρ H' (handOver s ρ m H).hp⟩

section
variable {P : Program} {R : Option Nat} {Φ : Exit → Cx → St → Prop} {k : List It} {C : Cx} {s : St}
theorem AW.callX {all : Array Oper} {o : Oper} {r : List Oper} {f : FuncId} {svs : List SV} {H : List (Nat × HO)} {args : List SV} {L : List Place} {m : Option Place} {Ψ : List SV → List (Nat × HO) → Prop} {d : Nat} (ρ : Nat → Nat)
    (hg : o.guard = none) (hd : o.dst = some d) (hc : callOp s o.op = some (f, svs)) (hF : Fn P f H args Ψ) (hP : Pass P s ρ svs args L m) (hM : HM s ρ H) (hB : okB ρ H args L m = true)
    (hk : ∀ rs H', Ψ rs H' → okA s ρ H L rs H' = true ∧ AW P R Φ .normal (.ops all r :: k) C (behind s ρ m H d rs H')) :
    AW P R Φ .normal (.ops all (o :: r) :: k) C s := by
  cases ho : o.op with
  | call c =>
    rw [ho] at hc
    simp only [callOp] at hc
    split at hc
    · rename_i fx hcal
      unfold callO at hc
      split at hc
      · rename_i g caps hfx
        split at hc
        · rename_i vs hvs
          cases hc
          refine AW.call hg ho hd hcal hfx hvs hP (.ofB hM hB) hF (fun rs H' hΨ => ?_)
          obtain ⟨h1, h2⟩ := hk rs H' hΨ
          simp only [okA, Bool.and_eq_true, Bool.or_eq_true] at h1
          obtain ⟨⟨⟨a1, a2⟩, a3⟩, a4⟩ := h1
          obtain ⟨b1, b2⟩ := nodupB_inj a2
          refine ⟨a1, b1, b2, freshO_spec a3, a4.imp (fun h => ?_) (fun h => h), h2⟩
          cases L with
          | nil => rfl
          | cons p r => cases h
        · cases hc
      · cases hc
    · cases hc
  | _ => rw [ho] at hc; simp [callOp] at hc

/-- A call that comes back in one way. -/
theorem AW.callE {all : Array Oper} {o : Oper} {r : List Oper} {f : FuncId} {svs : List SV} {H H' : List (Nat × HO)} {args rs : List SV} {L : List Place} {m : Option Place} {d : Nat} {s' : St} (ρ : Nat → Nat)
    (hF : Fn P f H args (fun rs' h => rs' = rs ∧ h = H')) (hP : Pass P s ρ svs args L m) (h : AW P R Φ .normal (.ops all r :: k) C s') (hg : o.guard = none := by rfl) (hd : o.dst = some d := by rfl) (hc : callOp s o.op = some (f, svs) := by simp only [go_sem, ↓reduceIte] <;> rfl) (hM : HM s ρ H := by simp only [go_sem, ↓reduceIte]) (hB : okB ρ H args L m = true := by simp only [go_sem, ↓reduceIte])
    (hA : okA s ρ H L rs H' = true := by simp only [go_sem, ↓reduceIte]) (hs : behind s ρ m H d rs H' = s' := by simp only [go_sem, ↓reduceIte] <;> rfl) :
    AW P R Φ .normal (.ops all (o :: r) :: k) C s := AW.callX ρ hg hd hc hF hP hM hB (fun rs' h' ⟨e1, e2⟩ => by subst e1; subst e2; exact ⟨hA, by rw [hs]; exact h⟩)

def retO (P : Program) (s : St) (t : TypeId) : Option SV → Option SV
  | some (.ptr o off) => aload (tsh P t) s (.ptr o off)
  | _ => none
def retsV (P : Program) (s : St) : List ResultVar → Option (List SV)
  | [] => some []
  | .tmp t :: r => (match ev s (.tmp t), retsV P s r with | some v, some vs => some (v :: vs) | _, _ => none)
  | .cell b t :: r => (match retO P s t (ev s (.tmp b)), retsV P s r with | some v, some vs => some (v :: vs) | _, _ => none)
theorem retsV_spec : ∀ {l : List ResultVar} {svs : List SV}, retsV P s l = some svs → Rets P s l svs
  | [], svs, h => by cases h; exact .nil
  | .tmp t :: r, svs, h => by
    simp only [retsV] at h
    split at h
    · rename_i v vs h1 h2
      cases h
      exact .tmp h1 (retsV_spec h2)
    · cases h
  | .cell b t :: r, svs, h => by
    simp only [retsV] at h
    split at h
    · rename_i v vs h1 h2
      cases h
      unfold retO at h1
      split at h1
      · rename_i o off h3
        exact .cell h3 h1 (retsV_spec h2)
      · cases h1
    · cases h
def allIn (H H' : List (Nat × HO)) : Bool := H.all fun y => match look y.1 H' with | some _ => true | none => false
theorem AW.fin {res : List ResultVar} {H H' : List (Nat × HO)} {Ψ : List SV → List (Nat × HO) → Prop} {e : Exit} {svs rs : List SV} {L : List Place} {m : Option Place} (he : e = .normal ∨ e = .ret) (hv : retsV P s res = some svs) (hP : Pass P s id svs rs L m) (hM : HM s id H') (hB : okB id H' rs L m = true)
    (hn : allIn H H' = true) (hΨ : Ψ rs H') : AW P R (Ends P res H Ψ C) e [] C s :=
  AW.nil ⟨rfl, he, svs, rs, H', L, m, retsV_spec hv, hP, .ofB hM hB, (fun o y hy => by
    have := List.all_eq_true.1 hn (o, y) (look_mem hy)
    simp only at this
    split at this
    · rename_i z hz; exact ⟨z, hz⟩
    · cases this), hΨ⟩
/-- The end of a body that comes back in one way. -/
theorem AW.finE {res : List ResultVar} {H H' : List (Nat × HO)} {e : Exit} {svs rs rs' : List SV} {L : List Place} {m : Option Place} (hP : Pass P s id svs rs' L m) (hr : rs' = rs) (he : e = .normal ∨ e = .ret := by first | exact .inl rfl | exact .inr rfl) (hv : retsV P s res = some svs := by simp only [go_sem, ↓reduceIte] <;> rfl) (hM : HM s id H' := by simp only [go_sem, ↓reduceIte]; try trivial) (hB : okB id H' rs L m = true := by simp only [go_sem, ↓reduceIte])
    (hn : allIn H H' = true := by simp only [go_sem, ↓reduceIte]) : AW P R (Ends P res H (fun r h => r = rs ∧ h = H') C) e [] C s := by
  subst hr
  exact AW.fin he hv hP hM hB hn ⟨rfl, rfl⟩
end
end Go.Ck

set_option linter.unusedVariables false
namespace Go.Ck
attribute [go_sem] List.replicate_zero List.replicate_succ List.singleton_append astep reads putO orElse aeff aval ev look ofConst zslots put clear setSlot SV.on evs evo lenT intO alen cont abinS abin pvO aindexAddr indexT aload raO subP PV.cells
  kill killL setObj setAt del St.at transfer storeCell putCells storeAgg storeO storeElem storeE astore newObj partCells fillParts mkAgg allPV fillElems elemsO elemsOf appendO appendX aappend TK.isSrc TK.isBool TK.isPtr eqSV aun convT aconv aggO cellO elemO ownO objO eaO afieldAddr afield optInt sliceV sliceB sliceN aslice freezeO thaw freezeA freeze setCells plainCells allPlain setElem minI maxI strO bstrO PV.one SV.simple numsOf mlook keyEq
  callOp callO behind afterCall handOver killOs killO killOL SV.onO giveUp updHp putHp namesOf SV.ren SV.ren1 HO.ren putTupS
  retO retsV Ck.keepB pickS pickH keptB keptS keptH keptV bigIn lim ptsL hangOn tupL
  List.map_cons List.map_nil List.all_cons List.all_nil List.append_nil List.nil_append List.cons_append List.getElem?_cons_zero List.getElem?_cons_succ List.getElem?_nil List.set_cons_zero List.set_cons_succ List.set_nil List.length_cons List.length_nil List.take_zero List.drop_zero List.take_succ_cons List.drop_succ_cons List.take_nil List.drop_nil
  Nat.reduceAdd Nat.reduceSub Nat.reduceMul Nat.reduceEqDiff Nat.reduceLT Nat.reduceLeDiff Nat.reduceBEq Nat.reduceBNe reduceCtorEq Bool.false_eq_true Bool.and_true Bool.true_and Bool.or_true Bool.true_or Bool.false_or Bool.or_false Bool.and_false Bool.false_and Bool.not_true Bool.not_false
  Nat.succ_ne_self Nat.one_ne_zero Nat.zero_add Nat.add_zero Nat.zero_le Nat.le_refl Nat.zero_mul Nat.one_mul Nat.mul_one and_self and_true true_and and_false false_and not_false_eq_true not_true_eq_false ne_eq decide_true decide_false if_true if_false Place.slot.injEq Place.part.injEq Place.cell.injEq
  Int.toNat_natCast Int.reduceLT Int.reduceLE Int.reduceToNat Int.reduceAdd Int.reduceSub Int.reduceNeg Int.reduceEq Int.reduceBEq Int.reduceBNe Option.getD_some Option.getD_none Array.toList List.contains_nil List.filterMap_nil List.filterMap_cons List.contains_cons
end Go.Ck
