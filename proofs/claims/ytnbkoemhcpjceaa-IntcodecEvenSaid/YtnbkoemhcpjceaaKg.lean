/- What is proved here: parts of the proofs of this seat's statements (a verified evaluator for calls over pure values, its laws, and contracts of functions). No condition. -/
import Derived.Test.YtnbkoemhcpjceaaKf
import Derived.MapKept
set_option linter.all false
set_option linter.unusedVariables false
namespace Go.Ck
structure Cfg where
  e : Exit
  k : List It
  s : St

mutual
/-- Steps of a body, as far as they need no choice: a test, a guard, a call, a loop, a region that draws end it. -/
def nrm (P : Program) (fl : Bool) : Nat → Exit → List It → St → Cfg
  | 0, e, k, s => ⟨e, k, s⟩
  | n + 1, .normal, .code .skip :: k, s => nrm P fl n .normal k s
  | n + 1, .normal, .code (.seq x y) :: k, s => nrm P fl n .normal (.code x :: .code y :: k) s
  | n + 1, .normal, .code (.block id c) :: k, s => nrm P fl n .normal (.code c :: .inB id :: k) s
  | n + 1, .normal, .code (.exit id) :: k, s => nrm P fl n (.exit id) k s
  | n + 1, .normal, .code .ret :: k, s => nrm P fl n .ret k s
  | n + 1, .normal, .code (.label _) :: k, s => nrm P fl n .normal k s
  | n + 1, .normal, .code (.goto l) :: k, s => nrm P fl n (.goto l) k s
  | n + 1, .normal, .code (.region _ ops false) :: k, s => nrm P fl n .normal (.ops ops ops.toList :: k) s
  | n + 1, .normal, .inB _ :: k, s => nrm P fl n .normal k s
  | n + 1, .normal, .inS _ _ :: k, s => nrm P fl n .normal k s
  | n + 1, .normal, .ops _ [] :: k, s => nrm P fl n .normal k s
  | n + 1, .normal, .ops all (o :: r) :: k, s => nrmG P fl n all o r k s o.guard
  | n + 1, .exit id, .inB id' :: k, s => if id = id' then nrm P fl n .normal k s else nrm P fl n (.exit id) k s
  | n + 1, .exit id, .code _ :: k, s => nrm P fl n (.exit id) k s
  | n + 1, .exit id, .stop _ :: k, s => nrm P fl n (.exit id) k s
  | n + 1, .exit id, .inS _ _ :: k, s => nrm P fl n (.exit id) k s
  | n + 1, .goto l, .code _ :: k, s => nrm P fl n (.goto l) k s
  | n + 1, .goto l, .inB _ :: k, s => nrm P fl n (.goto l) k s
  | n + 1, .goto l, .stop _ :: k, s => nrm P fl n (.goto l) k s
  | n + 1, .ret, _ :: k, s => nrm P fl n .ret k s
  | _ + 1, e, k, s => ⟨e, k, s⟩
def nrmG (P : Program) (fl : Bool) : Nat → Array Oper → Oper → List Oper → List It → St → Option (Nat × Bool) → Cfg
  | 0, all, o, r, k, s, _ => ⟨.normal, .ops all (o :: r) :: k, s⟩
  | n + 1, all, o, r, k, s, none => nrmK P fl n all o r k s (astep P o s)
  | n + 1, all, o, r, k, s, some (j, want) => if fl = true then nrmB P fl n all o r k s (aguard all s j want) want else ⟨.normal, .ops all (o :: r) :: k, s⟩
def nrmB (P : Program) (fl : Bool) : Nat → Array Oper → Oper → List Oper → List It → St → Option Bool → Bool → Cfg
  | n + 1, all, o, r, k, s, some true, true => nrmK P fl n all o r k s (astep P o s)
  | n + 1, all, o, r, k, s, some false, false => nrmK P fl n all o r k s (astep P o s)
  | n + 1, all, o, r, k, s, some true, false => nrmD P fl n all o r k s o.dst
  | n + 1, all, o, r, k, s, some false, true => nrmD P fl n all o r k s o.dst
  | _, all, o, r, k, s, _, _ => ⟨.normal, .ops all (o :: r) :: k, s⟩
def nrmD (P : Program) (fl : Bool) : Nat → Array Oper → Oper → List Oper → List It → St → Option Nat → Cfg
  | n + 1, all, o, r, k, s, some d => nrm P fl n .normal (.ops all r :: k) (put d (.tup []) s)
  | _, all, o, r, k, s, _ => ⟨.normal, .ops all (o :: r) :: k, s⟩
def nrmK (P : Program) (fl : Bool) : Nat → Array Oper → Oper → List Oper → List It → St → Option St → Cfg
  | 0, all, o, r, k, s, _ => ⟨.normal, .ops all (o :: r) :: k, s⟩
  | n + 1, all, o, r, k, s, some s' => nrm P fl n .normal (.ops all r :: k) s'
  | _ + 1, all, o, r, k, s, none => ⟨.normal, .ops all (o :: r) :: k, s⟩
end
section
variable {P : Program} {fl : Bool} {R : Option Nat} {Φ : Exit → Cx → St → Prop} {C : Cx}
theorem AW.passR {i : It} {k : List It} {s : St} (h : AW P R Φ .ret k C s) : AW P R Φ .ret (i :: k) C s := fun B a w ha => by
  cases i <;> exact h B a w ha

mutual
theorem nrm_sound : ∀ (n : Nat) {e : Exit} {k : List It} {s : St}, AW P R Φ (nrm P fl n e k s).e (nrm P fl n e k s).k C (nrm P fl n e k s).s → AW P R Φ e k C s
  | 0, e, k, s, h => h
  | n + 1, e, k, s, h => by
    unfold nrm at h
    split at h
    · exact h
    · exact AW.skip (nrm_sound _ h)
    · exact AW.seq (nrm_sound _ h)
    · exact AW.block (nrm_sound _ h)
    · exact AW.exit (nrm_sound _ h)
    · exact AW.ret (nrm_sound _ h)
    · exact AW.label (nrm_sound _ h)
    · exact AW.goto (nrm_sound _ h)
    · exact AW.region (nrm_sound _ h)
    · exact AW.inB (nrm_sound _ h)
    · exact AW.inS (nrm_sound _ h)
    · exact AW.opsNil (nrm_sound _ h)
    · exact nrmG_sound _ h
    · split at h
      · rename_i he
        subst he
        exact AW.outX (nrm_sound _ h)
      · rename_i he
        exact AW.passX he (nrm_sound _ h)
    · exact AW.passC (by simp) (nrm_sound _ h)
    · exact AW.passS (by simp) (nrm_sound _ h)
    · exact AW.xI (nrm_sound _ h)
    · exact AW.passC (by simp) (nrm_sound _ h)
    · exact AW.passB (by simp) (nrm_sound _ h)
    · exact AW.passS (by simp) (nrm_sound _ h)
    · exact AW.passR (nrm_sound _ h)
    · exact h
theorem nrmG_sound : ∀ (n : Nat) {all : Array Oper} {o : Oper} {r : List Oper} {k : List It} {s : St}, AW P R Φ (nrmG P fl n all o r k s o.guard).e (nrmG P fl n all o r k s o.guard).k C (nrmG P fl n all o r k s o.guard).s → AW P R Φ .normal (.ops all (o :: r) :: k) C s
  | 0, all, o, r, k, s, h => h
  | n + 1, all, o, r, k, s, h => by
    cases hg : o.guard with
    | none =>
      rw [hg] at h
      simp only [nrmG] at h
      exact nrmK_sound n (fun j want hj => by rw [hg] at hj; cases hj) h
    | some g =>
      obtain ⟨j, want⟩ := g
      rw [hg] at h
      simp only [nrmG] at h
      by_cases hf : fl = true
      · rw [if_pos hf] at h
        exact nrmB_sound n hg h
      · rw [if_neg hf] at h
        exact h
theorem nrmB_sound : ∀ (n : Nat) {all : Array Oper} {o : Oper} {r : List Oper} {k : List It} {s : St} {j : Nat} {want : Bool}, o.guard = some (j, want) → AW P R Φ (nrmB P fl n all o r k s (aguard all s j want) want).e (nrmB P fl n all o r k s (aguard all s j want) want).k C (nrmB P fl n all o r k s (aguard all s j want) want).s → AW P R Φ .normal (.ops all (o :: r) :: k) C s
  | 0, all, o, r, k, s, j, want, hg, h => by
    simp only [nrmB] at h
    exact h
  | n + 1, all, o, r, k, s, j, want, hg, h => by
    cases hb : aguard all s j want with
    | none =>
      rw [hb] at h
      simp only [nrmB] at h
      exact h
    | some b =>
      rw [hb] at h
      cases b <;> cases want <;> simp only [nrmB] at h
      · exact nrmK_sound n (fun j' want' hj => by rw [hg] at hj; cases hj; exact hb) h
      · exact nrmD_sound n hg hb h
      · exact nrmD_sound n hg hb h
      · exact nrmK_sound n (fun j' want' hj => by rw [hg] at hj; cases hj; exact hb) h
theorem nrmD_sound : ∀ (n : Nat) {all : Array Oper} {o : Oper} {r : List Oper} {k : List It} {s : St} {j : Nat} {want : Bool}, o.guard = some (j, want) → aguard all s j want = some (!want) → AW P R Φ (nrmD P fl n all o r k s o.dst).e (nrmD P fl n all o r k s o.dst).k C (nrmD P fl n all o r k s o.dst).s → AW P R Φ .normal (.ops all (o :: r) :: k) C s
  | 0, all, o, r, k, s, j, want, hg, hb, h => by
    simp only [nrmD] at h
    exact h
  | n + 1, all, o, r, k, s, j, want, hg, hb, h => by
    cases hd : o.dst with
    | none =>
      rw [hd] at h
      simp only [nrmD] at h
      exact h
    | some d =>
      rw [hd] at h
      simp only [nrmD] at h
      exact AW.guardF hg hd hb (nrm_sound n h)
theorem nrmK_sound : ∀ (n : Nat) {all : Array Oper} {o : Oper} {r : List Oper} {k : List It} {s : St}, (∀ j want, o.guard = some (j, want) → aguard all s j want = some want) → AW P R Φ (nrmK P fl n all o r k s (astep P o s)).e (nrmK P fl n all o r k s (astep P o s)).k C (nrmK P fl n all o r k s (astep P o s)).s → AW P R Φ .normal (.ops all (o :: r) :: k) C s
  | 0, all, o, r, k, s, hg, h => h
  | n + 1, all, o, r, k, s, hg, h => by
    cases hs : astep P o s with
    | none =>
      rw [hs] at h
      simp only [nrmK] at h
      exact h
    | some s' =>
      rw [hs] at h
      simp only [nrmK] at h
      cases hgd : o.guard with
      | none => exact AW.step hgd hs (nrm_sound n h)
      | some g =>
        obtain ⟨j, want⟩ := g
        exact AW.guardT hgd (hg j want hgd) (AW.step rfl hs (nrm_sound n h))
end
theorem nrm_skip (n : Nat) (k : List It) (s : St) : nrm P fl (n + 1) .normal (.code .skip :: k) s = nrm P fl n .normal k s := rfl
theorem nrm_seq (n : Nat) (x y : Code) (k : List It) (s : St) : nrm P fl (n + 1) .normal (.code (.seq x y) :: k) s = nrm P fl n .normal (.code x :: .code y :: k) s := rfl
theorem nrm_block (n id : Nat) (c : Code) (k : List It) (s : St) : nrm P fl (n + 1) .normal (.code (.block id c) :: k) s = nrm P fl n .normal (.code c :: .inB id :: k) s := rfl
theorem nrm_exit (n id : Nat) (k : List It) (s : St) : nrm P fl (n + 1) .normal (.code (.exit id) :: k) s = nrm P fl n (.exit id) k s := rfl
theorem nrm_ret (n : Nat) (k : List It) (s : St) : nrm P fl (n + 1) .normal (.code .ret :: k) s = nrm P fl n .ret k s := rfl
theorem nrm_region (n id : Nat) (ops : List Oper) (k : List It) (s : St) : nrm P fl (n + 1) .normal (.code (.region id ops.toArray false) :: k) s = nrm P fl n .normal (.ops ops.toArray ops :: k) s := rfl
theorem nrm_inB (n id : Nat) (k : List It) (s : St) : nrm P fl (n + 1) .normal (.inB id :: k) s = nrm P fl n .normal k s := rfl
theorem nrm_nil (n : Nat) (all : Array Oper) (k : List It) (s : St) : nrm P fl (n + 1) .normal (.ops all [] :: k) s = nrm P fl n .normal k s := rfl
theorem nrm_ops (n : Nat) (all : Array Oper) (o : Oper) (r : List Oper) (k : List It) (s : St) : nrm P fl (n + 1) .normal (.ops all (o :: r) :: k) s = nrmG P fl n all o r k s o.guard := rfl
theorem nrm_xB (n id id' : Nat) (k : List It) (s : St) : nrm P fl (n + 1) (.exit id) (.inB id' :: k) s = if id = id' then nrm P fl n .normal k s else nrm P fl n (.exit id) k s := rfl
theorem nrm_xC (n id : Nat) (c : Code) (k : List It) (s : St) : nrm P fl (n + 1) (.exit id) (.code c :: k) s = nrm P fl n (.exit id) k s := rfl
theorem nrm_xS (n id : Nat) (K : Cx → St → Prop) (k : List It) (s : St) : nrm P fl (n + 1) (.exit id) (.stop K :: k) s = nrm P fl n (.exit id) k s := rfl
theorem nrm_r (n : Nat) (i : It) (k : List It) (s : St) : nrm P fl (n + 1) .ret (i :: k) s = nrm P fl n .ret k s := by cases i <;> rfl
theorem nrm_end (n : Nat) (e : Exit) (s : St) : nrm P fl (n + 1) e [] s = ⟨e, [], s⟩ := by cases e <;> rfl
theorem nrm_cond (n : Nat) (c : Operand) (x y : Code) (k : List It) (s : St) : nrm P fl (n + 1) .normal (.code (.cond c x y) :: k) s = ⟨.normal, .code (.cond c x y) :: k, s⟩ := rfl
theorem nrm_loop (n : Nat) (c : Code) (k : List It) (s : St) : nrm P fl (n + 1) .normal (.code (.loop c) :: k) s = ⟨.normal, .code (.loop c) :: k, s⟩ := rfl
theorem nrm_rangeFunc (n : Nat) (g : Operand) (ps : Array Tmp) (x y : Code) (k : List It) (s : St) : nrm P fl (n + 1) .normal (.code (.rangeFunc g ps x y) :: k) s = ⟨.normal, .code (.rangeFunc g ps x y) :: k, s⟩ := rfl
theorem nrm_goto (n l : Nat) (k : List It) (s : St) : nrm P fl (n + 1) .normal (.code (.goto l) :: k) s = nrm P fl n (.goto l) k s := rfl
theorem nrm_label (n l : Nat) (k : List It) (s : St) : nrm P fl (n + 1) .normal (.code (.label l) :: k) s = nrm P fl n .normal k s := rfl
theorem nrm_inS (n l : Nat) (K : Cx → St → Prop) (k : List It) (s : St) : nrm P fl (n + 1) .normal (.inS l K :: k) s = nrm P fl n .normal k s := rfl
theorem nrm_xI (n id l : Nat) (K : Cx → St → Prop) (k : List It) (s : St) : nrm P fl (n + 1) (.exit id) (.inS l K :: k) s = nrm P fl n (.exit id) k s := rfl
theorem nrm_gC (n l : Nat) (c : Code) (k : List It) (s : St) : nrm P fl (n + 1) (.goto l) (.code c :: k) s = nrm P fl n (.goto l) k s := rfl
theorem nrm_gB (n l id : Nat) (k : List It) (s : St) : nrm P fl (n + 1) (.goto l) (.inB id :: k) s = nrm P fl n (.goto l) k s := rfl
theorem nrm_gS (n l : Nat) (K : Cx → St → Prop) (k : List It) (s : St) : nrm P fl (n + 1) (.goto l) (.stop K :: k) s = nrm P fl n (.goto l) k s := rfl
theorem nrm_gI (n l l' : Nat) (K : Cx → St → Prop) (k : List It) (s : St) : nrm P fl (n + 1) (.goto l) (.inS l' K :: k) s = ⟨.goto l, .inS l' K :: k, s⟩ := rfl
theorem nrm_scope (n : Nat) (c : Code) (k : List It) (s : St) : nrm P fl (n + 1) .normal (.code (.scope c) :: k) s = ⟨.normal, .code (.scope c) :: k, s⟩ := rfl
theorem nrm_draw (n id : Nat) (ops : Array Oper) (k : List It) (s : St) : nrm P fl (n + 1) .normal (.code (.region id ops true) :: k) s = ⟨.normal, .code (.region id ops true) :: k, s⟩ := rfl
theorem nrm_stop (n : Nat) (K : Cx → St → Prop) (k : List It) (s : St) : nrm P fl (n + 1) .normal (.stop K :: k) s = ⟨.normal, .stop K :: k, s⟩ := rfl
theorem nrm_any (n : Nat) (all : Array Oper) (f : Nat) (l : Array Bool) (k : List It) (s : St) : nrm P fl (n + 1) .normal (.any all f l :: k) s = ⟨.normal, .any all f l :: k, s⟩ := rfl
theorem nrmG_none (n : Nat) (all : Array Oper) (o : Oper) (r : List Oper) (k : List It) (s : St) : nrmG P fl (n + 1) all o r k s none = nrmK P fl n all o r k s (astep P o s) := rfl
theorem nrmG_some (n : Nat) (all : Array Oper) (o : Oper) (r : List Oper) (k : List It) (s : St) (g : Nat × Bool) : nrmG P false (n + 1) all o r k s (some g) = ⟨.normal, .ops all (o :: r) :: k, s⟩ := rfl
theorem nrmG_told (n : Nat) (all : Array Oper) (o : Oper) (r : List Oper) (k : List It) (s : St) (j : Nat) (want : Bool) : nrmG P true (n + 1) all o r k s (some (j, want)) = nrmB P true n all o r k s (aguard all s j want) want := rfl
theorem nrmB_tt (n : Nat) (all : Array Oper) (o : Oper) (r : List Oper) (k : List It) (s : St) : nrmB P fl (n + 1) all o r k s (some true) true = nrmK P fl n all o r k s (astep P o s) := rfl
theorem nrmB_ff (n : Nat) (all : Array Oper) (o : Oper) (r : List Oper) (k : List It) (s : St) : nrmB P fl (n + 1) all o r k s (some false) false = nrmK P fl n all o r k s (astep P o s) := rfl
theorem nrmB_tf (n : Nat) (all : Array Oper) (o : Oper) (r : List Oper) (k : List It) (s : St) : nrmB P fl (n + 1) all o r k s (some true) false = nrmD P fl n all o r k s o.dst := rfl
theorem nrmB_ft (n : Nat) (all : Array Oper) (o : Oper) (r : List Oper) (k : List It) (s : St) : nrmB P fl (n + 1) all o r k s (some false) true = nrmD P fl n all o r k s o.dst := rfl
theorem nrmD_some (n : Nat) (all : Array Oper) (o : Oper) (r : List Oper) (k : List It) (s : St) (d : Nat) : nrmD P fl (n + 1) all o r k s (some d) = nrm P fl n .normal (.ops all r :: k) (put d (.tup []) s) := rfl
theorem nrmK_none (n : Nat) (all : Array Oper) (o : Oper) (r : List Oper) (k : List It) (s : St) : nrmK P fl (n + 1) all o r k s none = ⟨.normal, .ops all (o :: r) :: k, s⟩ := rfl
theorem nrmK_some (n : Nat) (all : Array Oper) (o : Oper) (r : List Oper) (k : List It) (s s' : St) : nrmK P fl (n + 1) all o r k s (some s') = nrm P fl n .normal (.ops all r :: k) s' := rfl
theorem AW.go {e e' : Exit} {k k' : List It} {s s' : St} (h : AW P R Φ e' k' C s') (hn : nrm P false 1000 e k s = ⟨e', k', s'⟩ := by simp only [go_sem, ↓reduceIte] <;> rfl) : AW P R Φ e k C s := by
  refine nrm_sound (fl := false) 1000 ?_
  rw [hn]
  exact h
/-- The guards, too, are told. -/
theorem AW.gg {e e' : Exit} {k k' : List It} {s s' : St} (h : AW P R Φ e' k' C s') (hn : nrm P true 1000 e k s = ⟨e', k', s'⟩ := by simp only [go_sem, ↓reduceIte] <;> rfl) : AW P R Φ e k C s := by
  refine nrm_sound (fl := true) 1000 ?_
  rw [hn]
  exact h
end
attribute [go_sem] aguard nrmG_told nrmB_tt nrmB_ff nrmB_tf nrmB_ft nrmD_some nrm_skip nrm_seq nrm_block nrm_exit nrm_ret nrm_region nrm_inB nrm_nil nrm_ops nrm_xB nrm_xC nrm_xS nrm_r nrm_end nrm_cond nrm_loop nrm_rangeFunc nrm_goto nrm_label nrm_inS nrm_xI nrm_gC nrm_gB nrm_gS nrm_gI nrm_scope nrm_draw nrm_stop nrm_any nrmG_none nrmG_some nrmK_none nrmK_some
end Go.Ck

set_option linter.unusedVariables false
namespace Go.Ck
def ptsL : SV → List Nat
  | .ptr o _ => [o]
  | .mp o => [o]
  | .fn _ caps => caps.filterMap fun | .ptr o _ => some o | _ => none
  | _ => []
theorem ptsL_spec {v : SV} {o : Nat} (h : v.pts o = true) : o ∈ ptsL v := by
  cases v <;> simp [SV.pts] at h
  · subst h; simp [ptsL]
  · rename_i f caps
    obtain ⟨c, hc, h1⟩ := h
    simp only [ptsL, List.mem_filterMap]
    refine ⟨c, hc, ?_⟩
    cases c <;> simp at h1 ⊢
    exact h1
  · subst h; simp [ptsL]

def hangOn : SV → Option Place
  | .al p => some p
  | .vw p _ _ _ => some p
  | .ea p _ _ _ => some p
  | _ => none
theorem hangOn_spec {v : SV} {p : Place} (h : v.on p = true) : hangOn v = some p := by cases v <;> simp [SV.on] at h <;> subst h <;> rfl

def tupL : SV → List SV
  | .tup vs => vs
  | _ => []
/-- May only this value be kept? -/
def keptV (ds os : List Nat) (v : SV) : Bool := ((ptsL v).all fun o => os.contains o) && (match hangOn v with
  | some (.slot t) => ds.contains t
  | some (.cell o _) => os.contains o
  | _ => true)
def keptS (ds os : List Nat) (sl : List (Nat × SV)) : List Nat → Bool
  | [] => true
  | d :: r => (match look d sl with
    | some v => keptV ds os v && (tupL v).all (keptV ds os)
    | none => true) && keptS ds os sl r
def keptH (ds os : List Nat) (hp : List (Nat × HO)) : List Nat → Bool
  | [] => true
  | o :: r => (match look o hp with
    | some (.cells _ cs) => cs.all (keptV ds os)
    | _ => true) && keptH ds os hp r
def pickH : List Nat → List (Nat × HO) → List (Nat × HO)
  | [], _ => []
  | d :: r, sl => match look d sl with
    | some v => (d, v) :: pickH r sl
    | none => pickH r sl
theorem look_pickH (d : Nat) (sl : List (Nat × HO)) : ∀ ds : List Nat, look d (pickH ds sl) = if d ∈ ds then look d sl else none
  | [] => by simp [pickH, look]
  | k :: r => by
    simp only [pickH]
    split
    · rename_i v hv
      simp only [look]
      by_cases h : k = d
      · subst h; simp [hv]
      · rw [if_neg h, look_pickH d sl r]; simp [Ne.symm h]
    · rename_i hv
      rw [look_pickH d sl r]
      by_cases h : d = k
      · subst h; simp [hv]
      · simp [h]
/-- Only these slots and objects are kept. -/
def keepB (ds os : List Nat) (s : St) : St := ⟨s.n, pickS ds s.sl, pickH os s.hp⟩
def bigIn (m : Nat) (os : List Nat) : List (Nat × HO) → Bool
  | [] => true
  | (o, _) :: r => (decide (o < m) || os.contains o) && bigIn m os r
/-- May the others be forgotten? -/
def keptB (R : Option Nat) (ds os : List Nat) (s : St) : Bool := keptS ds os s.sl ds && keptH ds os s.hp os && bigIn (lim R) os s.hp

theorem keptS_spec {ds os : List Nat} {sl : List (Nat × SV)} : ∀ {l : List Nat}, keptS ds os sl l = true → ∀ d ∈ l, ∀ v, look d sl = some v → keptV ds os v = true ∧ ∀ u ∈ tupL v, keptV ds os u = true
  | [], _, d, hd, _, _ => by cases hd
  | k :: r, h, d, hd, v, hv => by
    simp only [keptS, Bool.and_eq_true] at h
    rcases List.mem_cons.1 hd with rfl | hd
    · have h1 := h.1
      rw [hv] at h1
      simp only [Bool.and_eq_true, List.all_eq_true] at h1
      exact h1
    · exact keptS_spec h.2 d hd v hv
theorem keptH_spec {ds os : List Nat} {hp : List (Nat × HO)} : ∀ {l : List Nat}, keptH ds os hp l = true → ∀ o ∈ l, ∀ e cs, look o hp = some (.cells e cs) → ∀ v ∈ cs, keptV ds os v = true
  | [], _, d, hd, _, _, _, _, _ => by cases hd
  | k :: r, h, d, hd, e, cs, hv, v, hm => by
    simp only [keptH, Bool.and_eq_true] at h
    rcases List.mem_cons.1 hd with rfl | hd
    · have h1 := h.1
      rw [hv] at h1
      simp only [List.all_eq_true] at h1
      exact h1 v hm
    · exact keptH_spec h.2 d hd e cs hv v hm
theorem bigIn_spec {m : Nat} {os : List Nat} : ∀ {hp : List (Nat × HO)}, bigIn m os hp = true → ∀ o y, look o hp = some y → o < m ∨ o ∈ os
  | [], _, o, y, h => by simp [look] at h
  | (k, v) :: r, hb, o, y, h => by
    simp only [bigIn, Bool.and_eq_true, Bool.or_eq_true, decide_eq_true_eq] at hb
    simp only [look] at h
    split at h
    · rename_i e; subst e
      exact hb.1.imp id (by simp)
    · exact bigIn_spec hb.2 o y h

section
variable {P : Program} {O0 : Base} {F : Nat → Prop} {w0 w : World} {s : St} {E : Env} {tmps : Array Value}
theorem Rel.keepG (h : Rel P O0 w0 F s E tmps w) (ds os : List Nat) (hcs : keptS ds os s.sl ds = true) (hch : keptH ds os s.hp os = true) (hob : ∀ o b, O0.ob o = some b → o ∈ os) : Rel P O0 w0 F (Ck.keepB ds os s) E tmps w := by
  have hsl : ∀ d v, look d (Ck.keepB ds os s).sl = some v → d ∈ ds ∧ look d s.sl = some v := by
    intro d v hv
    simp only [Ck.keepB] at hv
    rw [look_pickS] at hv
    split at hv
    · rename_i hm; exact ⟨hm, hv⟩
    · cases hv
  have hhp : ∀ o v, look o (Ck.keepB ds os s).hp = some v → o ∈ os ∧ look o s.hp = some v := by
    intro d v hv
    simp only [Ck.keepB] at hv
    rw [look_pickH] at hv
    split at hv
    · rename_i hm; exact ⟨hm, hv⟩
    · cases hv
  have hat : ∀ p v, (Ck.keepB ds os s).at p = some v → s.at p = some v ∧ (v.isTup = true ∨ keptV ds os v = true) := by
    intro p v hp
    cases p with
    | slot d =>
      obtain ⟨h1, h2⟩ := hsl d v hp
      exact ⟨h2, .inr (keptS_spec hcs d h1 v h2).1⟩
    | part d i =>
      simp only [St.at] at hp ⊢
      split at hp
      · rename_i vs hvs
        obtain ⟨h1, h2⟩ := hsl d _ hvs
        rw [h2]
        exact ⟨hp, .inr ((keptS_spec hcs d h1 _ h2).2 v (List.mem_of_getElem? hp))⟩
      · cases hp
    | cell o i =>
      simp only [St.at] at hp ⊢
      split at hp
      · rename_i e cs hvs
        obtain ⟨h1, h2⟩ := hhp o _ hvs
        rw [h2]
        exact ⟨hp, .inr (keptH_spec hch o h1 e cs h2 v (List.mem_of_getElem? hp))⟩
      · cases hp
  refine { place := fun p v hp => ?_, obj := fun o y hy => h.obj o y (hhp o y hy).2, size := h.size, i1 := fun o o' y y' h1 h2 => h.i1 o o' y y' (hhp _ _ h1).2 (hhp _ _ h2).2, i2 := fun p q e xs e' ys b h1 h2 => h.i2 p q e xs e' ys b (hat p _ h1).1 (hat q _ h2).1, i3 := fun p e xs o y b h1 h2 => h.i3 p e xs o y b (hat p _ h1).1 (hhp _ _ h2).2, om_lt := h.om_lt, om0 := h.om0, na := fun p v q hp hq => ?_, np := fun p v o hp ho => ?_, gr := h.gr, flt := h.flt, ob := fun o b hb => ?_ }
  · exact h.place p v (hat p v hp).1
  · obtain ⟨h1, h2⟩ := hat p v hp
    obtain ⟨k1, ⟨e, xs, k2⟩, k3⟩ := h.na p v q h1 hq
    refine ⟨k1, ⟨e, xs, ?_⟩, k3⟩
    rcases h2 with h2 | h2
    · cases v <;> simp [SV.isTup] at h2; simp [SV.on] at hq
    · have hv := hangOn_spec hq
      simp only [keptV, Bool.and_eq_true, hv] at h2
      cases q with
      | slot t =>
        have : t ∈ ds := by simpa using h2.2
        simp only [St.at, Ck.keepB]
        rw [look_pickS, if_pos this]
        exact k2
      | part t i => exact absurd rfl (k3 t i)
      | cell o i =>
        have : o ∈ os := by simpa using h2.2
        simp only [St.at, Ck.keepB]
        rw [look_pickH, if_pos this]
        exact k2
  · obtain ⟨h1, h2⟩ := hat p v hp
    obtain ⟨y, hy⟩ := h.np p v o h1 ho
    refine ⟨y, ?_⟩
    rcases h2 with h2 | h2
    · cases v <;> simp [SV.isTup] at h2; simp [SV.pts] at ho
    · simp only [keptV, Bool.and_eq_true, List.all_eq_true] at h2
      have : o ∈ os := by simpa using h2.1 o (ptsL_spec ho)
      simp only [Ck.keepB]
      rw [look_pickH, if_pos this]
      exact hy
  · obtain ⟨k1, y, hy⟩ := h.ob o b hb
    refine ⟨k1, y, ?_⟩
    simp only [Ck.keepB]
    rw [look_pickH, if_pos (hob o b hb)]
    exact hy
theorem Rel.keepB {R : Option Nat} (h : Rel P O0 w0 F s E tmps w) (h0 : ∀ o, o < lim R → O0.ob o = none) (ds os : List Nat) (hc : keptB R ds os s = true) : Rel P O0 w0 F (Ck.keepB ds os s) E tmps w := by
  simp only [keptB, Bool.and_eq_true] at hc
  obtain ⟨⟨hcs, hch⟩, hcb⟩ := hc
  refine h.keepG ds os hcs hch (fun o b hb => ?_)
  obtain ⟨_, y, hy⟩ := h.ob o b hb
  rcases bigIn_spec hcb o y hy with h1 | h1
  · rw [h0 o h1] at hb; cases hb
  · exact h1
end
section
variable {P : Program} {R : Option Nat} {Φ : Exit → Cx → St → Prop} {k : List It} {C : Cx} {s : St}
theorem AW.keepB {e : Exit} {s' : St} (ds os : List Nat) (hc : keptB R ds os s = true) (hs : Ck.keepB ds os s = s') (h : AW P R Φ e k C s') : AW P R Φ e k C s :=
  AW.weak (fun B a w ha => by
    obtain ⟨hd, E, hE⟩ := ha
    exact ⟨B, hd, E, by rw [← hs]; exact hE.keepB hd.2.1 ds os hc⟩) h

/-- A loop over states of one shape: S tells the state, J what holds, μ sinks; only these slots and objects are kept from round to round. -/
theorem AW.loopS {α : Type} {c : Code} (S : α → St) (J : α → Prop) (μ : α → Nat) (ds os : List Nat) (a0 : α) (h0 : J a0)
    (round : ∀ a, J a → ∀ K : Cx → St → Prop, (∀ a' s', keptB R ds os s' = true → Ck.keepB ds os s' = S a' → J a' → μ a' < μ a → K C s') → AW P R Φ .normal (.code c :: .stop K :: k) C (S a)) (hc : keptB R ds os s = true := by simp only [go_sem, ↓reduceIte]) (hs : Ck.keepB ds os s = S a0 := by simp only [go_sem, ↓reduceIte] <;> rfl) : AW P R Φ .normal (.code (.loop c) :: k) C s := by
  refine AW.keepB ds os hc hs ?_
  refine AW.loop (n := μ a0) (fun n s => ∃ a, n = μ a ∧ J a ∧ s = S a) ⟨a0, rfl, h0, rfl⟩ ?_
  rintro n s ⟨a, rfl, hJ, rfl⟩
  intro B x w ha
  have := round a hJ (fun C' s' => C' = C ∧ keptB R ds os s' = true ∧ ∃ a', J a' ∧ μ a' < μ a ∧ Ck.keepB ds os s' = S a') (fun a' s' h1 h2 h3 h4 => ⟨rfl, h1, a', h3, h4, h2⟩) B x w ha
  simp only [den] at this ⊢
  refine wpIn_mono this (fun e x w hq => ?_)
  cases e <;> simp only [den] at hq ⊢
  · obtain ⟨C', s', B', ⟨rfl, hk, a', hJ', hlt, hs'⟩, hd, E, hE⟩ := hq
    exact ⟨C', S a', B', ⟨rfl, μ a', hlt, a', rfl, hJ', rfl⟩, hd, E, by rw [← hs']; exact hE.keepB hd.2.1 ds os hk⟩
  all_goals exact hq
/-- A scope with one label that is jumped back to, in states of one shape. -/
theorem AW.scopeS {α : Type} {c rest : Code} (l : Nat) (S : α → St) (J : α → Prop) (μ : α → Nat) (ds os : List Nat) (hf : findLabel c l = some rest)
    (first : ∀ K : Cx → St → Prop, (∀ a' s', keptB R ds os s' = true → Ck.keepB ds os s' = S a' → J a' → K C s') → AW P R Φ .normal (.code c :: .inS l K :: k) C s)
    (pass : ∀ a, J a → ∀ K : Cx → St → Prop, (∀ a' s', keptB R ds os s' = true → Ck.keepB ds os s' = S a' → J a' → μ a' < μ a → K C s') → AW P R Φ .normal (.code rest :: .inS l K :: k) C (S a)) : AW P R Φ .normal (.code (.scope c) :: k) C s := by
  refine AW.scopeC l (fun n C' s' => C' = C ∧ keptB R ds os s' = true ∧ ∃ a, n = μ a ∧ J a ∧ Ck.keepB ds os s' = S a) hf
    (first _ (fun a' s' h1 h2 h3 => ⟨μ a', rfl, h1, a', rfl, h3, h2⟩)) ?_
  rintro n C' s' ⟨rfl, h1, a, rfl, hJ, h2⟩
  refine AW.keepB ds os h1 h2 ?_
  exact pass a hJ _ (fun a' s'' h1 h2 h3 h4 => ⟨μ a', h4, rfl, h1, a', rfl, h3, h2⟩)
theorem AW.leap {α : Type} {S : α → St} {J : α → Prop} {μ : α → Nat} {ds os : List Nat} {K : Cx → St → Prop} {l : Nat} {a : α} (hK : ∀ a' s', keptB R ds os s' = true → Ck.keepB ds os s' = S a' → J a' → μ a' < μ a → K C s') (a' : α) (hJ : J a') (hlt : μ a' < μ a)
    (hc : keptB R ds os s = true := by simp only [go_sem, ↓reduceIte]) (hs : Ck.keepB ds os s = S a' := by simp only [go_sem, ↓reduceIte] <;> rfl) : AW P R Φ (.goto l) (.inS l K :: k) C s := AW.jump (hK a' s hc hs hJ hlt)
theorem AW.leap0 {α : Type} {S : α → St} {J : α → Prop} {ds os : List Nat} {K : Cx → St → Prop} {l : Nat} (hK : ∀ a' s', keptB R ds os s' = true → Ck.keepB ds os s' = S a' → J a' → K C s') (a' : α) (hJ : J a')
    (hc : keptB R ds os s = true := by simp only [go_sem, ↓reduceIte]) (hs : Ck.keepB ds os s = S a' := by simp only [go_sem, ↓reduceIte] <;> rfl) : AW P R Φ (.goto l) (.inS l K :: k) C s := AW.jump (hK a' s hc hs hJ)
/-- Ways that meet again, in a state of one shape. -/
theorem AW.joinS {α : Type} {c : Code} (S : α → St) (J : α → Prop) (ds os : List Nat)
    (h : ∀ K : Cx → St → Prop, (∀ a' s', keptB R ds os s' = true → Ck.keepB ds os s' = S a' → J a' → K C s') → AW P R Φ .normal (.code c :: .stop K :: k) C s)
    (hk : ∀ a, J a → AW P R Φ .normal k C (S a)) : AW P R Φ .normal (.code c :: k) C s := by
  refine AW.join (fun C' s' => C' = C ∧ keptB R ds os s' = true ∧ ∃ a', J a' ∧ Ck.keepB ds os s' = S a') (h _ (fun a' s' h1 h2 h3 => ⟨rfl, h1, a', h3, h2⟩)) ?_
  rintro C' s' ⟨rfl, h1, a', h3, h2⟩
  exact AW.keepB ds os h1 h2 (hk a' h3)
/-- Again. -/
theorem AW.again {α : Type} {S : α → St} {J : α → Prop} {μ : α → Nat} {ds os : List Nat} {K : Cx → St → Prop} {a : α} (hK : ∀ a' s', keptB R ds os s' = true → Ck.keepB ds os s' = S a' → J a' → μ a' < μ a → K C s') (a' : α) (hJ : J a') (hlt : μ a' < μ a)
    (hc : keptB R ds os s = true := by simp only [go_sem, ↓reduceIte]) (hs : Ck.keepB ds os s = S a' := by simp only [go_sem, ↓reduceIte] <;> rfl) : AW P R Φ .normal (.stop K :: k) C s := AW.stop (hK a' s hc hs hJ hlt)
theorem AW.meet {α : Type} {S : α → St} {J : α → Prop} {ds os : List Nat} {K : Cx → St → Prop} (hK : ∀ a' s', keptB R ds os s' = true → Ck.keepB ds os s' = S a' → J a' → K C s') (a' : α) (hJ : J a')
    (hc : keptB R ds os s = true := by simp only [go_sem, ↓reduceIte]) (hs : Ck.keepB ds os s = S a' := by simp only [go_sem, ↓reduceIte] <;> rfl) : AW P R Φ .normal (.stop K :: k) C s := AW.stop (hK a' s hc hs hJ)
end
def callO (svs : Option (List SV)) : Option SV → Option (FuncId × List SV)
  | some (.fn f caps) => (match svs with
    | some vs => some (f, vs ++ caps)
    | none => none)
  | _ => none
def callOp (s : St) : Op → Option (FuncId × List SV)
  | .call c => (match c.callee with
    | .value fx => callO (evs s c.args.toList) (ev s fx)
    | _ => none)
  | _ => none
def HM (s : St) (ρ : Nat → Nat) : List (Nat × HO) → Prop
  | [] => True
  | (o, y) :: r => look (ρ o) s.hp = some (y.ren ρ) ∧ HM s ρ r
def nodupB : List Nat → Bool
  | [] => true
  | a :: r => !r.contains a && nodupB r
def inL (ns : List Nat) (v : SV) : Bool := (ptsL v).all fun o => ns.contains o
def cellsIn (ns : List Nat) : List (Nat × HO) → Bool
  | [] => true
  | (_, .cells _ cs) :: r => cs.all (inL ns) && cellsIn ns r
  | _ :: r => cellsIn ns r
def offP (ns : List Nat) : Place → Bool
  | .cell o _ => !ns.contains o
  | _ => true
def offM (ns : List Nat) : Option Place → Bool
  | some p => offP ns p
  | none => true
def neM (p : Place) : Option Place → Bool
  | some q => decide (q ≠ p)
  | none => true
def okB (ρ : Nat → Nat) (H : List (Nat × HO)) (args : List SV) (L : List Place) (m : Option Place) : Bool :=
  nodupB ((namesOf H).map ρ) && cellsIn (namesOf H) H && args.all (inL (namesOf H)) && L.all (fun p => neM p m && offP ((namesOf H).map ρ) p) && offM ((namesOf H).map ρ) m

theorem HM_spec {s : St} {ρ : Nat → Nat} : ∀ {H : List (Nat × HO)}, HM s ρ H → ∀ o y, look o H = some y → look (ρ o) s.hp = some (y.ren ρ)
  | [], _, o, y, h => by simp [look] at h
  | (k, v) :: r, hm, o, y, h => by
    simp only [look] at h
    split at h
    · rename_i e; subst e; cases h; exact hm.1
    · exact HM_spec hm.2 o y h
theorem nodupB_inj {ρ : Nat → Nat} : ∀ {l : List Nat}, nodupB (l.map ρ) = true → l.Nodup ∧ ∀ a ∈ l, ∀ b ∈ l, ρ a = ρ b → a = b
  | [], _ => ⟨List.nodup_nil, fun a h => by cases h⟩
  | a :: r, h => by
    simp only [List.map_cons, nodupB, Bool.and_eq_true, Bool.not_eq_true', List.contains_eq_mem, decide_eq_false_iff_not] at h
    obtain ⟨h0, h3⟩ := h
    obtain ⟨h1, h2⟩ := nodupB_inj h3
    refine ⟨List.nodup_cons.2 ⟨fun hm => h0 (List.mem_map.2 ⟨a, hm, rfl⟩), h1⟩, fun x hx y hy hxy => ?_⟩
    rcases List.mem_cons.1 hx with hx | hx <;> rcases List.mem_cons.1 hy with hy | hy
    · rw [hx, hy]
    · rw [hx] at hxy; exact absurd (List.mem_map.2 ⟨y, hy, hxy.symm⟩) h0
    · rw [hy] at hxy; exact absurd (List.mem_map.2 ⟨x, hx, hxy⟩) h0
    · exact h2 x hx y hy hxy
theorem inL_spec {H : List (Nat × HO)} {v : SV} (h : inL (namesOf H) v = true) {o : Nat} (ho : v.pts o = true) : ∃ z, look o H = some z := by
  have := List.all_eq_true.1 h o (ptsL_spec ho)
  exact look_some_of_mem (by simpa using this)
theorem cellsIn_spec {ns : List Nat} : ∀ {H : List (Nat × HO)}, cellsIn ns H = true → ∀ o y, look o H = some y → ∀ c ∈ y.list, inL ns c = true
  | [], _, o, y, h => by simp [look] at h
  | (k, v) :: r, hb, o, y, h => by
    simp only [look] at h
    split at h
    · rename_i e; subst e; cases h
      cases v with
      | cells e cs =>
        simp only [cellsIn, Bool.and_eq_true, List.all_eq_true] at hb
        exact hb.1
      | mp es => intro c hc; simp [HO.list] at hc
    · refine cellsIn_spec (H := r) ?_ o y h
      cases v <;> simp only [cellsIn, Bool.and_eq_true] at hb
      · exact hb.2
      · exact hb
theorem offP_spec {ns : List Nat} {p : Place} (h : offP ns p = true) {o i : Nat} (ho : o ∈ ns) : p ≠ .cell o i := by
  rintro rfl
  simp [offP] at h
  exact h ho
theorem names_of_look {H : List (Nat × HO)} {o : Nat} {y : HO} (h : look o H = some y) : o ∈ namesOf H := List.mem_map.2 ⟨_, look_mem h, rfl⟩

theorem CallOK.ofB {s : St} {ρ : Nat → Nat} {H : List (Nat × HO)} {args : List SV} {L : List Place} {m : Option Place} (hM : HM s ρ H) (hB : okB ρ H args L m = true) : CallOK s ρ H args L m := by
  simp only [okB, Bool.and_eq_true, List.all_eq_true] at hB
  obtain ⟨⟨⟨⟨h1, h2⟩, h3⟩, h4⟩, h5⟩ := hB
  obtain ⟨k1, k2⟩ := nodupB_inj h1
  refine ⟨HM_spec hM, fun o o' y y' hy hy' he => k2 o (names_of_look hy) o' (names_of_look hy') he, fun o y c o' hy hc ho => inL_spec (cellsIn_spec h2 o y hy c hc) ho, fun c hc o ho => inL_spec (h3 c hc) ho, fun p hp => ⟨?_, fun o y i hy => offP_spec (h4 p hp).2 (List.mem_map.2 ⟨o, names_of_look hy, rfl⟩)⟩, fun p hm o y i hy => ?_⟩
  · have := (h4 p hp).1
    cases m with
    | none => simp
    | some q => simp only [neM, decide_eq_true_eq] at this; exact fun h => this (Option.some.inj h)
  · subst hm
    exact offP_spec h5 (List.mem_map.2 ⟨o, names_of_look hy, rfl⟩)

def freshO (s : St) (ρ : Nat → Nat) (H : List (Nat × HO)) : List (Nat × HO) → Bool
  | [] => true
  | (o, _) :: r => (match look o H with
    | some _ => true
    | none => (match look (ρ o) s.hp with | none => true | some _ => false)) && freshO s ρ H r
theorem freshO_spec {s : St} {ρ : Nat → Nat} {H : List (Nat × HO)} : ∀ {H' : List (Nat × HO)}, freshO s ρ H H' = true → ∀ o ∈ namesOf H', look o H = none → look (ρ o) s.hp = none
  | [], _, o, h, _ => by cases h
  | (k, v) :: r, hb, o, h, hn => by
    simp only [freshO, Bool.and_eq_true] at hb
    simp only [namesOf, List.map_cons, List.mem_cons] at h
    rcases h with rfl | h
    · have h1 := hb.1
      rw [hn] at h1
      simp only at h1
      split at h1
      · assumption
      · cases h1
    · exact freshO_spec hb.2 o h hn
def nilL : List Place → Bool
  | [] => true
  | _ => false
/-- What is asked of what a call comes back with. -/
def okA (s : St) (ρ : Nat → Nat) (H : List (Nat × HO)) (L : List Place) (rs : List SV) (H' : List (Nat × HO)) : Bool :=
  rs.all resOK && nodupB ((namesOf H').map ρ) && freshO s ρ H H' && (nilL L || (rs.all SV.clo && H'.all (fun y => y.2.clo)))
/-- The state behind a call. -/
def behind (s : St) (ρ : Nat → Nat) (m : Option Place) (H : List (Nat × HO)) (d : Nat) (rs : List SV) (H' : List (Nat × HO)) : St :=
  afterCall ρ d rs ⟨s.n, (handOver s ρ m H).sl, updHp ρ H' (handOver s ρ m H).hp⟩

section
variable {P : Program} {R : Option Nat} {Φ : Exit → Cx → St → Prop} {k : List It} {C : Cx} {s : St}
theorem AW.callX {all : Array Oper} {o : Oper} {r : List Oper} {f : FuncId} {svs : List SV} {H : List (Nat × HO)} {args : List SV} {L : List Place} {m : Option Place} {Ψ : List SV → List (Nat × HO) → Prop} {d : Nat} (ρ : Nat → Nat)
    (hg : o.guard = none) (hd : o.dst = some d) (hc : callOp s o.op = some (f, svs)) (hF : Fn P f H args Ψ) (hP : Pass P s ρ svs args L m) (hM : HM s ρ H) (hB : okB ρ H args L m = true)
    (hk : ∀ rs H', Ψ rs H' → okA s ρ H L rs H' = true ∧ AW P R Φ .normal (.ops all r :: k) C (behind s ρ m H d rs H')) :
    AW P R Φ .normal (.ops all (o :: r) :: k) C s := by
  cases ho : o.op with
  | call c =>
    rw [ho] at hc
    simp only [callOp] at hc
    split at hc
    · rename_i fx hcal
      unfold callO at hc
      split at hc
      · rename_i g caps hfx
        split at hc
        · rename_i vs hvs
          cases hc
          refine AW.call hg ho hd hcal hfx hvs hP (.ofB hM hB) hF (fun rs H' hΨ => ?_)
          obtain ⟨h1, h2⟩ := hk rs H' hΨ
          simp only [okA, Bool.and_eq_true, Bool.or_eq_true] at h1
          obtain ⟨⟨⟨a1, a2⟩, a3⟩, a4⟩ := h1
          obtain ⟨b1, b2⟩ := nodupB_inj a2
          refine ⟨a1, b1, b2, freshO_spec a3, a4.imp (fun h => ?_) (fun h => h), h2⟩
          cases L with
          | nil => rfl
          | cons p r => cases h
        · cases hc
      · cases hc
    · cases hc
  | _ => rw [ho] at hc; simp [callOp] at hc

/-- A call that comes back in one way. -/
theorem AW.callE {all : Array Oper} {o : Oper} {r : List Oper} {f : FuncId} {svs : List SV} {H H' : List (Nat × HO)} {args rs : List SV} {L : List Place} {m : Option Place} {d : Nat} {s' : St} (ρ : Nat → Nat)
    (hF : Fn P f H args (fun rs' h => rs' = rs ∧ h = H')) (hP : Pass P s ρ svs args L m) (h : AW P R Φ .normal (.ops all r :: k) C s') (hg : o.guard = none := by rfl) (hd : o.dst = some d := by rfl) (hc : callOp s o.op = some (f, svs) := by simp only [go_sem, ↓reduceIte] <;> rfl) (hM : HM s ρ H := by simp only [go_sem, ↓reduceIte]) (hB : okB ρ H args L m = true := by simp only [go_sem, ↓reduceIte])
    (hA : okA s ρ H L rs H' = true := by simp only [go_sem, ↓reduceIte]) (hs : behind s ρ m H d rs H' = s' := by simp only [go_sem, ↓reduceIte] <;> rfl) :
    AW P R Φ .normal (.ops all (o :: r) :: k) C s := AW.callX ρ hg hd hc hF hP hM hB (fun rs' h' ⟨e1, e2⟩ => by subst e1; subst e2; exact ⟨hA, by rw [hs]; exact h⟩)

def retO (P : Program) (s : St) (t : TypeId) : Option SV → Option SV
  | some (.ptr o off) => aload (tsh P t) s (.ptr o off)
  | _ => none
def retsV (P : Program) (s : St) : List ResultVar → Option (List SV)
  | [] => some []
  | .tmp t :: r => (match ev s (.tmp t), retsV P s r with | some v, some vs => some (v :: vs) | _, _ => none)
  | .cell b t :: r => (match retO P s t (ev s (.tmp b)), retsV P s r with | some v, some vs => some (v :: vs) | _, _ => none)
theorem retsV_spec : ∀ {l : List ResultVar} {svs : List SV}, retsV P s l = some svs → Rets P s l svs
  | [], svs, h => by cases h; exact .nil
  | .tmp t :: r, svs, h => by
    simp only [retsV] at h
    split at h
    · rename_i v vs h1 h2
      cases h
      exact .tmp h1 (retsV_spec h2)
    · cases h
  | .cell b t :: r, svs, h => by
    simp only [retsV] at h
    split at h
    · rename_i v vs h1 h2
      cases h
      unfold retO at h1
      split at h1
      · rename_i o off h3
        exact .cell h3 h1 (retsV_spec h2)
      · cases h1
    · cases h
def allIn (H H' : List (Nat × HO)) : Bool := H.all fun y => match look y.1 H' with | some _ => true | none => false
theorem AW.fin {res : List ResultVar} {H H' : List (Nat × HO)} {Ψ : List SV → List (Nat × HO) → Prop} {e : Exit} {svs rs : List SV} {L : List Place} {m : Option Place} (he : e = .normal ∨ e = .ret) (hv : retsV P s res = some svs) (hP : Pass P s id svs rs L m) (hM : HM s id H') (hB : okB id H' rs L m = true)
    (hn : allIn H H' = true) (hΨ : Ψ rs H') : AW P R (Ends P res H Ψ C) e [] C s :=
  AW.nil ⟨rfl, he, svs, rs, H', L, m, retsV_spec hv, hP, .ofB hM hB, (fun o y hy => by
    have := List.all_eq_true.1 hn (o, y) (look_mem hy)
    simp only at this
    split at this
    · rename_i z hz; exact ⟨z, hz⟩
    · cases this), hΨ⟩
/-- The end of a body that comes back in one way. -/
theorem AW.finE {res : List ResultVar} {H H' : List (Nat × HO)} {e : Exit} {svs rs rs' : List SV} {L : List Place} {m : Option Place} (hP : Pass P s id svs rs' L m) (hr : rs' = rs) (he : e = .normal ∨ e = .ret := by first | exact .inl rfl | exact .inr rfl) (hv : retsV P s res = some svs := by simp only [go_sem, ↓reduceIte] <;> rfl) (hM : HM s id H' := by simp only [go_sem, ↓reduceIte]; try trivial) (hB : okB id H' rs L m = true := by simp only [go_sem, ↓reduceIte])
    (hn : allIn H H' = true := by simp only [go_sem, ↓reduceIte]) : AW P R (Ends P res H (fun r h => r = rs ∧ h = H') C) e [] C s := by
  subst hr
  exact AW.fin he hv hP hM hB hn ⟨rfl, rfl⟩
end
end Go.Ck

set_option linter.unusedVariables false
namespace Go.Ck
attribute [go_sem] List.replicate_zero List.replicate_succ List.singleton_append astep reads putO orElse aeff aval ev look ofConst zslots put clear setSlot SV.on evs evo lenT intO alen cont abinS abin pvO aindexAddr indexT aload raO subP PV.cells
  kill killL setObj setAt del St.at transfer storeCell putCells storeAgg storeO storeElem storeE astore newObj partCells fillParts mkAgg allPV fillElems elemsO elemsOf appendO appendX aappend TK.isSrc TK.isBool TK.isPtr eqSV aun convT aconv aggO cellO elemO ownO objO eaO afieldAddr afield optInt sliceV sliceB sliceN aslice freezeO thaw freezeA freeze setCells plainCells allPlain setElem minI maxI strO bstrO PV.one SV.simple numsOf mlook keyEq
  callOp callO behind afterCall handOver killOs killO killOL SV.onO giveUp updHp putHp namesOf SV.ren SV.ren1 HO.ren putTupS
  retO retsV Ck.keepB pickS pickH keptB keptS keptH keptV bigIn lim ptsL hangOn tupL
  List.map_cons List.map_nil List.all_cons List.all_nil List.append_nil List.nil_append List.cons_append List.getElem?_cons_zero List.getElem?_cons_succ List.getElem?_nil List.set_cons_zero List.set_cons_succ List.set_nil List.length_cons List.length_nil List.take_zero List.drop_zero List.take_succ_cons List.drop_succ_cons List.take_nil List.drop_nil
  Nat.reduceAdd Nat.reduceSub Nat.reduceMul Nat.reduceEqDiff Nat.reduceLT Nat.reduceLeDiff Nat.reduceBEq Nat.reduceBNe reduceCtorEq Bool.false_eq_true Bool.and_true Bool.true_and Bool.or_true Bool.true_or Bool.false_or Bool.or_false Bool.and_false Bool.false_and Bool.not_true Bool.not_false
  Nat.succ_ne_self Nat.one_ne_zero Nat.zero_add Nat.add_zero Nat.zero_le Nat.le_refl Nat.zero_mul Nat.one_mul Nat.mul_one and_self and_true true_and and_false false_and not_false_eq_true not_true_eq_false ne_eq decide_true decide_false if_true if_false Place.slot.injEq Place.part.injEq Place.cell.injEq
  Int.toNat_natCast Int.reduceLT Int.reduceLE Int.reduceToNat Int.reduceAdd Int.reduceSub Int.reduceNeg Int.reduceEq Int.reduceBEq Int.reduceBNe Option.getD_some Option.getD_none Array.toList List.contains_nil List.filterMap_nil List.filterMap_cons List.contains_cons
end Go.Ck

set_option linter.unusedVariables false
namespace Go.Ck
open Go.RowKit Go.MapKept
section
variable {P : Program} {R : Option Nat} {Φ : Exit → Cx → St → Prop} {k : List It} {C : Cx} {s : St}
/-- An operation that reads and hands back a value. -/
theorem AW.opSV {all : Array Oper} {o : Oper} {r : List Oper} {d : Nat} {v : SV} (hg : o.guard = none) (hd : o.dst = some d) (hp : ∀ c, o.op ≠ .defer c) (hgood : Good s v)
    (h : ∀ (B : Bs) (E : Env) (a : Act) (w : World), GOK P (fun b => E.om b ∨ B.F b) w → Rel P B.O B.w B.F s E a.tmps w → ∃ x, (execOp a.eval o).run P w = .ok (.value x) w ∧ RS P (fun b => E.om b ∨ B.F b) E w v x)
    (hk : AW P R Φ .normal (.ops all r :: k) C (put d v s)) : AW P R Φ .normal (.ops all (o :: r) :: k) C s := fun B a w ha => by
  simp only [den]
  refine wpListIn_want (by simp [Region.wanted, hg]) hp ?_
  obtain ⟨hdf, E, hE⟩ := ha
  obtain ⟨x, h1, h2⟩ := h B E a w (Rel.gok hdf.2.2 hE) hE
  rw [h1, Oper.uponIn_value, hd]
  exact hk B _ w ⟨by rw [put_defers]; exact hdf, E, hE.putGood d hgood h2⟩

theorem ev_int {B : Bs} {E : Env} {a : Act} {w : World} (hE : Rel P B.O B.w B.F s E a.tmps w) {x : Operand} {kk : IntKind} {n : Int} (h : ev s x = some (.pv (.int kk n))) : a.eval x = .int kk n := by
  have := ev_rs hE h
  generalize a.eval x = z at this
  cases this with | pv _ _ h => cases h; rfl
theorem ev_str {B : Bs} {E : Env} {a : Act} {w : World} (hE : Rel P B.O B.w B.F s E a.tmps w) {x : Operand} {l : List UInt8} (h : ev s x = some (.pv (.str l))) : a.eval x = .string ⟨l.toArray⟩ := by
  have := ev_rs hE h
  generalize a.eval x = z at this
  cases this with | pv _ _ h => cases h; rfl

/-- A string's byte. -/
theorem AW.indexStr {all : Array Oper} {o : Oper} {r : List Oper} {d t : Nat} {x i : Operand} {l : List UInt8} {n : Nat} {kk : IntKind} (v : UInt8) (hx : ev s x = some (.pv (.str l))) (hi : ev s i = some (.pv (.int kk (n : Int)))) (hv : l[n]? = some v) 
    (hk : AW P R Φ .normal (.ops all r :: k) C (put d (.pv (.int .u8 v.toNat)) s)) (hg : o.guard = none := by rfl) (hd : o.dst = some d := by rfl) (ho : o.op = .index t x i := by rfl) (hT : P.underlying t = some .string := by kernel_rfl) : AW P R Φ .normal (.ops all (o :: r) :: k) C s := by
  refine AW.opSV hg hd (fun c hc => by rw [ho] at hc; cases hc) (.pv _ _) (fun B E a w _ hE => ⟨.int .u8 v.toNat, ?_, .pv _ _ (.int _ _)⟩) hk
  have e1 := ev_str hE hx
  have e2 := ev_int hE hi
  have h0 : (⟨l.toArray⟩ : ByteArray)[n]? = some v := by
    obtain ⟨hlt, h2⟩ := List.getElem?_eq_some_iff.1 hv
    have h3 : n < (⟨l.toArray⟩ : ByteArray).size := by simpa [ByteArray.size] using hlt
    rw [getElem?_pos (⟨l.toArray⟩ : ByteArray) n h3]
    exact congrArg some h2
  simp [execOp, ho, e1, e2, Instr.index, asIntOf, Result.andThen, run_underlying hT, h0]

/-- How a map's entries are read. -/
def MRO (A : Nat → Prop) (w : World) (es : List (PV × PV)) (ms : List MapEntry) : Prop := ms.length = es.length ∧ ∀ (i : Nat) (kv : PV × PV) (m : MapEntry), es[i]? = some kv → ms[i]? = some m → RO A w kv.1 m.key ∧ RO A w kv.2 m.val
theorem MRO.cons {A : Nat → Prop} {w : World} {kv : PV × PV} {es : List (PV × PV)} {ms : List MapEntry} (h : MRO A w (kv :: es) ms) : ∃ m r, ms = m :: r ∧ RO A w kv.1 m.key ∧ RO A w kv.2 m.val ∧ MRO A w es r := by
  cases ms with
  | nil => simp [MRO] at h
  | cons m r =>
    obtain ⟨h1, h2⟩ := h
    obtain ⟨k1, k2⟩ := h2 0 kv m rfl rfl
    exact ⟨m, r, rfl, k1, k2, by simpa using h1, fun i kv' m' hk hm => h2 (i + 1) kv' m' (by simpa using hk) (by simpa using hm)⟩
theorem MRO.mk {A : Nat → Prop} {w : World} {kv : PV × PV} {es : List (PV × PV)} {m : MapEntry} {r : List MapEntry} (h1 : RO A w kv.1 m.key) (h2 : RO A w kv.2 m.val) (h : MRO A w es r) : MRO A w (kv :: es) (m :: r) := by
  refine ⟨by simp [h.1], fun i kv' m' hk hm => ?_⟩
  cases i with
  | zero => simp at hk hm; subst hk; subst hm; exact ⟨h1, h2⟩
  | succ i => exact h.2 i kv' m' (by simpa using hk) (by simpa using hm)

end
end Go.Ck

set_option linter.unusedVariables false
namespace Go.Ck
open Go.RowKit Go.MapKept
section
variable {P : Program} {O0 : Base} {F : Nat → Prop} {w0 w : World} {s : St} {E : Env} {tmps : Array Value}
end
section
variable {P : Program} {R : Option Nat} {Φ : Exit → Cx → St → Prop} {k : List It} {C : Cx} {s : St}
end
end Go.Ck

set_option linter.unusedVariables false
namespace Go.Ck
open Go.RowKit
/-- Whatever it comes to, it comes to in whatever world, and leaves the world alone. -/
def WI (P : Program) {α : Type} (m : Sem α) : Prop := ∀ w x w1, m.run P w = .ok x w1 → w1 = w ∧ ∀ w', m.run P w' = .ok x w'
section
variable {P : Program}
theorem WI.pure {α : Type} (x : α) : WI P (Pure.pure x : Sem α) := fun w y w1 h => by
  simp only [Sem.run_pure, Result.ok.injEq] at h
  obtain ⟨rfl, rfl⟩ := h
  exact ⟨rfl, fun w' => Sem.run_pure ..⟩
theorem WI.bind {α β : Type} {m : Sem α} {f : α → Sem β} (h : WI P m) (k : ∀ x, (∃ w, m.run P w = .ok x w) → WI P (f x)) : WI P (m >>= f) := fun w y w1 hr => by
  rw [Sem.run_bind] at hr
  cases hm : m.run P w with
  | ok x w2 =>
    rw [hm] at hr
    obtain ⟨rfl, h2⟩ := h w x w2 hm
    simp only [Result.andThen_ok] at hr
    obtain ⟨rfl, h4⟩ := k x ⟨_, hm⟩ _ y w1 hr
    exact ⟨rfl, fun w' => by rw [Sem.run_bind, h2 w', Result.andThen_ok, h4 w']⟩
  | halt x w2 => rw [hm] at hr; simp [Result.andThen] at hr
theorem WI.never {α : Type} {m : Sem α} (h : ∀ w x w1, m.run P w ≠ .ok x w1) : WI P m := fun w x w1 hr => absurd hr (h w x w1)
theorem WI.stuck {α : Type} (s : String) : WI P (Go.stuck s : Sem α) := WI.never (fun w x w1 h => by simp [Go.stuck] at h)
theorem WI.unsupported {α : Type} (s : Unsupported) : WI P (Go.unsupported s : Sem α) := WI.never (fun w x w1 h => by simp [Go.unsupported] at h)
theorem andThen_ne_ok {α β : Type} {r : Result α} {f : α → World → Result β} (h : ∀ x w y w1, f x w ≠ .ok y w1) (y : β) (w1 : World) : r.andThen f ≠ .ok y w1 := by
  cases r with
  | ok x w => exact h x w y w1
  | halt c w => simp [Result.andThen]
theorem runtimePanic_ne {α : Type} (s : RuntimeError) (w : World) (x : α) (w1 : World) : (Go.runtimePanic s : Sem α).run P w ≠ .ok x w1 := by
  unfold Go.runtimePanic
  cases s <;> simp [goPanic, program]
  all_goals (refine andThen_ne_ok ?_ _ _; intro x w y w1; first | (intro h; cases h; done) | (refine andThen_ne_ok ?_ _ _; intro x w y w1 h; cases h))
theorem WI.runtimePanic {α : Type} (s : RuntimeError) : WI P (Go.runtimePanic s : Sem α) := WI.never (runtimePanic_ne s)
theorem WI.boundsPanic {α : Type} (k : IntKind) (x y : Int) (c : BoundsCode) : WI P (Go.boundsPanic k x y c : Sem α) := WI.never (fun w z w1 => by
  unfold Go.boundsPanic
  dsimp only
  split
  · rw [Sem.run_bind]
    exact andThen_ne_ok (fun x w y w1 => runtimePanic_ne _ _ _ _) _ _
  · rw [Sem.run_bind]
    exact andThen_ne_ok (fun x w y w1 => runtimePanic_ne _ _ _ _) _ _)
theorem WI.underlying (t : TypeId) : WI P (Go.underlying t) := fun w x w1 h => by
  cases hu : P.underlying t with
  | some d => rw [run_underlying hu] at h; cases h; exact ⟨rfl, fun w' => by rw [run_underlying hu]⟩
  | none => simp [Go.underlying, program, Sem.run, hu, Go.stuck] at h
theorem WI.sizeOf (t : TypeId) : WI P (Go.sizeOf t) := fun w x w1 h => by
  cases hu : P.info? t with
  | some d => rw [run_sizeOf w hu] at h; cases h; exact ⟨rfl, fun w' => run_sizeOf w' hu⟩
  | none => simp [Go.sizeOf, typeInfo, program, Sem.run, hu, Go.stuck] at h
theorem WI.asIntOf (v : Value) : WI P (Go.asIntOf v) := by
  unfold Go.asIntOf
  split <;> first | exact .pure _ | exact .unsupported _ | exact .stuck _
theorem WI.sureAddr (v : Value) : WI P (Instr.sureAddr v) := by
  unfold Instr.sureAddr
  split <;> first | exact .pure _ | exact .stuck _
theorem WI.asAddr (v : Value) : WI P (Go.asAddr v) := by
  unfold Go.asAddr
  split <;> first | exact .pure _ | exact .stuck _ | exact .runtimePanic _
theorem WI.ite {α : Type} {c : Prop} [Decidable c] {x y : Sem α} (h : WI P x) (k : WI P y) : WI P (if c then x else y) := by split <;> assumption
theorem WI.sliceBound (x : Value) (y : Nat) (c : BoundsCode) : WI P (Instr.sliceBound x y c) := by
  unfold Instr.sliceBound
  refine .bind (.asIntOf _) (fun p _ => ?_)
  exact .ite (.pure _) (.boundsPanic _ _ _ _)
theorem WI.sliceBounds (b : Bool) (n c : Nat) (l h m : Option Value) : WI P (Instr.sliceBounds b n c l h m) := by
  unfold Instr.sliceBounds
  dsimp only
  cases l <;> cases h <;> cases m <;> dsimp only
  all_goals repeat' (first | exact WI.pure _ | exact WI.stuck _ | exact WI.sliceBound _ _ _ | refine WI.bind ?_ (fun _ _ => ?_))
theorem WI.slice (t : TypeId) (x : Value) (l h m : Option Value) : WI P (Instr.slice t x l h m) := by
  unfold Instr.slice
  dsimp only
  repeat' (first | exact WI.pure _ | exact WI.stuck _ | exact WI.sliceBounds _ _ _ _ _ _ | exact WI.sizeOf _ | exact WI.asAddr _ | exact WI.underlying _ | refine WI.bind ?_ (fun _ _ => ?_) | split)
theorem WI.sliceAt (t : TypeId) (x : Value) (l h m : Option Value) : WI P (Instr.sliceAt t x l h m) := by
  unfold Instr.sliceAt
  dsimp only
  repeat' (first | exact WI.pure _ | exact WI.stuck _ | exact WI.sliceBounds _ _ _ _ _ _ | exact WI.sizeOf _ | exact WI.sureAddr _ | exact WI.underlying _ | exact WI.slice _ _ _ _ _ | refine WI.bind ?_ (fun _ _ => ?_) | split)
theorem WI.indexAt (t : TypeId) (x i : Value) : WI P (Instr.indexAt t x i) := by
  unfold Instr.indexAt
  dsimp only
  repeat' (first | exact WI.pure _ | exact WI.stuck _ | exact WI.unsupported _ | exact WI.asIntOf _ | exact WI.sizeOf _ | exact WI.sureAddr _ | exact WI.underlying _ | exact WI.boundsPanic _ _ _ _ | refine WI.bind ?_ (fun _ _ => ?_) | split)
theorem WI.extract (x : Value) (i : Nat) : WI P (Instr.extract x i) := by
  unfold Instr.extract
  split
  · split <;> first | exact .pure _ | exact .stuck _
  · exact .stuck _
theorem WI.binInt (op : BinOp) (t : TypeId) (k k' : IntKind) (x y : Int) : WI P (binOp op t (.int k x) (.int k' y)) := by
  unfold binOp
  cases op <;> dsimp only [Op.shift, Op.intArith, Op.intDiv, Op.intBits, Op.intCmp]
  all_goals repeat' (first | exact WI.pure _ | exact WI.stuck _ | exact WI.runtimePanic _ | split)
theorem WI.eqGuardInt (op : BinOp) (t : TypeId) (x y : Operand) (k k' : IntKind) (a b : Int) : WI P (eqGuard op t x y (.int k a) (.int k' b)) := by
  unfold eqGuard
  cases op <;> exact .pure _
theorem WI.unInt (op : UnOp) (k : IntKind) (x : Int) : WI P (Op.unary op (.int k x)) := by
  unfold Op.unary
  cases op <;> first | exact .pure _ | exact .stuck _
theorem WI.unBool (op : UnOp) (x : Bool) : WI P (Op.unary op (.bool x)) := by
  unfold Op.unary
  cases op <;> first | exact .pure _ | exact .stuck _
theorem WI.convInt {t u : TypeId} {k j i : IntKind} {n : Int} (ht : P.underlying t = some (.int k)) (hu : P.underlying u = some (.int j)) : WI P (convert t u (.int i n)) := by
  refine fun w x w1 h => ?_
  simp [convert, run_underlying ht, run_underlying hu, Result.andThen, Conv.intToInt] at h ⊢
  obtain ⟨rfl, rfl⟩ := h
  exact ⟨rfl, rfl⟩
theorem WI.lenSlice {t e ty : TypeId} {a : Option Addr} {n c : Nat} (ht : P.underlying t = some (.slice e)) : WI P (Builtin.len_ #[t] ty #[.slice a n c]) := by
  refine fun w x w1 h => ?_
  simp [Builtin.len_, run_underlying ht, Result.andThen] at h ⊢
  obtain ⟨rfl, rfl⟩ := h
  exact ⟨rfl, rfl⟩
end
end Go.Ck

set_option linter.unusedVariables false
namespace Go.Ck
open Go.RowKit
def isIntO : Option SV → Bool
  | some (.pv (.int _ _)) => true
  | _ => false
def isBoolO : Option SV → Bool
  | some (.pv (.bool _)) => true
  | _ => false
def TK.isInt : TK → Bool
  | .int _ => true
  | _ => false
def TK.isSl : TK → Bool
  | .sl _ _ _ _ => true
  | _ => false
/-- Needs it no world? -/
def wiOp (P : Program) (s : St) : Op → Bool
  | .move _ => true
  | .assign _ => true
  | .binOp _ _ x y _ => isIntO (ev s x) && isIntO (ev s y)
  | .unOp _ _ x => isIntO (ev s x) || isBoolO (ev s x)
  | .convert t u x => (tk P t).isInt && (tk P u).isInt && isIntO (ev s x)
  | .fieldAddr _ _ _ => true
  | .indexAddr _ _ _ => true
  | .slice _ _ _ _ _ => true
  | .extract _ _ => true
  | .call c => (match c.callee with
    | .builtin .len => (match c.argTypes.toList with | [t] => (tk P t).isSl | _ => false)
    | _ => false)
  | _ => false

section
variable {P : Program} {O0 : Base} {F : Nat → Prop} {w0 w : World} {s : St} {E : Env} {a : Act}
theorem isIntO_spec (h : Rel P O0 w0 F s E a.tmps w) {x : Operand} (hx : isIntO (ev s x) = true) : ∃ k n, a.eval x = .int k n := by
  unfold isIntO at hx
  split at hx
  · rename_i k n he
    have := ev_rs h he
    generalize a.eval x = z at this
    cases this with | pv _ _ h => cases h; exact ⟨k, n, rfl⟩
  · cases hx
theorem isBoolO_spec (h : Rel P O0 w0 F s E a.tmps w) {x : Operand} (hx : isBoolO (ev s x) = true) : ∃ n, a.eval x = .bool n := by
  unfold isBoolO at hx
  split at hx
  · rename_i n he
    have := ev_rs h he
    generalize a.eval x = z at this
    cases this with | pv _ _ h => cases h; exact ⟨n, rfl⟩
  · cases hx

theorem wi_field (h : Rel P O0 w0 F s E a.tmps w) {t f : Nat} {x : Operand} {v r : SV} (hx : ev s x = some v) (hv : afieldAddr P t v f = some r) : WI P (Instr.fieldAt t (a.eval x) f) := by
  have hr := ev_rs h hx
  generalize a.eval x = z at hr
  unfold afieldAddr at hv
  split at hv
  · rename_i fs hT
    obtain ⟨fl, hu, rfl⟩ := tk_st hT
    split at hv
    · rename_i fo fz fa hf
      rw [List.getElem?_map] at hf
      cases hfl : fl.toList[f]? with
      | none => rw [hfl] at hf; simp at hf
      | some fd =>
        rw [hfl] at hf
        simp only [Option.map_some, Option.some.injEq] at hf
        have hfl' : fl[f]? = some fd := by simpa using hfl
        split at hv
        · simp at hv
        · rename_i hz
          obtain ⟨rfl, hts⟩ := fieldRow_parts hf hz
          obtain ⟨d, i, hud, hi, his, _⟩ := tsh_parts (w := w) hts
          have hgo : ∀ b o w', (Instr.fieldAt t (.pointer (some ⟨b, o, none⟩)) f).run P w' = .ok (.pointer (some ⟨b, o + fd.offset, none⟩)) w' := by
            intro b o w'
            have : P.cellsOf fd.type ≠ 0 := by simp [Program.cellsOf, hi, his, hz]
            simp [Instr.fieldAt, run_underlying hu, hfl', Instr.sureAddr, fieldPlace, run_sizeOf w' hi, this, add_mk]
          have fin : ∀ b o, WI P (Instr.fieldAt t (.pointer (some ⟨b, o, none⟩)) f) := fun b o w1 y w2 hr => by
            rw [hgo] at hr; cases hr; exact ⟨rfl, fun w' => hgo b o w'⟩
          cases hr <;> simp at hv <;> exact fin _ _
    · simp at hv
  · simp at hv

theorem wi_spec (h : Rel P O0 w0 F s E a.tmps w) {o : Oper} {d : Nat} {s' : St} (hd : o.dst = some d) (hw : wiOp P s o.op = true) (hs : astep P o s = some s') : WI P (execOp a.eval o) ∧ ∀ w, o.about P w a.eval = none := by
  have hab : (∀ c, o.op ≠ .call c) → ∀ w, o.about P w a.eval = none := fun hn w => by
    unfold Oper.about
    cases ho : o.op <;> first | rfl | exact absurd ho (hn _)
  have hV : ∀ {m : Sem Value}, WI P m → WI P (do pure (Next.value (← m)) : Sem Next) := fun hm => .bind hm (fun _ _ => .pure _)
  unfold astep at hs
  rw [hd] at hs
  simp only at hs
  cases ho : o.op <;> rw [ho] at hw hs <;> simp only [wiOp, Bool.false_eq_true] at hw
  case move x => exact ⟨by simp only [execOp, ho]; exact .pure _, hab (by simp [ho])⟩
  case assign x => exact ⟨by simp only [execOp, ho]; exact .pure _, hab (by simp [ho])⟩
  case binOp op t x y u =>
    simp only [Bool.and_eq_true] at hw
    obtain ⟨k1, n1, e1⟩ := isIntO_spec h hw.1
    obtain ⟨k2, n2, e2⟩ := isIntO_spec h hw.2
    refine ⟨?_, hab (by simp [ho])⟩
    simp only [execOp, ho, e1, e2]
    exact hV (.bind (.eqGuardInt _ _ _ _ _ _ _ _) (fun _ _ => .binInt _ _ _ _ _ _))
  case unOp op t x =>
    simp only [Bool.or_eq_true] at hw
    refine ⟨?_, hab (by simp [ho])⟩
    simp only [execOp, ho]
    rcases hw with hw | hw
    · obtain ⟨k1, n1, e1⟩ := isIntO_spec h hw
      rw [e1]; exact hV (.unInt _ _ _)
    · obtain ⟨n1, e1⟩ := isBoolO_spec h hw
      rw [e1]; exact hV (.unBool _ _)
  case convert t u x =>
    simp only [Bool.and_eq_true] at hw
    obtain ⟨k1, n1, e1⟩ := isIntO_spec h hw.2
    refine ⟨?_, hab (by simp [ho])⟩
    simp only [execOp, ho, e1]
    have ht : ∃ k, tk P t = .int k := by
      have := hw.1.1
      cases hk : tk P t <;> rw [hk] at this <;> simp [TK.isInt] at this
      exact ⟨_, rfl⟩
    have hu : ∃ k, tk P u = .int k := by
      have := hw.1.2
      cases hk : tk P u <;> rw [hk] at this <;> simp [TK.isInt] at this
      exact ⟨_, rfl⟩
    obtain ⟨k, ht⟩ := ht
    obtain ⟨j, hu⟩ := hu
    exact hV (.convInt (tk_int ht) (tk_int hu))
  case fieldAddr t x f =>
    refine ⟨?_, hab (by simp [ho])⟩
    simp only [reads, if_true, putO, aval] at hs
    simp only [execOp, ho]
    cases hx : ev s x with
    | none => rw [hx] at hs; simp at hs
    | some v =>
      rw [hx] at hs
      simp only at hs
      cases hr : afieldAddr P t v f with
      | none => rw [hr] at hs; simp at hs
      | some r => exact hV (wi_field h hx hr)
  case indexAddr t x i => exact ⟨by simp only [execOp, ho]; exact hV (.indexAt _ _ _), hab (by simp [ho])⟩
  case slice t x l hh m => exact ⟨by simp only [execOp, ho]; exact hV (.sliceAt _ _ _ _ _), hab (by simp [ho])⟩
  case extract x i => exact ⟨by simp only [execOp, ho]; exact hV (.extract _ _), hab (by simp [ho])⟩
  case call c =>
    split at hw
    · rename_i hc
      split at hw
      · rename_i t ht
        have hT : ∃ e ez eb ea, tk P t = .sl e ez eb ea := by
          cases hk : tk P t <;> rw [hk] at hw <;> simp [TK.isSl] at hw
          exact ⟨_, _, _, _, rfl⟩
        obtain ⟨e, ez, eb, ea, hT⟩ := hT
        obtain ⟨hu, _, _⟩ := tk_sl hT
        have hrd : reads (.call c) = true := by simp [reads, hc]
        rw [hrd] at hs
        simp only [if_true] at hs
        cases hv : aval P s o.type (.call c) with
        | none => rw [hv] at hs; simp [putO] at hs
        | some v =>
          obtain ⟨x, h1, h2⟩ := aval_put (o := o) (d := d) h (by rw [ho]; exact hv)
          have hrun : ∀ w', (execOp a.eval o).run P w' = (do pure (Next.value (← Builtin.len_ c.argTypes o.type (c.args.map a.eval))) : Sem Next).run P w' := by
            intro w'
            simp [execOp, ho, resolve, hc, invoke, builtin]
          have hat : c.argTypes = #[t] := by apply Array.ext'; simpa using ht
          refine ⟨fun w1 y w2 hr => ?_, fun w => by unfold Oper.about; rw [ho]; simp [resolve, hc, Target.leads]⟩
          rw [hrun] at hr
          have hwi : WI P (Builtin.len_ c.argTypes o.type (c.args.map a.eval)) := by
            rw [hat]
            cases hargs : c.args.toList with
            | nil =>
              have : c.args = #[] := by apply Array.ext'; simpa using hargs
              simp [aval, hc, ht, evs, this] at hv
            | cons x0 r =>
              cases r with
              | cons y r => 
                simp only [aval, hc, ht, hargs] at hv
                have hl : ∀ l vs, evs s l = some vs → vs.length = l.length := by
                  intro l
                  induction l with
                  | nil => intro vs h; simp [evs] at h; subst h; rfl
                  | cons x l ih =>
                    intro vs h
                    simp only [evs] at h
                    split at h
                    · rename_i u us _ h2
                      cases h
                      simp [ih us h2]
                    · cases h
                split at hv
                · rename_i u t1 he ht1
                  have := hl _ _ he
                  simp at this
                · cases hv
              | nil =>
                have ha : c.args = #[x0] := by apply Array.ext'; simpa using hargs
                simp only [aval, hc, ht, hargs, evs] at hv
                cases hx : ev s x0 with
                | none => rw [hx] at hv; simp at hv
                | some v0 =>
                  rw [hx] at hv
                  simp only at hv
                  have hr0 := ev_rs h hx
                  rw [ha]
                  simp only [List.map_toArray, List.map_cons, List.map_nil]
                  generalize a.eval x0 = z at hr0
                  rw [hT] at hv
                  have : ∃ b n cc, z = .slice b n cc := by
                    cases hr0 <;> simp [lenT, alen, cont, intO] at hv
                    case pv p hp =>
                      cases hp <;> simp [alen, cont] at hv
                      exact ⟨_, _, _, rfl⟩
                    case nils => exact ⟨_, _, _, rfl⟩
                    case al p =>
                      cases hpp : s.at p with
                      | none => simp [hpp] at hv
                      | some u =>
                        cases u <;> simp [hpp] at hv
                        obtain ⟨cs, h5, _⟩ := h.own hpp
                        rcases h5.2 with ⟨e1, _⟩ | ⟨g, cap, cur, e1, _⟩
                        · exact ⟨_, _, _, e1⟩
                        · exact ⟨_, _, _, e1⟩
                    case vw p e' off n hvw =>
                      obtain ⟨_, b, cap, rfl, _⟩ := hvw
                      exact ⟨_, _, _, rfl⟩
                  obtain ⟨b, n, cc, rfl⟩ := this
                  exact .lenSlice hu
          obtain ⟨q1, q2⟩ := hV hwi w1 y w2 hr
          exact ⟨q1, fun w' => by rw [hrun]; exact q2 w'⟩
      · cases hw
    · cases hw
end
end Go.Ck

set_option linter.unusedVariables false
namespace Go.Ck
open Go.RowKit
def noEnter : Op → Bool
  | .call c => (match c.callee with | .builtin _ => true | _ => false)
  | _ => true
def takeOne (P : Program) (all : Array Oper) (i : Nat) (s : St) : Option St := match all[i]? with
  | some o => (match o.dst with
    | some d => (match o.guard with
      | none => if wiOp P s o.op = true then astep P o s else none
      | some (j, want) => (match aguard all s j want with
        | some b => if b = want then (if wiOp P s o.op = true then astep P o s else none) else if noEnter o.op = true then some (put d (.tup []) s) else none
        | none => none))
    | none => none)
  | none => none
def takes (P : Program) (all : Array Oper) : List Nat → St → Option St
  | [], s => some s
  | i :: r, s => (match takeOne P all i s with
    | some s' => takes P all r s'
    | none => none)
def takeChk (all : Array Oper) : List Nat → Array Bool → Option (Array Bool)
  | [], l => some l
  | i :: r, l => if (Region.ready .any all l).contains i && Region.free .any all l i then takeChk all r (l.setIfInBounds i true) else none
def seqChk (all : Array Oper) : List Nat → Array Bool → Option (Array Bool)
  | [], l => some l
  | i :: r, l => if Region.ready .any all l = [i] then seqChk all r (l.setIfInBounds i true) else none
def pickOps (all : Array Oper) : List Nat → List Oper
  | [] => []
  | i :: r => (match all[i]? with
    | some o => o :: pickOps all r
    | none => pickOps all r)

section
variable {P : Program} {R : Option Nat} {Φ : Exit → Cx → St → Prop} {k : List It} {C : Cx} {s : St} {all : Array Oper}
theorem den_panic (hΦ : ∀ c C s, ¬ Φ (.panic c) C s) : ∀ (k : List It) (c : List PanicEntry) (a : Act) (w : World), ¬ den P R Φ k (.panic c) a w
  | [], c, a, w, h => by obtain ⟨C, s, B, h1, _⟩ := h; exact hΦ c C s h1
  | i :: k, c, a, w, h => by cases i <;> exact den_panic hΦ k c a w h

theorem AW.any0 {id : Nat} (hm : P.follows .mixedOrders = true) (h : AW P R Φ .normal (.any all all.size (Array.replicate all.size false) :: k) C s) : AW P R Φ .normal (.code (.region id all true) :: k) C s := fun B a w ha =>
  wpIn_region_any hm (h B a _ ha.drew)

theorem AW.anyDone {fuel : Nat} {listed : Array Bool} (hr : Region.ready .any all listed = []) (h : AW P R Φ .normal k C s) : AW P R Φ .normal (.any all fuel listed :: k) C s := fun B a w ha =>
  wpAnyIn_done hr (h B a w ha) fuel

theorem take_sound {i fuel : Nat} {listed : Array Bool} {s' : St} (hsel : Region.noSelect all = true) (hr : (Region.ready .any all listed).contains i = true) (hf : Region.free .any all listed i = true) (hs : takeOne P all i s = some s') (hΦ : ∀ c C s, ¬ Φ (.panic c) C s)
    (h : AW P none Φ .normal (.any all fuel (listed.setIfInBounds i true) :: k) C s') : AW P none Φ .normal (.any all (fuel + 1) listed :: k) C s := fun B a w ha => by
  obtain ⟨hd0, E, hE⟩ := ha
  unfold takeOne at hs
  split at hs
  · rename_i o ho
    split at hs
    · rename_i d hd
      have hw : (∀ j want, o.guard = some (j, want) → aguard all s j want = some want) → wiOp P s o.op = true → astep P o s = some s' → den P none Φ (.any all (fuel + 1) listed :: k) .normal a w := by
        intro hg h1 h2
        obtain ⟨hwi, hab⟩ := wi_spec hE hd h1 h2
        obtain ⟨r', x, w', E', k1, k2, k3⟩ := astep_sound hE h2
        obtain ⟨rfl, k4⟩ := hwi w r' w' k1
        have hwant : Region.wanted o (yielded all a.tmps) = true := by
          cases hgd : o.guard with
          | none => simp [Region.wanted, hgd]
          | some g =>
            obtain ⟨j, want⟩ := g
            simp [Region.wanted, hgd, aguard_sound hE (hg j want hgd)]
        rcases k2 with rfl | ⟨rfl, rfl⟩
        · exact wpAnyIn_take (F := fence none) rfl ho hsel hf hr (fun c a w hq => absurd hq (den_panic hΦ k c _ w)) ⟨.inl ⟨hwant, k4⟩, hab⟩ (h B _ _ ⟨by rw [put_defers]; exact hd0, E', k3⟩)
        · -- an operation without a value has no slot
          exfalso
          unfold astep at h2
          rw [hd] at h2
          simp only at h2
          split at h2
          · unfold putO at h2
            split at h2
            · rename_i v hv
              obtain ⟨y, q1, _⟩ := aval_put (o := o) (d := d) hE hv
              rw [q1] at k1; cases k1
            · cases h2
          · unfold orElse at h2
            split at h2
            · rename_i s2 hv
              obtain ⟨y, w2, E2, q1, _⟩ := aeff_sound (o := o) hE hv
              rw [q1] at k1; cases k1
            · split at h2
              · rename_i v hv
                obtain ⟨y, q1, _⟩ := aval_put (o := o) (d := d) hE hv
                rw [q1] at k1; cases k1
              · cases h2
      split at hs
      · rename_i hg
        split at hs
        · rename_i h1
          exact hw (fun j want hgd => by rw [hg] at hgd; cases hgd) h1 hs
        · cases hs
      · rename_i j want hg
        split at hs
        · rename_i b hb
          split at hs
          · rename_i hbw
            subst hbw
            split at hs
            · rename_i h1
              exact hw (fun j' want' hgd => by rw [hg] at hgd; cases hgd; exact hb) h1 hs
            · cases hs
          · rename_i hbw
            split at hs
            case isFalse => cases hs
            rename_i hne
            cases hs
            have hnw : Region.wanted o (yielded all a.tmps) = false := by simp [Region.wanted, hg, aguard_sound hE hb, hbw]
            have hy : Yields P all o undef a := .inr ⟨hnw, rfl⟩
            refine wpAnyIn_first (F := fence none) (v := undef) (oi := o) rfl ho (Region.noSelect_spec hsel) (fun c a w hq => absurd hq (den_panic hΦ k c _ w)) fuel listed a w (Region.free_spec ho hf) (by simpa using hr) ⟨hy, fun w => ?_⟩ ?_
            · unfold Oper.about
              split
              · rename_i c hc
                rw [hc] at hne
                simp only [noEnter] at hne
                split at hne
                · rename_i bb hbb
                  simp [resolve, hbb, Target.leads]
                · cases hne
              · rfl
            · have := h B _ w (AS.unwanted (d := d) ⟨hd0, E, hE⟩)
              rw [hd]; exact this
        · cases hs
    · cases hs
  · cases hs

/-- What needs no world is done first. -/
theorem AW.takes (pl : List Nat) {fuel : Nat} {listed listed' : Array Bool} {s' : St} (h : AW P none Φ .normal (.any all fuel listed' :: k) C s') (hs : Ck.takes P all pl s = some s') (hΦ : ∀ c C s, ¬ Φ (.panic c) C s)
    (hc : takeChk all pl listed = some listed') (hsel : Region.noSelect all = true) : AW P none Φ .normal (.any all (fuel + pl.length) listed :: k) C s := by
  induction pl generalizing listed s with
  | nil =>
    simp only [Ck.takes] at hs
    simp only [takeChk] at hc
    cases hs; cases hc
    exact h
  | cons i r ih =>
    simp only [Ck.takes] at hs
    simp only [takeChk] at hc
    split at hs
    · rename_i s1 h1
      split at hc
      · rename_i hch
        simp only [Bool.and_eq_true] at hch
        rw [List.length_cons, ← Nat.add_assoc]
        exact take_sound hsel hch.1 hch.2 h1 hΦ (ih hs hc)
      · cases hc
    · cases hs

theorem wpIn_congrQ {o : Oper} {a : Act} {w : World} {K K' : Act → World → Prop} {Q Q' : Exit → Act → World → Prop} (hQ : ∀ e a w, e ≠ .normal → Q e a w → Q' e a w) (hK : ∀ a w, K a w → K' a w) (h : o.wpIn (fence R) 0 P a w K Q) : o.wpIn (fence R) 0 P a w K' Q' := by
  refine ⟨h.1, ?_⟩
  have hh := h.2
  generalize (o.semAt (fence R).round a.eval).run P w = r at *
  have hend : ∀ (e : Ending) (w'' : World), (match e with
      | .returned v => K (a.put o.dst v) w''
      | .panicked chain => Q (.panic chain) a w''
      | .outgrown => LetsOut Q : Prop) → (match e with
      | .returned v => K' (a.put o.dst v) w''
      | .panicked chain => Q' (.panic chain) a w''
      | .outgrown => LetsOut Q' : Prop) := by
    intro e w'' he
    cases e with
    | returned v => exact hK _ _ he
    | panicked c => exact hQ _ _ _ (by simp) he
    | outgrown =>
      obtain ⟨a0, w0, hq⟩ := he
      exact ⟨a0, w0, hQ _ _ _ (by simp) hq⟩
  cases r with
  | ok x w' =>
    cases x <;> simp only [Oper.uponIn] at hh ⊢ <;>
      first
        | exact hK _ _ hh
        | exact ⟨hh.1, CallsIn.mono hh.2 (fun e w h => by have := hend e w; cases e <;> exact this h)⟩
        | exact ⟨hh.1, RowsIn.mono hh.2 (fun _ _ he => hK _ _ he)⟩
        | exact ⟨hh.1, RoundIn.mono hh.2 (fun e w h => by have := hend e w; cases e <;> exact this h)⟩
  | halt x w' => cases x <;> simp only [Oper.uponIn] at hh ⊢ <;> exact hQ _ _ _ (by simp) hh

theorem den_any {fuel : Nat} {listed : Array Bool} {e : Exit} {a : Act} {w : World} (he : e ≠ .normal) (h : den P R Φ (.any all fuel listed :: k) e a w) : den P R Φ k e a w := by
  cases e <;> first | exact absurd rfl he | exact h

/-- The next operation, whichever it is. -/
theorem AW.branch {rs : List Nat} {fuel : Nat} {listed : Array Bool} (h : ∀ i ∈ rs, AW P R Φ .normal (.ops all (pickOps all [i]) :: .any all fuel (listed.setIfInBounds i true) :: k) C s) (hr : Region.ready .any all listed = rs) (hne : rs ≠ []) :
    AW P R Φ .normal (.any all (fuel + 1) listed :: k) C s := fun B a w ha => by
  refine wpAnyIn_all hr hne (fun i hi => ?_)
  have := h i hi B a w ha
  have hir : i ∈ Region.ready .any all listed := by rw [hr]; exact hi
  obtain ⟨_, o, ho, _⟩ := mem_ready.1 hir
  simp only [pickOps, ho, den, wpListIn] at this
  unfold wpOpIn
  simp only [ho]
  split
  · rename_i hw
    rw [if_pos hw] at this
    exact wpIn_congrQ (fun e a w he hq => den_any he hq) (fun a w hq => hq) this
  · rename_i hw
    rw [if_neg hw] at this
    exact this

theorem seq_sound (pl : List Nat) {fuel : Nat} {listed listed' : Array Bool} (hc : seqChk all pl listed = some listed') : ∀ {a : Act} {w : World}, wpListIn (fence R) 0 P all (den P R Φ (.any all fuel listed' :: k)) (pickOps all pl) a w → wpAnyIn (fence R) 0 P .any all (den P R Φ k) (fuel + pl.length) listed a w := by
  induction pl generalizing listed with
  | nil =>
    intro a w h
    simp only [seqChk] at hc
    cases hc
    exact h
  | cons i r ih =>
    intro a w h
    simp only [seqChk] at hc
    split at hc
    · rename_i hr
      have hir : i ∈ Region.ready .any all listed := by rw [hr]; simp
      obtain ⟨_, o, ho, _⟩ := mem_ready.1 hir
      rw [List.length_cons, ← Nat.add_assoc]
      refine wpAnyIn_all hr (by simp) (fun j hj => ?_)
      have hj : j = i := by simpa using hj
      subst hj
      simp only [pickOps, ho, wpListIn] at h
      unfold wpOpIn
      simp only [ho]
      split
      · rename_i hw
        rw [if_pos hw] at h
        exact wpIn_congrQ (fun e a w he hq => den_any he hq) (fun a w hq => ih hc hq) h
      · rename_i hw
        rw [if_neg hw] at h
        exact ⟨h.1, ih hc h.2⟩
    · cases hc
/-- Operations whose order is told. -/
theorem AW.seqs (pl : List Nat) {fuel : Nat} {listed listed' : Array Bool} (h : AW P R Φ .normal (.ops all (pickOps all pl) :: .any all fuel listed' :: k) C s) (hc : seqChk all pl listed = some listed') : AW P R Φ .normal (.any all (fuel + pl.length) listed :: k) C s := fun B a w ha =>
  seq_sound pl hc (h B a w ha)
end
end Go.Ck
