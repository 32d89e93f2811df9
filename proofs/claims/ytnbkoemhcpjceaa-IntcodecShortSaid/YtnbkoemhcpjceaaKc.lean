/- What is proved here: parts of the proofs of this seat's statements (a verified evaluator for calls over pure values, its laws, and contracts of functions). No condition. -/
import Derived.Test.YtnbkoemhcpjceaaKb
import Derived.RangeFuncLeaves
import Derived.Laws.StructEq
import Derived.OpenShut
import Derived.ChangeArms
import Derived.ChangeBears
import Derived.Carry
import Derived.ChangeCalls
import Derived.Handed
import Derived.SizedLaws
import Derived.LaidMore
import Derived.MakeChecks
import Derived.ChangeSame
import Derived.LaidLaws
import Derived.ProofKit
import Derived.Stop.Joined
import Derived.Test.YtnbkoemhcpjceaaProg
import Derived.KernelRfl
set_option linter.all false
set_option linter.unusedVariables false
/-! Ranges over functions: the client's side. -/
namespace Go.Ck
open Go.RowKit

/-- Values that stay as they are, whatever a round does. -/
def stableV : SV → Bool
  | .pv _ | .nils | .ptr _ _ | .fn _ [] => true
  | _ => false
def stableL : List (Nat × SV) → Bool
  | [] => true
  | (_, v) :: r => stableV v && stableL r
theorem stableL_spec : ∀ {sl : List (Nat × SV)}, stableL sl = true → ∀ d v, look d sl = some v → stableV v = true
  | [], _, d, v, h => by simp [look] at h
  | (k, u) :: r, hs, d, v, h => by
    simp only [stableL, Bool.and_eq_true] at hs
    simp only [look] at h
    split at h
    · cases h; exact hs.1
    · exact stableL_spec hs.2 d v h

/-- The slots of a frame that a round leaves alone. -/
def SlOK (P : Program) (A : Nat → Prop) (E : Env) (w : World) (t : Array Value) (sl : List (Nat × SV)) : Prop := ∀ d v, look d sl = some v → ∃ x, t[d]? = some x ∧ RS P A E w v x

section
variable {P : Program} {O0 : Base} {F : Nat → Prop} {w0 w : World} {s : St} {E : Env} {tmps : Array Value}

theorem Rel.slOK {n : Nat} {sl : List (Nat × SV)} {hp : List (Nat × HO)} (h : Rel P O0 w0 F ⟨n, sl, hp⟩ E tmps w) (hs : stableL sl = true) : SlOK P (fun b => E.om b ∨ F b) E w tmps sl := fun d v hl => by
  obtain ⟨x, hx, hv⟩ := h.place (.slot d) v hl
  refine ⟨x, hx, ?_⟩
  have := stableL_spec hs d v hl
  cases v <;> simp [stableV] at this <;> exact hv

theorem SlOK.move {A A' : Nat → Prop} {E E' : Env} {w w' : World} {t : Array Value} {sl : List (Nat × SV)} (h : SlOK P A E w t sl) (hs : stableL sl = true) (hA : ∀ b, b < w.heap.size → ¬ A b → ¬ A' b ∧ w'.heap[b]? = w.heap[b]?)
    (ho : ∀ d v o, look d sl = some v → v.pts o = true → E'.obj o = E.obj o) : SlOK P A' E' w' t sl := fun d v hl => by
  obtain ⟨x, hx, hv⟩ := h d v hl
  refine ⟨x, hx, ?_⟩
  have hst := stableL_spec hs d v hl
  cases v <;> simp [stableV] at hst
  · cases hv with | pv _ _ hv => exact .pv _ _ (hv.mono hA)
  · cases hv; exact .nils
  · rename_i o off
    cases hv
    have := ho d _ o hl (by simp [SV.pts])
    rw [← this]; exact .ptr (E := E') o off
  · rename_i f caps
    cases hv with | fn _ _ vs hl2 h1 h2 =>
    cases caps with
    | nil => exact .fn _ [] vs hl2 h1 (by simp)
    | cons c r => simp at hst

/-- Another frame over the same objects. -/
theorem Rel.frame {t' : Array Value} {n' : Nat} {sl' : List (Nat × SV)} (h : Rel P O0 w0 F s E tmps w) (hs : stableL sl' = true) (hsl : SlOK P (fun b => E.om b ∨ F b) E w t' sl') (hn : n' = t'.size) (hpt : ∀ d v o, look d sl' = some v → v.pts o = true → ∃ y, look o s.hp = some y) :
    Rel P O0 w0 F ⟨n', sl', s.hp⟩ E t' w := by
  have hslot : ∀ d v, look d sl' = some v → stableV v = true := fun d v hl => stableL_spec hs d v hl
  have hcell : ∀ p v, (St.mk n' sl' s.hp).at p = some v → (∃ d, p = .slot d ∧ look d sl' = some v) ∨ ((∃ o i, p = .cell o i) ∧ s.at p = some v) := by
    intro p v hp
    cases p with
    | slot d => exact .inl ⟨d, rfl, hp⟩
    | part d i =>
      simp only [St.at] at hp
      split at hp
      · rename_i vs hvs
        have := hslot d _ hvs
        simp [stableV] at this
      · cases hp
    | cell o i => exact .inr ⟨⟨o, i, rfl⟩, hp⟩
  have hown : ∀ p e xs, (St.mk n' sl' s.hp).at p = some (.own e xs) → (∃ o i, p = .cell o i) ∧ s.at p = some (.own e xs) := by
    intro p e xs hp
    rcases hcell p _ hp with ⟨d, rfl, hl⟩ | h2
    · have := hslot d _ hl
      simp [stableV] at this
    · exact h2
  refine { place := ?_, obj := h.obj, size := hn, i1 := h.i1, i2 := fun p q e xs e' ys b hp hq => h.i2 p q e xs e' ys b (hown p e xs hp).2 (hown q e' ys hq).2, i3 := fun p e xs o y b hp => h.i3 p e xs o y b (hown p e xs hp).2, om_lt := h.om_lt, om0 := h.om0, na := ?_, np := ?_, gr := h.gr, flt := h.flt, ob := h.ob }
  · intro p v hp
    rcases hcell p v hp with ⟨d, rfl, hl⟩ | ⟨⟨o, i, rfl⟩, h2⟩
    · obtain ⟨x, hx, hv⟩ := hsl d v hl
      refine ⟨x, hx, ?_⟩
      have := hslot d v hl
      cases v <;> simp [stableV] at this <;> exact hv
    · exact h.place _ v h2
  · intro p v q hp hq
    rcases hcell p v hp with ⟨d, rfl, hl⟩ | ⟨⟨o, i, rfl⟩, h2⟩
    · have := hslot d v hl
      cases v <;> simp [stableV] at this <;> simp [SV.on] at hq
    · obtain ⟨⟨d, h3⟩, _⟩ := h.na _ v q h2 hq
      cases h3
  · intro p v o hp ho
    rcases hcell p v hp with ⟨d, rfl, hl⟩ | ⟨⟨o', i, rfl⟩, h2⟩
    · exact hpt d v o hl ho
    · exact h.np _ v o h2 ho
end

/-- What a round begins with: the parameters' slots. -/
def putParams : List Tmp → List PV → List (Nat × SV) → List (Nat × SV)
  | t :: ts, p :: ps, sl => putParams ts ps ((t, .pv p) :: sl)
  | _, _, sl => sl
theorem putParams_stable : ∀ (ts : List Tmp) (ps : List PV) (sl : List (Nat × SV)), stableL sl = true → stableL (putParams ts ps sl) = true
  | [], _, sl, h => by simpa [putParams] using h
  | t :: ts, [], sl, h => by simpa [putParams] using h
  | t :: ts, p :: ps, sl, h => putParams_stable ts ps _ (by simp [stableL, stableV, h])
theorem putParams_pts : ∀ (ts : List Tmp) (ps : List PV) (sl : List (Nat × SV)) (d : Nat) (v : SV) (o : Nat), look d (putParams ts ps sl) = some v → v.pts o = true → ∃ d', look d' sl = some v
  | [], _, sl, d, v, o, h, _ => ⟨d, by simpa [putParams] using h⟩
  | t :: ts, [], sl, d, v, o, h, _ => ⟨d, by simpa [putParams] using h⟩
  | t :: ts, p :: ps, sl, d, v, o, h, hp => by
    obtain ⟨d', h1⟩ := putParams_pts ts ps _ d v o h hp
    simp only [look] at h1
    split at h1
    · cases h1; simp [SV.pts] at hp
    · exact ⟨d', h1⟩
theorem putParams_ok {P : Program} {A : Nat → Prop} {E : Env} {w : World} : ∀ (ts : List Tmp) (ps : List PV) (vals : List Value) (t : Array Value) (sl : List (Nat × SV)), vals.length = ps.length → ps.length = ts.length → (∀ x ∈ ts, x < t.size) → SlOK P A E w t sl → (∀ (i : Nat) (p : PV) (x : Value), ps[i]? = some p → vals[i]? = some x → RO A w p x) →
    SlOK P A E w ((ts.zip vals).foldl (fun tmps q => tmps.setIfInBounds q.1 q.2) t) (putParams ts ps sl)
  | [], ps, vals, t, sl, _, _, _, h, _ => by simpa [putParams] using h
  | x :: ts, [], vals, t, sl, _, h2, _, h, _ => by simp at h2
  | x :: ts, p :: ps, [], t, sl, h1, _, _, h, _ => by simp at h1
  | x :: ts, p :: ps, v :: vals, t, sl, h1, h2, h3, h, hr => by
    simp only [List.zip_cons_cons, List.foldl_cons, putParams]
    refine putParams_ok ts ps vals _ _ (by simpa using h1) (by simpa using h2) (fun y hy => by simpa using h3 y (by simp [hy])) (fun d u hl => ?_) (fun i q y hq hy => hr (i + 1) q y (by simpa using hq) (by simpa using hy))
    simp only [look] at hl
    by_cases hd : x = d
    · subst hd
      rw [if_pos rfl] at hl
      cases hl
      exact ⟨v, by simp [h3 x (by simp)], .pv _ _ (hr 0 p v rfl rfl)⟩
    · rw [if_neg hd] at hl
      obtain ⟨y, hy, hv⟩ := h d u hl
      exact ⟨y, by rw [Array.getElem?_setIfInBounds_ne hd]; exact hy, hv⟩

/-- A mark among the deferred calls. -/
def markOf (D : Nat) : Deferred := { target := .collected D, args := #[] }
/-- Behind a range over a function: the block for the rounds' deferred calls is among the deferred calls, and empty. -/
def RF (C : Cx) : Cx := fun B d => ∃ B0 d0 D, C B0 d0 ∧ d = markOf D :: d0 ∧ (∀ b, B0.F b → B.F b) ∧ (∀ b, B0.F b → b < B0.w.heap.size) ∧ (∀ b, B.O.blk b → B0.O.blk b ∨ B0.w.heap.size ≤ b) ∧ Grow B0.O.blk B0.w B.w ∧
  (∀ o b, B0.O.ob o = some b → B.O.ob o = some b) ∧ ¬ B.O.blk D ∧ D < B.w.heap.size ∧ B0.w.heap.size ≤ D ∧ B.w.heap[D]? = some (.deferred (some [])) ∧ B.F D
end Go.Ck

set_option linter.unusedVariables false
namespace Go.Ck
open Go.RowKit

/-- How the client of an iterator sleeps while the iterator runs. -/
def CL (P : Program) (B0 : Bs) (n : Nat) (sl0 : List (Nat × SV)) (os : List Nat) (t : Array Value) (l D : Nat) (r : Loop) (hp : List (Nat × HO)) (B : Bs) : Prop :=
  ∃ Ec, Rel P ⟨Ec.om, obOf Ec hp⟩ B.w (fun b => B0.F b ∨ B.O.blk b ∨ b = l ∨ b = D) ⟨n, sl0, hp⟩ Ec t B.w ∧ (∀ b, Ec.om b → B.F b) ∧ (∀ b, B0.F b → B.F b) ∧ B.F l ∧ B.F D ∧ B.w.heap[D]? = some (.deferred (some [])) ∧ B.w.heap[l]? = some (.loop r) ∧
    (∀ b, Ec.om b → B0.O.blk b ∨ B0.w.heap.size ≤ b) ∧ (∀ b, B.O.blk b → (B0.O.blk b ∨ B0.w.heap.size ≤ b) ∧ ¬ B.F b) ∧ Grow B0.O.blk B0.w B.w ∧ (∀ o b, B0.O.ob o = some b → Ec.obj o = b ∧ ∃ y, look o hp = some y) ∧ (∀ o y, look o hp = some y → o ∈ os) ∧ D ≠ l ∧ B0.w.heap.size ≤ l ∧ B0.w.heap.size ≤ D

def jumpOf : Exit → Option Code
  | .ret => some .ret
  | .exit id => some (.exit id)
  | _ => none
def allNames (os : List Nat) (hp : List (Nat × HO)) : Bool := os.all fun o => match look o hp with | some _ => true | none => false

/-- One round of the client's. -/
def RoundI (P : Program) (n : Nat) (sl0 : List (Nat × SV)) (os : List Nat) (params : List Tmp) (assign body : Code) (I I' : List (Nat × HO) → Prop) (Xj : Code → List (Nat × HO) → Prop) (p : List PV) : Prop :=
  ∀ hp, I hp → ∀ (l : Nat) (C1 : Cx), AW P (some l) (fun e C' s' => C' = C1 ∧ e = .normal ∧ ∀ C2, AW P (some l) (fun e C' s'' => C' = C2 ∧ keptH [] os s''.hp os = true ∧ allNames os s''.hp = true ∧ ((e = .normal ∧ I' (pickH os s''.hp)) ∨ (∃ j, jumpOf e = some j ∧ Xj j (pickH os s''.hp)))) .normal [.code body] C2 s')
    .normal [.code assign] C1 ⟨n, putParams params p sl0, hp⟩

theorem putObj_grow {M : Nat → Prop} {w : World} {l : Nat} {o : Obj} (hM : M l) : Grow M w (w.putObj l o) := ⟨rfl, rfl, rfl, by simp [World.putObj], fun b hb hn => World.putObj_heap_other (fun h => hn (by rw [h]; exact hM))⟩

theorem obOf_some {E : Env} {hp : List (Nat × HO)} {o b : Nat} (h : obOf E hp o = some b) : E.obj o = b ∧ ∃ y, look o hp = some y := by
  unfold obOf at h
  split at h
  · rename_i y hy; cases h; exact ⟨rfl, y, hy⟩
  · cases h

section
variable {P : Program} {B0 : Bs} {n : Nat} {sl0 : List (Nat × SV)} {os : List Nat} {t : Array Value} {l D : Nat} {params : Array Tmp} {assign body : Code} {fn : FuncId}

/-- What a round comes to in the client's state. -/
theorem cl_after {r r' : Loop} {hp : List (Nat × HO)} {B : Bs} {M : Nat → Prop} {w w3 : World} {Ec E2 : Env} {s2 : St} {t2 : Array Value}
    (hcl : CL P B0 n sl0 os t l D r hp B) (hst : stableL sl0 = true) (hn : n = t.size)
    (hEc : Rel P ⟨Ec.om, obOf Ec hp⟩ w (fun b => B0.F b ∨ M b ∨ b = l ∨ b = D) ⟨n, sl0, hp⟩ Ec t w) (hEF : ∀ b, Ec.om b → B.F b) (hE0 : ∀ b, Ec.om b → B0.O.blk b ∨ B0.w.heap.size ≤ b) (hEob : ∀ o b, B0.O.ob o = some b → Ec.obj o = b ∧ ∃ y, look o hp = some y)
    (hM : ∀ b, M b → (B.O.blk b ∨ B.w.heap.size ≤ b) ∧ b < w.heap.size ∧ ¬ B.F b) (hBF : ∀ b, B.F b → b < B.w.heap.size) (hgw : Grow B.O.blk B.w w)
    (h2 : Rel P ⟨fun b => Ec.om b ∨ b = l, obOf Ec hp⟩ w (fun b => B0.F b ∨ M b ∨ b = l ∨ b = D) s2 E2 t2 w3) (hk : keptH [] os s2.hp os = true) (hall : allNames os s2.hp = true) (hl3 : ∃ r3, w3.heap[l]? = some (.loop r3)) :
    CL P B0 n sl0 os t l D r' (pickH os s2.hp) ⟨⟨M, fun _ => none⟩, w3.putObj l (.loop r'), fun b => E2.om b ∨ B.F b⟩ ∧ Grow B.F w (w3.putObj l (.loop r')) ∧ (∀ b, (E2.om b ∨ B.F b) → b < (w3.putObj l (.loop r')).heap.size) ∧ (∀ b, b < w.heap.size → (E2.om b ∨ B.F b) → B.F b) := by
  obtain ⟨E0, g1, g2, g3, g4, g5, g6, g7, g8, g9, g10, g11, g12, g13, g14, g15⟩ := hcl
  have hnames : ∀ o, o ∈ os → ∃ y, look o s2.hp = some y := by
    intro o ho
    have := List.all_eq_true.1 hall o ho
    split at this
    · rename_i y hy; exact ⟨y, hy⟩
    · cases this
  have hkeep := h2.keepG [] os (by simp [keptS]) hk (fun o b hb => by
    obtain ⟨_, y, hy⟩ := obOf_some hb
    exact g12 o y hy)
  have hom2 : ∀ b, E2.om b → Ec.om b ∨ w.heap.size ≤ b := fun b hb => by
    rcases h2.om0 b hb with (h3 | h3) | h3
    · exact .inl h3
    · exact absurd (.inr (.inr (.inl h3))) (h2.om_lt b hb).2
    · exact .inr h3
  -- the frame of the client
  have hsz : w.heap.size ≤ w3.heap.size := h2.gr.size
  have hobj : ∀ o y, look o hp = some y → E2.obj o = Ec.obj o := by
    intro o y hy
    exact (h2.ob o (Ec.obj o) (by simp [obOf, hy])).1
  have hsl := (hEc.slOK hst).move (A' := fun b => E2.om b ∨ (B0.F b ∨ M b ∨ b = l ∨ b = D)) (E' := E2) (w' := w3) hst (fun b hb hn => ⟨fun h1 => hn (h1.elim (fun h3 => (hom2 b h3).elim .inl (fun h4 => absurd hb (by omega))) .inr), h2.gr.block b hb (fun h1 => hn (h1.elim .inl (fun h3 => .inr (.inr (.inr (.inl h3))))))⟩) (fun d v o hl ho => by
    obtain ⟨y, hy⟩ := hEc.np (.slot d) v o hl ho
    exact hobj o y hy)
  have hfr := hkeep.frame (t' := t) (n' := n) hst hsl hn (fun d v o hl ho => by
    obtain ⟨y, hy⟩ := hEc.np (.slot d) v o hl ho
    have hos := g12 o y hy
    obtain ⟨z, hz⟩ := hnames o hos
    exact ⟨z, by simp only [Ck.keepB]; rw [look_pickH, if_pos hos]; exact hz⟩)
  obtain ⟨r3, hl3⟩ := hl3
  have hlt3 : l < w3.heap.size := (Array.getElem?_eq_some_iff.1 hl3).1
  have hsz4 : (w3.putObj l (.loop r')).heap.size = w3.heap.size := by simp [World.putObj]
  have hsleep := hfr.sleep (w' := w3.putObj l (.loop r')) (F' := fun b => B0.F b ∨ M b ∨ b = l ∨ b = D) (ob' := obOf E2 (pickH os s2.hp)) (putObj_grow (.inr (.inr (.inl rfl)))) (fun b hb => by rw [hsz4]; exact Nat.lt_of_lt_of_le (h2.flt b hb) hsz) (fun b _ hb => hb) (fun o b hb => obOf_some hb)
  have hBl : B.w.heap.size ≤ w.heap.size := hgw.size
  have hE2F : ∀ b, b < w.heap.size → E2.om b → B.F b := fun b hb h3 => (hom2 b h3).elim (fun h4 => hEF b h4) (fun h4 => absurd hb (by omega))
  have hw3l : ∀ b, b < w.heap.size → ¬ B.F b → w3.heap[b]? = w.heap[b]? := fun b hb hn => h2.gr.block b hb (fun h1 => hn (h1.elim (hEF b) (fun h3 => by rw [h3]; exact g4)))
  have hDl : D < w.heap.size := by have := hBF D g5; omega
  have hD3 : w3.heap[D]? = some (.deferred (some [])) := by
    have e1 : w3.heap[D]? = w.heap[D]? := h2.gr.block D hDl (fun h1 => h1.elim (fun h3 => (hEc.om_lt D h3).2 (.inr (.inr (.inr rfl)))) (fun h3 => g13 h3))
    have e2 : w.heap[D]? = B.w.heap[D]? := hgw.block D (hBF D g5) (fun h1 => (g9 D h1).2 g5)
    rw [e1, e2]; exact g6
  refine ⟨⟨E2, ?_, fun b hb => .inl hb, fun b hb => .inr (g3 b hb), .inr g4, .inr g5, ?_, ?_, ?_, ?_, ?_, ?_, ?_, g13, g14, g15⟩, ⟨?_, ?_, ?_, ?_, ?_⟩, ?_, ?_⟩
  · exact hsleep
  · rw [World.putObj_heap_other g13]; exact hD3
  · exact World.putObj_heap_same hlt3
  · intro b hb
    rcases hom2 b hb with h3 | h3
    · exact hE0 b h3
    · have := g10.size; exact .inr (by omega)
  · intro b hb
    obtain ⟨k1, k2, k3⟩ := hM b hb
    refine ⟨k1.elim (fun h3 => (g9 b h3).1) (fun h3 => .inr (by have := g10.size; omega)), ?_⟩
    rintro (h3 | h3)
    · exact (h2.om_lt b h3).2 (.inr (.inl hb))
    · exact k3 h3
  · -- the world has grown since the client began
    have e1 : Grow B0.O.blk B0.w w := g10.trans hgw (fun b hb => (g9 b hb).1)
    have e2 : Grow B0.O.blk B0.w w3 := e1.trans h2.gr (fun b hb => hb.elim (hE0 b) (fun h3 => by rw [h3]; exact .inr g14))
    refine e2.trans (M1 := fun b => b = l) (putObj_grow rfl) (fun b hb => ?_)
    rw [hb]; exact .inr g14
  · intro o b hb
    obtain ⟨k1, y, hy⟩ := hEob o b hb
    have hos := g12 o y hy
    obtain ⟨z, hz⟩ := hnames o hos
    exact ⟨by rw [hobj o y hy]; exact k1, z, by rw [look_pickH, if_pos hos]; exact hz⟩
  · intro o y hy
    rw [look_pickH] at hy
    split at hy
    · assumption
    · cases hy
  · exact h2.gr.os
  · exact h2.gr.tape
  · exact h2.gr.output
  · rw [hsz4]; exact hsz
  · intro b hb hn
    rw [World.putObj_heap_other (by rintro rfl; exact hn g4)]
    exact hw3l b hb hn
  · rintro b (hb | hb)
    · rw [hsz4]; exact (h2.om_lt b hb).1
    · rw [hsz4]; have := hBF b hb; omega
  · rintro b hb (h3 | h3)
    · exact hE2F b hb h3
    · exact h3
end
end Go.Ck

set_option linter.unusedVariables false
namespace Go.Ck
open Go.RowKit

theorem Grow.weaken {M M' : Nat → Prop} {w w' : World} (h : Grow M w w') (hM : ∀ b, M b → M' b) : Grow M' w w' := ⟨h.os, h.tape, h.output, h.size, fun b hb hn => h.block b hb (fun h1 => hn (hM b h1))⟩

theorem foldl_zip (t : Array Value) (params : Array Tmp) (vals : List Value) : ((params.zip vals.toArray).foldl (fun tmps (q : Tmp × Value) => tmps.setIfInBounds q.1 q.2) t) = (params.toList.zip vals).foldl (fun tmps q => tmps.setIfInBounds q.1 q.2) t := by
  rw [← Array.foldl_toList, Array.toList_zip]
theorem size_foldl (l : List (Tmp × Value)) (t : Array Value) : (l.foldl (fun tmps q => tmps.setIfInBounds q.1 q.2) t).size = t.size := by
  induction l generalizing t with
  | nil => rfl
  | cons q l ih => rw [List.foldl_cons, ih]; simp

section
variable {P : Program} {B0 : Bs} {n : Nat} {sl0 : List (Nat × SV)} {os : List Nat} {t : Array Value} {l D : Nat} {params : Array Tmp} {assign body : Code} {fn : FuncId} {I I' : List (Nat × HO) → Prop} {Xj : Code → List (Nat × HO) → Prop} {p : List PV}

def recOf (fn : FuncId) (t : Array Value) (params : Array Tmp) (assign body : Code) (D : Nat) (st : LoopState) (pend : Option Code) : Loop := { state := st, pending := pend, fn, tmps := t, params, assign, body, defers := D }

theorem round_ok (hst : stableL sl0 = true) (hn : n = t.size) (hR : RoundI P n sl0 os params.toList assign body I I' Xj p) (hpl : p.length = params.size) (hpn : ∀ x ∈ params.toList, x < n) (hG0 : GOK P (fun b => B0.O.blk b ∨ B0.F b) B0.w) :
    YieldOK P l (fun B => ∃ hp, I hp ∧ CL P B0 n sl0 os t l D (recOf fn t params assign body D .ready none) hp B) p (fun B => ∃ hp, I' hp ∧ CL P B0 n sl0 os t l D (recOf fn t params assign body D .ready none) hp B)
      (fun B => ∃ j hp, Xj j hp ∧ CL P B0 n sl0 os t l D (recOf fn t params assign body D .done (some j)) hp B) := by
  rintro B M w vals ⟨hp, hI, hcl⟩ hM hBF hgw hvl hvr
  have hcl0 := hcl
  obtain ⟨Ec, g1, g2, g3, g4, g5, g6, g7, g8, g9, g10, g11, g12, g13, g14, g15⟩ := hcl
  have hsz := hgw.size
  have hlB := hBF l g4
  have hDB := hBF D g5
  have hEc := g1.sleep (w' := w) (F' := fun b => B0.F b ∨ M b ∨ b = l ∨ b = D) (ob' := obOf Ec hp) (hgw.weaken (fun b hb => .inr (.inl hb))) (fun b hb => by
      rcases hb with h | h | rfl | rfl
      · have := hBF b (g3 b h); omega
      · exact (hM b h).2.1
      · omega
      · omega) (fun b hb h => by
      rcases h with h | h | h | h
      · exact .inl h
      · rcases (hM b h).1 with h1 | h1
        · exact .inr (.inl h1)
        · omega
      · exact .inr (.inr (.inl h))
      · exact .inr (.inr (.inr h))) (fun o b hb => obOf_some hb)
  have hwl : w.heap[l]? = some (.loop (recOf fn t params assign body D .ready none)) := by
    rw [hgw.block l hlB (fun h => (g9 l h).2 g4)]; exact g7
  have hG : ∀ (om : Nat → Prop) (w' : World), (∀ b, om b → B0.O.blk b ∨ B0.w.heap.size ≤ b) → Grow (fun b => Ec.om b ∨ b = l) w w' → GOK P (fun b => om b ∨ (B0.F b ∨ M b ∨ b = l ∨ b = D)) w' := by
    intro om w' h1 h2
    refine hG0.mono (fun b hb hnb => ⟨?_, ?_⟩) (Nat.le_trans (Nat.le_trans g10.size hsz) h2.size)
    · have hbl : b ≠ l := by omega
      have hbD : b ≠ D := by omega
      rintro (h | h | h | h | h)
      · rcases h1 b h with h3 | h3
        · exact hnb (.inl h3)
        · omega
      · exact hnb (.inr h)
      · rcases (hM b h).1 with h3 | h3
        · rcases (g9 b h3).1 with h4 | h4
          · exact hnb (.inl h4)
          · omega
        · have := g10.size; omega
      · exact hbl h
      · exact hbD h
    · have e1 : B.w.heap[b]? = B0.w.heap[b]? := g10.block b hb (fun h => hnb (.inl h))
      have hbB : b < B.w.heap.size := Nat.lt_of_lt_of_le hb g10.size
      have e2 : w.heap[b]? = B.w.heap[b]? := hgw.block b hbB (fun h => (g9 b h).1.elim (fun h4 => hnb (.inl h4)) (fun h4 => by omega))
      have e3 : w'.heap[b]? = w.heap[b]? := h2.block b (by omega) (fun h => h.elim (fun h3 => (g8 b h3).elim (fun h4 => hnb (.inl h4)) (fun h4 => by omega)) (fun h3 => by omega))
      rw [e3, e2, e1]
  -- the round's frame
  let t1 := (params.toList.zip vals).foldl (fun tmps q => tmps.setIfInBounds q.1 q.2) t
  have hsl1 : SlOK P (fun b => Ec.om b ∨ (B0.F b ∨ M b ∨ b = l ∨ b = D)) Ec w t1 (putParams params.toList p sl0) :=
    putParams_ok params.toList p vals t sl0 hvl (by simpa using hpl) (fun x hx => by rw [← hn]; exact hpn x hx) (hEc.slOK hst) (fun i q x hq hx => (hvr i q x hq hx).sub (fun b hb h => hb (by
      rcases h with h | h | h | h | h
      · exact .inr (g2 b h)
      · exact .inr (g3 b h)
      · exact .inl h
      · rw [h]; exact .inr g4
      · rw [h]; exact .inr g5)))
  have hfr := hEc.frame (t' := t1) (n' := n) (putParams_stable _ _ _ hst) hsl1 (by rw [hn, size_foldl]) (fun d v o hl ho => by
    obtain ⟨d', h1⟩ := putParams_pts _ _ _ d v o hl ho
    exact hEc.np (.slot d') v o h1 ho)
  have hy := run_yield (P := P) (args := vals.toArray) hwl (by simp [recOf, hvl, hpl])
  refine ⟨fn, t1, assign, body, ?_, roundIn_of_wpIn (F := Fence.wide) trivial ?_⟩
  · rw [hy]
    have := foldl_zip t params vals
    simp only [recOf]
    exact congrArg (fun z => Result.ok (Next.round l fn z assign body) w) this
  let Bc1 : Bs := ⟨⟨Ec.om, obOf Ec hp⟩, w, fun b => B0.F b ∨ M b ∨ b = l ∨ b = D⟩
  have hA := hR hp hI l (fun B' d => d = [] ∧ B' = Bc1) Bc1 { tmps := t1, defers := [] } w ⟨⟨⟨rfl, rfl⟩, fun o ho => by simp [lim] at ho, hG Ec.om w g8 (Grow.refl _ _)⟩, Ec, hfr⟩
  simp only [den] at hA
  refine wpIn_mono hA (fun e a1 w1 hq => ?_)
  obtain ⟨C', s', B', ⟨rfl, rfl, hbody⟩, ⟨⟨hd1, rfl⟩, _, _⟩, E1, h1⟩ := hq
  have hlw : l < w.heap.size := by omega
  have hw1l : w1.heap[l]? = some (.loop (recOf fn t params assign body D .ready none)) := by
    rw [h1.gr.block l hlw (fun h => (hEc.om_lt l h).2 (.inr (.inr (.inl rfl))))]; exact hwl
  have hbr := run_beginRound (P := P) hw1l rfl
  refine ⟨_, hbr, ?_⟩
  let w2 := w1.putObj l (.loop (recOf fn t params assign body D .busy none))
  have hw2 : w2 = w1.putObj l (.loop { (recOf fn t params assign body D .ready none) with state := .busy }) := rfl
  rw [← hw2]
  have h1' := h1.sleep (w' := w2) (F' := Bc1.F) (ob' := obOf Ec hp) (putObj_grow (.inr (.inr (.inl rfl)))) (fun b hb => by
    have := h1.flt b hb
    have := h1.gr.size
    simp only [w2, World.putObj, Array.size_setIfInBounds]
    omega) (fun b _ hb => hb) h1.ob
  have hE1 : ∀ b, E1.om b → Ec.om b ∨ w.heap.size ≤ b := h1.om0
  have hg12 : Grow (fun b => Ec.om b ∨ b = l) w w2 := (h1.gr.weaken (fun b hb => .inl hb)).trans (M1 := fun b => b = l) (putObj_grow rfl) (fun b hb => .inl (.inr hb))
  let Bc2 : Bs := ⟨⟨E1.om, obOf Ec hp⟩, w2, Bc1.F⟩
  have hBd := hbody (fun B' d => d = [] ∧ B' = Bc2) Bc2 a1 w2 ⟨⟨⟨hd1, rfl⟩, fun o ho => by simp [lim] at ho, hG E1.om w2 (fun b hb => (hE1 b hb).elim (g8 b) (fun h => .inr (by have := g10.size; omega))) hg12⟩, E1, h1'⟩
  simp only [den] at hBd
  refine wpIn_mono hBd (fun e a2 w3 hq => ?_)
  obtain ⟨C', s2, B', ⟨rfl, hk, hall, hend⟩, ⟨⟨hd2, rfl⟩, _, _⟩, E2, h2⟩ := hq
  have hl12 : l < w1.heap.size := (Array.getElem?_eq_some_iff.1 hw1l).1
  have hw2l : w2.heap[l]? = some (.loop (recOf fn t params assign body D .busy none)) := World.putObj_heap_same hl12
  have hw3l : w3.heap[l]? = some (.loop (recOf fn t params assign body D .busy none)) := by
    rw [h2.gr.block l (Array.getElem?_eq_some_iff.1 hw2l).1 (fun h => (h1'.om_lt l h).2 (.inr (.inr (.inl rfl))))]; exact hw2l
  have hg13 : Grow (fun b => Ec.om b ∨ b = l) w w3 := hg12.trans h2.gr (fun b hb => (hE1 b hb).imp .inl id)
  have hE2 : ∀ b, E2.om b → Ec.om b ∨ w.heap.size ≤ b := fun b hb => by
    rcases h2.om0 b hb with h | h
    · exact hE1 b h
    · have := hg12.size
      exact .inr (Nat.le_trans this h)
  have h2' : Rel P ⟨fun b => Ec.om b ∨ b = l, obOf Ec hp⟩ w (fun b => B0.F b ∨ M b ∨ b = l ∨ b = D) s2 E2 a2.tmps w3 := h2.rebase (fun b hb => hb) (fun b hb => (hE2 b hb).imp .inl id) hg13 h1.flt h2.ob
  have fin : ∀ r', CL P B0 n sl0 os t l D r' (pickH os s2.hp) ⟨⟨M, fun _ => none⟩, w3.putObj l (.loop r'), fun b => E2.om b ∨ B.F b⟩ ∧ Grow B.F w (w3.putObj l (.loop r')) ∧ (∀ b, (E2.om b ∨ B.F b) → b < (w3.putObj l (.loop r')).heap.size) ∧ (∀ b, b < w.heap.size → (E2.om b ∨ B.F b) → B.F b) := fun r' =>
    cl_after hcl0 hst hn hEc g2 g8 g11 hM hBF hgw h2' hk hall ⟨_, hw3l⟩
  rcases hend with ⟨rfl, hI'⟩ | ⟨j, hj, hX⟩
  · obtain ⟨f1, f2, f3, f4⟩ := fin (recOf fn t params assign body D .ready none)
    exact ⟨_, _, run_endRound none hw3l, true, _, rfl, ⟨_, hI', f1⟩, f2, f3, f4⟩
  · obtain ⟨f1, f2, f3, f4⟩ := fin (recOf fn t params assign body D .done (some j))
    cases e <;> simp [jumpOf] at hj
    · subst hj
      exact ⟨_, _, run_endRound _ hw3l, false, _, rfl, ⟨_, _, hX, f1⟩, f2, f3, f4⟩
    · subst hj
      exact ⟨_, _, run_endRound _ hw3l, false, _, rfl, ⟨_, _, hX, f1⟩, f2, f3, f4⟩
end
end Go.Ck

set_option linter.unusedVariables false
namespace Go.Ck
open Go.RowKit

def disj (os : List Nat) (H : List (Nat × HO)) : Bool := os.all fun o => match look o H with | some _ => false | none => true
def noOwn : List SV → Bool
  | [] => true
  | v :: r => (match v with | .pv _ | .nils | .ptr _ _ => true | _ => false) && noOwn r

section
variable {P : Program} {Φ : Exit → Cx → St → Prop} {k : List It} {C : Cx} {s : St}

/-- 'for x := range g { .. }' -/
theorem AW.rangeFunc {g : Operand} {params : Array Tmp} {assign body : Code} {f : FuncId} {caps : List SV} {H : List (Nat × HO)} {xs : Nat → Option (List PV)} {sl0 : List (Nat × SV)} {hp0 : List (Nat × HO)} (ds os : List Nat)
    (I : Nat → List (Nat × HO) → Prop) (Xj : Code → List (Nat × HO) → Prop) (N : Nat) (hI : Iter P f caps H xs) (hg : ev s g = some (.fn f caps))
    (hH : HM s id H) (hB : okB id H caps [] none = true) (hk0 : keptB none ds os s = true) (hs0 : Ck.keepB ds os s = ⟨s.n, sl0, hp0⟩) (hdis : disj os H = true) (hst : stableL sl0 = true) (hall : allNames os hp0 = true) (hpn : params.toList.all (fun x => decide (x < s.n)) = true) 
    (h0 : I 0 hp0) (hlen : ∀ i p, xs i = some p → p.length = params.size) (hN : ∀ i, i < N → ∃ p, xs i = some p) (hlim : xs N = none ∨ ∀ hp, ¬ I N hp)
    (hround : ∀ i p, i < N → xs i = some p → RoundI P s.n sl0 os params.toList assign body (I i) (I (i + 1)) Xj p)
    (hdone : ∀ hp, xs N = none → I N hp → AW P none Φ .normal k (RF C) ⟨s.n, sl0, hp⟩)
    (hjump : ∀ j hp, Xj j hp → AW P none Φ .normal (.code j :: k) (RF C) ⟨s.n, sl0, hp⟩) :
    AW P none Φ .normal (.code (.rangeFunc g params assign body) :: k) C s := fun B0 a w ha => by
  obtain ⟨⟨hC, hob0, hG0⟩, E, h⟩ := ha
  simp only [den]
  obtain ⟨⟨fn, hfn, hname, hbody⟩, hI⟩ := hI
  obtain ⟨cvs, e1, e2, e3⟩ := (ev_rs h hg).fn_inv
  have hlt := World.size_alloc w (.deferred (some []))
  -- what the iterator is handed
  have hck := CallOK.ofB hH hB
  have hH' : ∀ o y, look o H = some y → look o s.hp = some (y.ren id) := fun o y hy => hck.hH o y hy
  have hren : ∀ y : HO, y.ren id = y := fun y => by
    cases y with
    | cells e cs =>
      simp only [HO.ren]
      have : SV.ren id = id := funext ren_id
      rw [this, List.map_id]
    | mp es => rfl
  have hsimple : caps.all SV.simple = true := by
    have := ev_rs h hg
    generalize a.eval g = z at this
    cases this with | fn _ _ _ _ h1 _ => exact h1
  let vals : List Value := .func (.yield (w.heap.size + 1)) #[] #[] :: cvs
  let args : List SV := .yl (w.heap.size + 1) :: caps
  have hnoown : ∀ (i : Nat) (e : TypeId) (ys : List PV), args[i]? ≠ some (.own e ys) := by
    intro i e ys he
    cases i with
    | zero => simp [args] at he
    | succ i =>
      simp only [args, List.getElem?_cons_succ] at he
      have := List.all_eq_true.1 hsimple _ (List.mem_of_getElem? he)
      simp [SV.simple] at this
  have hargs : Args P (fun b => E.om b ∨ B0.F b) s E id H (fun _ => False) w args vals := by
    refine ⟨by simp [args, vals, e2], fun i e ys x hi _ => absurd hi (hnoown i e ys), fun i c x hi hx => .inr ?_, fun i c o hi ho => ?_, fun i j e ys e' zs x y b hi => absurd hi (hnoown i e ys)⟩
    · cases i with
      | zero =>
        simp only [args, vals, List.getElem?_cons_zero, Option.some.injEq] at hi hx
        subst hi; subst hx
        exact ⟨rfl, by simp [SV.on], .yl _⟩
      | succ i =>
        simp only [args, vals, List.getElem?_cons_succ] at hi hx
        have h2 := List.all_eq_true.1 hsimple _ (List.mem_of_getElem? hi)
        have h3 := e3 i c x hi hx
        cases c <;> simp [SV.simple] at h2
        · refine ⟨rfl, by simp [SV.on], ?_⟩
          cases h3 with | pv _ _ h3 => exact .pv _ _ (h3.sub (fun b hb h => hb h.1))
        · refine ⟨rfl, by simp [SV.on], ?_⟩
          cases h3
          exact .ptr (E := EnvC E id H args vals) _ _
    · cases i with
      | zero => simp only [args, List.getElem?_cons_zero, Option.some.injEq] at hi; subst hi; simp [SV.pts] at ho
      | succ i => exact hck.pts c (List.mem_of_getElem? (by simpa [args] using hi)) o ho
  have hent := entry h (ρ := id) (H := H) (Lt := fun _ => False) (args := args) (vals := vals) hH' hck.inj hck.hp (fun b hb => hb.elim) hargs
  let Om : Nat → Prop := OmC E id H args vals
  have hOmE : ∀ b, Om b → E.om b := fun b hb => OmC_om h hargs hH' hb
  let D := w.heap.size
  let l := w.heap.size + 1
  let r0 : Loop := recOf 0 a.tmps params assign body D .ready none
  refine wpIn_rangeFunc (F := fence none) (fun fnn _ => ?_)
  let w2 : World := (w.alloc (.deferred (some []))).alloc (.loop (recOf fnn a.tmps params assign body D .ready none))
  have hgr2 : ∀ (M : Nat → Prop), Grow M w w2 := fun M => ⟨rfl, rfl, rfl, by simp [w2]; omega, fun b hb _ => by
    simp only [w2]
    rw [heap_alloc_old _ _ (by simp; omega), heap_alloc_old _ _ hb]⟩
  have hsz2 : w2.heap.size = w.heap.size + 2 := by simp [w2]
  have hD2 : w2.heap[D]? = some (.deferred (some [])) := by
    simp only [w2, D]
    rw [heap_alloc_old _ _ (by simp)]
    exact World.alloc_heap_new w _
  have hl2 : w2.heap[l]? = some (.loop (recOf fnn a.tmps params assign body D .ready none)) := by
    simp only [w2, l]
    have := World.alloc_heap_new (w.alloc (.deferred (some []))) (.loop (recOf fnn a.tmps params assign body D .ready none))
    rw [World.size_alloc] at this
    exact this
  refine ⟨l, [markOf D], w2, { target := .fn (.func f) cvs.toArray, args := #[.func (.yield l) #[] #[]] }, w2, f, vals.toArray, w2, run_enterLoop_outer fnn a.tmps params assign body, ?_, fun _ _ => trivial, ?_, fun h => by simp [fence, Fence.wide] at h, ?_⟩
  · simp [resolve, rangeCall, e1, Deferred.ofValue]
    rfl
  · have hbody' : ∃ b, fn.body = some b := by cases hb : fn.body with | none => simp [hb] at hbody | some b => exact ⟨b, rfl⟩
    obtain ⟨b, hb⟩ := hbody'
    have hname' : ¬ fn.name = "runtime.NumGoroutine" := by simpa using hname
    simp [invoke, callFunc, hfn, hname', hb, vals, l]
  -- the iterator's start
  let Fi : Nat → Prop := fun b => ((E.om b ∨ B0.F b) ∧ ¬ Om b ∧ ¬ False) ∨ b = D ∨ b = l
  let B1 : Bs := ⟨⟨Om, fun _ => none⟩, w2, Fi⟩
  have hFi : ∀ b, Fi b → b < w2.heap.size := by
    rintro b (⟨h1 | h1, _⟩ | rfl | rfl)
    · have := (h.om_lt b h1).1; omega
    · have := h.flt b h1; have := h.gr.size; omega
    · simp only [D]; omega
    · simp only [l]; omega
  have hit : Rel P ⟨Om, fun _ => none⟩ w2 Fi ⟨vals.length, zslots args 0, H⟩ (EnvC E id H args vals) vals.toArray w2 :=
    hent.sleep (F' := Fi) (ob' := fun _ => none) (hgr2 _) hFi (fun b hb h1 => h1.resolve_right (by simp only [D, l]; omega)) (fun o b hb => by cases hb)
  -- the client's sleep
  have hkeep := h.keepB hob0 ds os hk0
  rw [hs0] at hkeep
  have hos : ∀ o y, look o hp0 = some y → o ∈ os ∧ look o s.hp = some y ∧ look o H = none := by
    intro o y hy
    have h1 : hp0 = pickH os s.hp := by have := congrArg St.hp hs0; exact this.symm
    rw [h1, look_pickH] at hy
    split at hy
    · rename_i hm
      refine ⟨hm, hy, ?_⟩
      have := List.all_eq_true.1 hdis o hm
      split at this
      · cases this
      · assumption
    · cases hy
  have hsub : ∀ p e ys, (St.mk s.n sl0 hp0).at p = some (.own e ys) → ∃ o i, p = .cell o i ∧ s.at p = some (.own e ys) ∧ look o H = none := by
    intro p e ys hp
    cases p with
    | slot d =>
      have := stableL_spec hst d _ hp
      simp [stableV] at this
    | part d i =>
      simp only [St.at] at hp
      split at hp
      · rename_i vs hvs
        have := stableL_spec hst d _ hvs
        simp [stableV] at this
      · cases hp
    | cell o i =>
      rw [at_cell] at hp
      split at hp
      · rename_i y hy
        obtain ⟨k1, k2, k3⟩ := hos o y hy
        exact ⟨o, i, rfl, by rw [at_cell, k2]; exact hp, k3⟩
      · cases hp
  have hshr := hkeep.shrink Om hOmE (fun o y hy hm => by
      obtain ⟨k1, k2, k3⟩ := hos o y hy
      rcases hm with ⟨o', y', h1, h2⟩ | ⟨o', y', i, e, ys, h1, h2, h3⟩ | ⟨i, e, ys, x, h1, _, _⟩
      · have := h.i1 _ _ _ _ (hH' o' y' h1) k2 h2
        have he : o' = o := this
        rw [he, k3] at h1; cases h1
      · have hat : s.at (.cell o' i) = some (.own e ys) := by
          rw [at_cell, hH' o' y' h1, hren]; exact h2
        exact h.i3 _ e ys o y _ hat k2 h3 rfl
      · exact hnoown i e ys h1) (fun p e ys b hp hb hm => by
      obtain ⟨o, i, rfl, k1, k2⟩ := hsub p e ys hp
      rcases hm with ⟨o', y', h1, h2⟩ | ⟨o', y', i', e', zs, h1, h2, h3⟩ | ⟨i', e', zs, x, h1, _, _⟩
      · exact h.i3 _ e ys o' _ b k1 (hH' o' y' h1) hb h2
      · have hat : s.at (.cell o' i') = some (.own e' zs) := by
          rw [at_cell, hH' o' y' h1, hren]; exact h2
        have := h.i2 _ _ _ _ _ _ b k1 hat hb h3
        cases this
        rw [k2] at h1; cases h1
      · exact hnoown i' e' zs h1) (ob' := obOf E hp0) (fun o b hb => obOf_some hb)
  have hsleep := hshr.sleep (w' := w2) (F' := fun b => B0.F b ∨ Om b ∨ b = l ∨ b = D) (ob' := obOf { E with om := fun b => E.om b ∧ ¬ Om b } hp0) (hgr2 _) (fun b hb => by
      rcases hb with h1 | h1 | rfl | rfl
      · have := h.flt b h1; have := h.gr.size; omega
      · have := (h.om_lt b (hOmE b h1)).1; omega
      · simp only [l]; omega
      · simp only [D]; omega) (fun b hb h1 => by
      rcases h1 with h1 | h1 | h1 | h1
      · exact .inl h1
      · exact .inr h1
      · simp only [l] at h1; omega
      · simp only [D] at h1; omega) (fun o b hb => obOf_some hb)
  have hw0 : B0.w.heap.size ≤ w.heap.size := h.gr.size
  have hcl : CL P B0 s.n sl0 os a.tmps l D (recOf fnn a.tmps params assign body D .ready none) hp0 B1 := by
    refine ⟨_, hsleep, fun b hb => .inl ⟨.inl hb.1, hb.2, id⟩, fun b hb => .inl ⟨.inr hb, fun h1 => (h.om_lt b (hOmE b h1)).2 hb, id⟩, .inr (.inr rfl), .inr (.inl rfl), hD2, hl2, fun b hb => h.om0 b hb.1, fun b hb => ⟨h.om0 b (hOmE b hb), ?_⟩, ?_, ?_, fun o y hy => (hos o y hy).1, by simp only [D, l]; omega, by simp only [l]; omega, hw0⟩
    · rintro (⟨_, h1, _⟩ | h1 | h1)
      · exact h1 hb
      · have := (h.om_lt b (hOmE b hb)).1; simp only [D] at h1; omega
      · have := (h.om_lt b (hOmE b hb)).1; simp only [l] at h1; omega
    · exact h.gr.trans (hgr2 (fun _ => False)) (fun b hb => hb.elim)
    · intro o b hb
      obtain ⟨k1, y, hy⟩ := h.ob o b hb
      have hmem := hkeep.ob o b hb
      exact ⟨k1, hmem.2⟩
  have hnsz : s.n = a.tmps.size := h.size
  have hpn' : ∀ x ∈ params.toList, x < s.n := fun x hx => by simpa using List.all_eq_true.1 hpn x hx
  let X : Nat → Bs → Prop := fun i B => ∃ hp, I i hp ∧ CL P B0 s.n sl0 os a.tmps l D (recOf fnn a.tmps params assign body D .ready none) hp B
  let X0 : Bs → Prop := fun B => ∃ j hp, Xj j hp ∧ CL P B0 s.n sl0 os a.tmps l D (recOf fnn a.tmps params assign body D .done (some j)) hp B
  have hGi : GOK P (fun b => Om b ∨ Fi b) w2 := (Rel.gok hG0 h).mono (fun b hb hn => ⟨fun h1 => hn (by
      rcases h1 with h1 | ⟨h1, _⟩ | h1 | h1
      · exact .inl (hOmE b h1)
      · exact h1
      · simp only [D] at h1; omega
      · simp only [l] at h1; omega), (hgr2 (fun _ => False)).block b hb id⟩) (by omega)
  have hcalls := hI l X X0 N (fun i hi => by
      obtain ⟨p, hp⟩ := hN i hi
      exact ⟨p, hp, round_ok hst hnsz (hround i p hi hp) (hlen i p hp) hpn' hG0⟩) (hlim.imp id (fun h1 B ⟨hp, h2, _⟩ => h1 hp h2)) B1 (EnvC E id H args vals) vals (by simp [vals, e2]) ⟨hp0, h0, hcl⟩ (fun _ _ => rfl) hGi hit
  refine callsIn_fence (hcalls.mono (fun e w3 he => ?_))
  obtain ⟨v, B', rfl, hend, hgr3, hflt3⟩ := he
  -- the state behind the loop, out of the client's sleep
  have fin : ∀ (r : Loop) (hp : List (Nat × HO)) (k' : List It), CL P B0 s.n sl0 os a.tmps l D r hp B' → r.state ≠ .busy → AW P none Φ .normal k' (RF C) ⟨s.n, sl0, hp⟩ → ∃ w4, (Instr.endLoop l).run P w3 = .ok r.pending w4 ∧ den P none Φ k' .normal { a with defers := [markOf D] ++ a.defers } w4 := by
    intro r hp k' hcl' hb hk
    obtain ⟨Ec, g1, g2, g3, g4, g5, g6, g7, g8, g9, g10, g11, g12, g13, g14, g15⟩ := hcl'
    have hnb : ∀ b, B'.F b → w3.heap[b]? = B'.w.heap[b]? := fun b hb => hgr3.block b (hflt3 b hb) (fun h1 => (g9 b h1).2 hb)
    have hl3 : w3.heap[l]? = some (.loop r) := by rw [hnb l g4]; exact g7
    refine ⟨_, run_endLoop hl3 hb, ?_⟩
    have hlt3 : l < w3.heap.size := (Array.getElem?_eq_some_iff.1 hl3).1
    have hsz3 := hgr3.size
    have hR4 := g1.sleep (w' := w3.putObj l (.loop { r with state := .exhausted })) (F' := fun b => B0.F b ∨ b = D) (ob' := obOf Ec hp) ((hgr3.weaken (fun b hb => .inr (.inl hb))).trans (M1 := fun b => b = l) (putObj_grow rfl) (fun b hb => .inl (.inr (.inr (.inl hb))))) (fun b hb => by
        simp only [World.putObj, Array.size_setIfInBounds]
        rcases hb with h1 | rfl
        · have := hflt3 b (g3 b h1); omega
        · have := hflt3 D g5; omega) (fun b _ h1 => h1.elim .inl (fun h2 => .inr (.inr (.inr h2)))) (fun o b hb => obOf_some hb)
    let B4 : Bs := ⟨⟨Ec.om, fun o => if o < 1000 then none else obOf Ec hp o⟩, w3.putObj l (.loop { r with state := .exhausted }), fun b => B0.F b ∨ b = D⟩
    have hgrow4 : Grow B0.O.blk B0.w B4.w := (g10.trans hgr3 (fun b hb => (g9 b hb).1)).trans (M1 := fun b => b = l) (putObj_grow rfl) (fun b hb => .inr (by rw [hb]; exact g14))
    have hD4 : B4.w.heap[D]? = some (.deferred (some [])) := by
      simp only [B4]
      rw [World.putObj_heap_other g13, hnb D g5]; exact g6
    refine hk B4 _ _ ⟨⟨⟨B0, a.defers, D, hC, rfl, fun b hb => .inl hb, h.flt, g8, hgrow4, ?_, ?_, ?_, g15, hD4, .inr rfl⟩, ?_, ?_⟩, Ec, ?_⟩
    · intro o b hb
      have h1 : ¬ o < 1000 := fun h1 => by rw [hob0 o h1] at hb; cases hb
      obtain ⟨k1, y, hy⟩ := g11 o b hb
      simp only [B4]
      rw [if_neg h1, obOf, hy]
      simp [k1]
    · exact fun h1 => (g1.om_lt D h1).2 (.inr (.inr (.inr rfl)))
    · exact (Array.getElem?_eq_some_iff.1 hD4).1
    · intro o ho
      simp only [lim] at ho
      simp only [B4]
      rw [if_pos ho]
    · refine hG0.mono (fun b hb hn => ⟨?_, hgrow4.block b hb (fun h1 => hn (.inl h1))⟩) hgrow4.size
      rintro (h1 | h1 | h1)
      · rcases g8 b h1 with h2 | h2
        · exact hn (.inl h2)
        · omega
      · exact hn (.inr h1)
      · simp only [D] at h1; omega
    · refine hR4.rebase (fun b hb => hb) (fun b hb => .inl hb) (Grow.refl _ _) hR4.flt (fun o b hb => ?_)
      simp only [B4] at hb
      split at hb
      · cases hb
      · exact obOf_some hb
  rcases hend with ⟨hx, hp, hIN, hcl'⟩ | ⟨j, hp, hX, hcl'⟩
  · obtain ⟨w4, k1, k2⟩ := fin _ hp k hcl' (by simp [recOf]) (hdone hp hx hIN)
    exact ⟨_, w4, k1, k2⟩
  · obtain ⟨w4, k1, k2⟩ := fin _ hp (.code j :: k) hcl' (by simp [recOf]) (hjump j hp hX)
    exact ⟨_, w4, k1, k2⟩
end
end Go.Ck
namespace Go.Ck
open Go.RowKit
section
variable {P : Program}
/-- How a body that ranged over a function may end. -/
def EndsR (P : Program) (res : List ResultVar) (H : List (Nat × HO)) (Ψ : List SV → List (Nat × HO) → Prop) (C : Cx) (e : Exit) (C' : Cx) (s' : St) : Prop :=
  (C' = C ∨ C' = RF C) ∧ (e = .normal ∨ e = .ret) ∧ ∃ svs rs H' L m, Rets P s' res svs ∧ Pass P s' id svs rs L m ∧ CallOK s' id H' rs L m ∧ (∀ o y, look o H = some y → ∃ z, look o H' = some z) ∧ Ψ rs H'

theorem AW.finR {res : List ResultVar} {H H' : List (Nat × HO)} {Ψ : List SV → List (Nat × HO) → Prop} {e : Exit} {svs rs : List SV} {L : List Place} {m : Option Place} {R : Option Nat} {C C' : Cx} {s : St} (hC : C' = C ∨ C' = RF C) (he : e = .normal ∨ e = .ret) (hv : retsV P s res = some svs) (hP : Pass P s id svs rs L m) (hM : HM s id H') (hB : okB id H' rs L m = true)
    (hn : allIn H H' = true) (hΨ : Ψ rs H') : AW P R (EndsR P res H Ψ C) e [] C' s :=
  AW.nil ⟨hC, he, svs, rs, H', L, m, retsV_spec hv, hP, .ofB hM hB, (fun o y hy => by
    have := List.all_eq_true.1 hn (o, y) (look_mem hy)
    simp only at this
    split at this
    · rename_i z hz; exact ⟨z, hz⟩
    · cases this), hΨ⟩

/-- A contract out of a body that ranges over a function. -/
theorem Fn.of_bodyR {f : FuncId} {fn : Func} {c : Code} {H : List (Nat × HO)} {args : List SV} {Ψ : List SV → List (Nat × HO) → Prop} {n : Nat} {res : List ResultVar} (hf : P.funcs[f]? = some fn) (hb : fn.body = some c) (hn : n = args.length + (fn.ntmps - args.length)) (hres : fn.results.toList = res) (hname : (fn.name == "runtime.NumGoroutine") = false) (hH : H.all (fun y => decide (1000 ≤ y.1)) = true)
    (h : ∀ C, AW P none (EndsR P res H Ψ C) .normal [.code c] C ⟨n, zslots args 0, H⟩) : Fn P f H args Ψ := ⟨⟨fn, hf, hname, by simp [hb]⟩, fun F w E vals hl hG hR => by
  subst hres
  refine (callsIn_wide (n := 0)).1 (callsIn_of_wp_marks hf hb trivial ?_)
  have h0 := hR.extend (u := Array.replicate (fn.ntmps - vals.toArray.size) undef) (n := n) (by simp [hn, hl])
  let B0 : Bs := ⟨⟨E.om, obOf E H⟩, w, F⟩
  have hw := h (fun B d => B = B0 ∧ d = []) B0 { tmps := vals.toArray ++ Array.replicate (fn.ntmps - vals.toArray.size) undef, defers := [] } w ⟨⟨⟨rfl, rfl⟩, (fun o ho => by
    show obOf E H o = none
    unfold obOf
    split
    · rename_i y hy
      have := List.all_eq_true.1 hH _ (look_mem hy)
      simp at this
      simp only [lim] at ho
      omega
    · rfl), hG⟩, E, h0⟩
  simp only [den] at hw
  refine wpIn_mono (F := Fence.wide) hw (fun e a w' hq => ?_)
  obtain ⟨C', s', B, ⟨hC, he, svs, rs, H', L, m, h1, h2, h3, h4, h5⟩, ⟨hCB, _⟩, E', hE⟩ := hq
  -- the mark is taken, at the start's base
  have hbase : ∃ w2, Rel P B0.O B0.w B0.F s' E' a.tmps w2 ∧ ∀ R', (∃ v, (results fn a.tmps).run P w2 = .ok v w2 ∧ R' (.returned v) w2) → LeavesInM Fence.wide 0 P fn a.tmps R' a.defers .returning w' := by
    rcases hC with rfl | rfl
    · obtain ⟨rfl, hd⟩ := hCB
      exact ⟨w', hE, fun R' h => by rw [hd]; exact h⟩
    · obtain ⟨B1, d0, D, ⟨rfl, rfl⟩, hd, k1, k2, k3, k4, k5, k6, k7, k8, k9, k10⟩ := hCB
      have hD : w'.heap[D]? = some (.deferred (some [])) := by rw [hE.gr.block D k7 k6]; exact k9
      have hs := hE.sleep (w' := w'.putObj D (.deferred none)) (F' := B.F) (ob' := B.O.ob) (putObj_grow k10) (fun b hb => by
        simp only [World.putObj, Array.size_setIfInBounds]
        exact Nat.lt_of_lt_of_le (hE.flt b hb) hE.gr.size) (fun b _ h => h) hE.ob
      refine ⟨w'.putObj D (.deferred none), hs.rebase k1 (fun b hb => ?_) ((k4.trans hE.gr k3).trans (M1 := fun b => b = D) (putObj_grow rfl) (fun b hb => .inr (by rw [hb]; exact k8))) k2 (fun o b hb => hs.ob o b (k5 o b hb)), fun R' h => ?_⟩
      · rcases hE.om0 b hb with h1 | h1
        · exact k3 b h1
        · exact .inr (Nat.le_trans k4.size h1)
      · rw [hd]
        exact ⟨by simp, .inl ⟨D, _, rfl, run_takeDeferred hD, h⟩⟩
  obtain ⟨w2, hE, hleave⟩ := hbase
  obtain ⟨us, k1, k2, k3⟩ := h1.sound hE
  obtain ⟨Lt, p1, p2, p3, p4, p5⟩ := prep hE k2 k3 h2 h3
  have hent := entry p4 (ρ := id) (H := H') (Lt := Lt) (args := rs) (vals := us) p5 h3.inj h3.hp p2 p3
  have hom : ∀ b, OmC E' id H' rs us b → E'.om b := fun b hb => OmC_om p4 p3 p5 hb
  have hfin := hent.rebase (O0 := ⟨E.om, obOf E H⟩) (w0 := w) (F := F) (fun b hb => ⟨.inr hb, fun hc => (hE.om_lt b (hom b hc)).2 hb, fun hc => (hE.om_lt b (p1 b hc)).2 hb⟩) (fun b hb => hE.om0 b (hom b hb)) hE.gr hE.flt (fun o b hb => by
    obtain ⟨q1, _⟩ := hE.ob o b hb
    refine ⟨q1, ?_⟩
    simp only [B0, obOf] at hb
    split at hb
    · rename_i y hy; exact h4 o y hy
    · cases hb)
  rcases he with rfl | rfl
  · exact hleave _ ⟨pack us, run_results k1, rs, H', _, us, h5, p3.len, rfl, hfin⟩
  · exact hleave _ ⟨pack us, run_results k1, rs, H', _, us, h5, p3.len, rfl, hfin⟩⟩
end
end Go.Ck

set_option linter.unusedVariables false
/-! A region of still operations, at once. -/
namespace Go.Ck
mutual
def stRun (P : Program) : Nat → Array Oper → List Oper → St → Option St
  | _, _, [], s => some s
  | 0, _, _ :: _, _ => none
  | n + 1, all, o :: r, s => stG P n all o r s o.guard
def stG (P : Program) : Nat → Array Oper → Oper → List Oper → St → Option (Nat × Bool) → Option St
  | 0, _, _, _, _, _ => none
  | n + 1, all, o, r, s, none => stK P n all r (stillOp o) (astep P o s)
  | n + 1, all, o, r, s, some (j, want) => stB P n all o r s (aguard all s j want) want
def stB (P : Program) : Nat → Array Oper → Oper → List Oper → St → Option Bool → Bool → Option St
  | n + 1, all, o, r, s, some true, true => stK P n all r (stillOp { o with guard := none }) (astep P o s)
  | n + 1, all, o, r, s, some false, false => stK P n all r (stillOp { o with guard := none }) (astep P o s)
  | n + 1, all, o, r, s, some true, false => stD P n all r s o.dst
  | n + 1, all, o, r, s, some false, true => stD P n all r s o.dst
  | _, _, _, _, _, _, _ => none
def stD (P : Program) : Nat → Array Oper → List Oper → St → Option Nat → Option St
  | n + 1, all, r, s, some d => stRun P n all r (put d (.tup []) s)
  | _, _, _, _, _ => none
def stK (P : Program) : Nat → Array Oper → List Oper → Bool → Option St → Option St
  | n + 1, all, r, true, some s' => stRun P n all r s'
  | _, _, _, _, _ => none
end
section
variable {P : Program} {R : Option Nat} {Φ : Exit → Cx → St → Prop} {k : List It} {C : Cx} {s : St} {all : Array Oper} {K : St → Prop}
theorem stRun_nil (n : Nat) (all : Array Oper) (s : St) : stRun P n all [] s = some s := by cases n <;> rfl
theorem stRun_cons (n : Nat) (all : Array Oper) (o : Oper) (r : List Oper) (s : St) : stRun P (n + 1) all (o :: r) s = stG P n all o r s o.guard := rfl
theorem stG_none (n : Nat) (all : Array Oper) (o : Oper) (r : List Oper) (s : St) : stG P (n + 1) all o r s none = stK P n all r (stillOp o) (astep P o s) := rfl
theorem stG_some (n : Nat) (all : Array Oper) (o : Oper) (r : List Oper) (s : St) (j : Nat) (want : Bool) : stG P (n + 1) all o r s (some (j, want)) = stB P n all o r s (aguard all s j want) want := rfl
theorem stB_tt (n : Nat) (all : Array Oper) (o : Oper) (r : List Oper) (s : St) : stB P (n + 1) all o r s (some true) true = stK P n all r (stillOp { o with guard := none }) (astep P o s) := rfl
theorem stB_ff (n : Nat) (all : Array Oper) (o : Oper) (r : List Oper) (s : St) : stB P (n + 1) all o r s (some false) false = stK P n all r (stillOp { o with guard := none }) (astep P o s) := rfl
theorem stB_tf (n : Nat) (all : Array Oper) (o : Oper) (r : List Oper) (s : St) : stB P (n + 1) all o r s (some true) false = stD P n all r s o.dst := rfl
theorem stB_ft (n : Nat) (all : Array Oper) (o : Oper) (r : List Oper) (s : St) : stB P (n + 1) all o r s (some false) true = stD P n all r s o.dst := rfl
theorem stD_some (n : Nat) (all : Array Oper) (r : List Oper) (s : St) (d : Nat) : stD P (n + 1) all r s (some d) = stRun P n all r (put d (.tup []) s) := rfl
theorem stK_some (n : Nat) (all : Array Oper) (r : List Oper) (s' : St) : stK P (n + 1) all r true (some s') = stRun P n all r s' := rfl
attribute [go_sem] stRun_nil stRun_cons stG_none stG_some stB_tt stB_ff stB_tf stB_ft stD_some stK_some stillOp

theorem astep_noguard (o : Oper) (s : St) : astep P { o with guard := none } s = astep P o s := rfl
mutual
theorem AT.run : ∀ (n : Nat) {l : List Oper} {s s' : St}, stRun P n all l s = some s' → K s' → AT P R all C K l s
  | n, [], s, s', h, hk => by rw [stRun_nil] at h; cases h; exact AT.nil hk
  | 0, _ :: _, s, s', h, hk => by simp [stRun] at h
  | n + 1, o :: r, s, s', h, hk => by
    rw [stRun_cons] at h
    exact AT.runG n h rfl hk
theorem AT.runG : ∀ (n : Nat) {o : Oper} {r : List Oper} {s s' : St} {g : Option (Nat × Bool)}, stG P n all o r s g = some s' → o.guard = g → K s' → AT P R all C K (o :: r) s
  | 0, _, _, _, _, _, h, _, _ => by simp [stG] at h
  | n + 1, o, r, s, s', none, h, hg, hk => by
    rw [stG_none] at h
    cases n with
    | zero => cases stillOp o <;> simp [stK] at h
    | succ n =>
      cases hst : stillOp o with
      | false => rw [hst] at h; simp [stK] at h
      | true =>
        cases hs : astep P o s with
        | none => rw [hst, hs] at h; simp [stK] at h
        | some s1 =>
          rw [hst, hs, stK_some] at h
          exact AT.step hg hst hs (AT.run n h hk)
  | n + 1, o, r, s, s', some (j, want), h, hg, hk => by
    rw [stG_some] at h
    cases n with
    | zero => cases aguard all s j want <;> simp [stB] at h
    | succ n =>
      cases hb : aguard all s j want with
      | none => rw [hb] at h; simp [stB] at h
      | some b =>
        rw [hb] at h
        by_cases hbw : b = want
        · have h' : stK P n all r (stillOp { o with guard := none }) (astep P o s) = some s' := by
            subst hbw
            cases b <;> exact h
          cases n with
          | zero => cases stillOp { o with guard := none } <;> simp [stK] at h'
          | succ n =>
            cases hst : stillOp { o with guard := none } with
            | false => rw [hst] at h'; simp [stK] at h'
            | true =>
              cases hs : astep P o s with
              | none => rw [hst, hs] at h'; simp [stK] at h'
              | some s1 =>
                rw [hst, hs, stK_some] at h'
                cases hd : o.dst with
                | none =>
                  exfalso
                  unfold stillOp at hst
                  simp [hd] at hst
                | some d => exact AT.guard hg hd hb (fun _ => AT.step rfl hst (by rw [astep_noguard]; exact hs) (AT.run n h' hk)) (fun hn => absurd hbw hn)
        · have h' : stD P n all r s o.dst = some s' := by
            cases b <;> cases want <;> first | exact absurd rfl hbw | exact h
          cases hd : o.dst with
          | none => rw [hd] at h'; cases n <;> simp [stD] at h'
          | some d =>
            rw [hd] at h'
            cases n with
            | zero => simp [stD] at h'
            | succ n =>
              rw [stD_some] at h'
              exact AT.guard hg hd hb (fun hn => absurd hn hbw) (fun _ => AT.run n h' hk)
end

/-- Still operations, in whatever order. -/
theorem AW.sr {id : Nat} {l : List Oper} {s' : St} (hm : P.follows .mixedOrders = true) (hB : Region.lexB .any l.toArray = true) (h : AW P R Φ .normal k C s') (hn : stRun P 1000 l.toArray l s = some s' := by simp only [go_sem, ↓reduceIte] <;> rfl) : AW P R Φ .normal (.code (.region id l.toArray true) :: k) C s :=
  AW.still hm hB (AT.run 1000 hn h)
theorem AW.srTail {id : Nat} {l : List Oper} {s' : St} (n : Nat) (hm : P.follows .mixedOrders = true) (hB : Region.lexTailB .any l.toArray n = true) (h : AW P R Φ .normal (.ops l.toArray (l.drop n) :: k) C s') (hn : stRun P 1000 l.toArray (l.take n) s = some s' := by simp only [go_sem, ↓reduceIte, List.take_succ_cons, List.take_zero] <;> rfl) : AW P R Φ .normal (.code (.region id l.toArray true) :: k) C s :=
  AW.stillTail n hm hB (AT.run 1000 hn h)
end
attribute [go_sem] List.drop_succ_cons List.drop_zero List.take_succ_cons List.take_zero
end Go.Ck

set_option linter.unusedVariables false
/-! A drawing region whose operations that need no world go first, the others in one order. -/
namespace Go.Ck
open Go.RowKit
section
variable {P : Program} {R : Option Nat} {Φ : Exit → Cx → St → Prop} {k : List It} {C : Cx} {s : St} {all : Array Oper}
theorem AW.opsAny {listed : Array Bool} (hr : Region.ready .any all listed = []) : ∀ {l : List Oper} , (∀ B a w, AS P R C B s a w → wpListIn (fence R) 0 P all (den P R Φ k) l a w → wpListIn (fence R) 0 P all (den P R Φ (.any all 0 listed :: k)) l a w) := by
  have H : ∀ (l : List Oper) a w, wpListIn (fence R) 0 P all (den P R Φ k) l a w → wpListIn (fence R) 0 P all (den P R Φ (.any all 0 listed :: k)) l a w := by
    intro l
    induction l with
    | nil =>
      intro a w h
      simp only [wpListIn] at h ⊢
      exact wpAnyIn_done hr h 0
    | cons o r ih =>
      intro a w h
      simp only [wpListIn] at h ⊢
      split
      · rename_i hw
        rw [if_pos hw] at h
        exact wpIn_congrQ (fun e a w he hq => by cases e <;> first | exact absurd rfl he | exact hq) (fun a w hq => ih a w hq) h
      · rename_i hw
        rw [if_neg hw] at h
        exact ⟨h.1, ih _ _ h.2⟩
  exact fun {l} B a w _ h => H l a w h

theorem Ends.noPanic {res : List ResultVar} {H : List (Nat × HO)} {Ψ : List SV → List (Nat × HO) → Prop} : ∀ c C' s, ¬ Ends P res H Ψ C (.panic c) C' s := fun c C' s h => by
  rcases h.2.1 with h | h <;> cases h

/-- Operations p that need no world, then q in this order. -/
theorem AW.ts {id : Nat} {res : List ResultVar} {H : List (Nat × HO)} {Ψ : List SV → List (Nat × HO) → Prop} {C' : Cx} {s' : St} {rest : List Oper} (p q : List Nat) (hm : P.follows .mixedOrders = true)
    (hk : (match takeChk all p (Array.replicate all.size false) with
      | some L1 => (match seqChk all q L1 with
        | some L2 => Region.noSelect all && (Region.ready .any all L2).isEmpty && p.length + q.length == all.size
        | none => false)
      | none => false) = true)
    (h : AW P none (Ends P res H Ψ C') .normal (.ops all rest :: k) C s') (hs : Ck.takes P all p s = some s' := by simp only [go_sem, ↓reduceIte] <;> rfl) (hq : pickOps all q = rest := by simp only [pickOps, List.getElem?_toArray, List.getElem?_cons_zero, List.getElem?_cons_succ] <;> rfl) : AW P none (Ends P res H Ψ C') .normal (.code (.region id all true) :: k) C s := by
  subst hq
  split at hk
  · rename_i L1 h1
    split at hk
    · rename_i L2 h2
      simp only [Bool.and_eq_true, beq_iff_eq] at hk
      obtain ⟨⟨hsel, hr⟩, hsz⟩ := hk
      have hr : Region.ready .any all L2 = [] := by simpa using hr
      refine AW.any0 hm ?_
      have e : all.size = (0 + q.length) + p.length := by omega
      suffices key : ∀ n, n = (0 + q.length) + p.length → AW P none (Ends P res H Ψ C') .normal (.any all n (Array.replicate all.size false) :: k) C s from key _ e
      rintro n rfl
      refine AW.takes p ?_ hs Ends.noPanic h1 hsel
      refine AW.seqs q ?_ h2
      intro B a w ha
      exact AW.opsAny hr (s := s') (C := C) B a w ha (h B a w ha)
    · cases hk
  · cases hk
end
theorem takes_nil (P : Program) (all : Array Oper) (s : St) : takes P all [] s = some s := rfl
def takesK (P : Program) (all : Array Oper) (r : List Nat) : Option St → Option St
  | some s' => takes P all r s'
  | none => none
theorem takes_cons (P : Program) (all : Array Oper) (i : Nat) (r : List Nat) (s : St) : takes P all (i :: r) s = takesK P all r (takeOne P all i s) := by
  simp only [takes]
  cases takeOne P all i s <;> rfl
attribute [go_sem] takes_nil takes_cons takesK takeOne wiOp noEnter
end Go.Ck
namespace Go.Ck
attribute [go_sem] List.getElem?_toArray List.getElem?_cons_zero List.getElem?_cons_succ
end Go.Ck

set_option linter.unusedVariables false
/-! An empty list of one's own instead of nil, anywhere. -/
namespace Go.Ck
section
variable {P : Program} {R : Option Nat} {Φ : Exit → Cx → St → Prop} {k : List It} {C : Cx} {s : St}
theorem AW.nilsOwnAt {e : Exit} (p : Place) (t : TypeId) (h : AW P R Φ e k C (setAt p (.own t []) s)) (hl : s.at p = some .nils := by rfl) : AW P R Φ e k C s :=
  AW.weak (fun B a w ha => by
    obtain ⟨hd, E, hE⟩ := ha
    obtain ⟨x, hx, hv⟩ := hE.place p _ hl
    have hv' : RS P (fun b => E.om b ∨ B.F b) E w .nils x := hv
    cases hv'
    have := hE.recast (p := p) (v := .own t []) (y := .slice none 0 0) (x := .slice none 0 0) hl rfl rfl (hE.free_of (fun e' xs he => by rw [hl] at he; cases he)) rfl hx (.inr rfl)
      (by simp only [PVal, Env.setHdr_same]; exact ⟨trivial, ⟨[], World.ownsRow_nil w 0 _ _, ROs.nil _ _, by simp, by simp⟩, by simp [Value.ownBlock]⟩) (by simp [SV.on]) (fun _ b hb => by simp [Value.ownBlock] at hb) (by simp [SV.pts])
    exact ⟨B, hd, _, this⟩) h
end
end Go.Ck
namespace Go.Ck
theorem pickOps_nil (all : Array Oper) : pickOps all [] = [] := rfl
def pickK (all : Array Oper) (r : List Nat) : Option Oper → List Oper
  | some o => o :: pickOps all r
  | none => pickOps all r
theorem pickOps_cons (all : Array Oper) (i : Nat) (r : List Nat) : pickOps all (i :: r) = pickK all r all[i]? := by
  simp only [pickOps]
  cases all[i]? <;> rfl
attribute [go_sem] pickOps_nil pickOps_cons pickK
end Go.Ck

set_option linter.unusedVariables false
/-! Two structs of two ints, held against one another. -/
namespace Go.Ck
open Go.RowKit
section
variable {P : Program} {R : Option Nat} {Φ : Exit → Cx → St → Prop} {k : List It} {C : Cx} {s : St}
theorem ev_two {B : Bs} {E : Env} {a : Act} {w : World} (hE : Rel P B.O B.w B.F s E a.tmps w) {x : Operand} {m n : Int} (h : ev s x = some (.pv (.agg [.int .i64 m, .int .i64 n]))) : a.eval x = .agg #[.int .i64 m, .int .i64 n] := by
  have := ev_rs hE h
  generalize a.eval x = z at this
  cases this with | pv _ _ h =>
    cases h with | agg cs vs hl h1 hr =>
      obtain ⟨l⟩ := vs
      match l, hl with
      | [u, v], _ =>
        have k1 := hr 0 _ u rfl rfl
        have k2 := hr 1 _ v rfl rfl
        cases k1; cases k2; rfl
/-- Is == on this type what it is on two ints? -/
def EqTwo (P : Program) (t : TypeId) : Prop := P.eqGuardType P.depth t = false ∧ ∀ (a b c d : Int) (w : World), (Op.equalIn 10000 t (.agg #[.int .i64 a, .int .i64 b]) (.agg #[.int .i64 c, .int .i64 d])).run P w = .ok (a == c && b == d) w
theorem AW.neq2 {all : Array Oper} {o : Oper} {r : List Oper} {d : Nat} {t u : TypeId} {x y : Operand} {m n m' n' : Int} (hT : EqTwo P t) (hx : ev s x = some (.pv (.agg [.int .i64 m, .int .i64 n]))) (hy : ev s y = some (.pv (.agg [.int .i64 m', .int .i64 n'])))
    (hk : AW P R Φ .normal (.ops all r :: k) C (put d (.pv (.bool (!(m == m' && n == n')))) s)) (hg : o.guard = none := by rfl) (hd : o.dst = some d := by rfl) (ho : o.op = .binOp .neq t x y u := by rfl) : AW P R Φ .normal (.ops all (o :: r) :: k) C s := by
  refine AW.opSV hg hd (fun c hc => by rw [ho] at hc; cases hc) (.pv _ _) (fun B E a w _ hE => ⟨.bool (!(m == m' && n == n')), ?_, .pv _ _ (.bool _)⟩) hk
  have e1 := ev_two hE hx
  have e2 := ev_two hE hy
  simp [execOp, ho, e1, e2, run_eqGuard_agg w .neq t x y _ _ hT.1, run_neq_struct, hT.2]
end
end Go.Ck
namespace Go.Ck
def twoInts (P : Program) (t : TypeId) (i : TypeId) : Bool := match (P.fieldsOf t).toList with
  | [f, g] => f.name != "_" && g.name != "_" && f.type == i && g.type == i && f.offset == 0 && g.offset == 1
  | _ => false
theorem EqTwo.of {P : Program} {t i : TypeId} (hG : P.eqGuardType P.depth t = false) (hS : P.underlying t = some (.struct (P.fieldsOf t))) (hp : P.stoodInHeld t = false) (h0 : twoInts P t i = true) (hu : P.underlying i = some (.int .i64)) : EqTwo P t := by
  refine ⟨hG, fun a b c d w => ?_⟩
  rw [show (10000 : Nat) = 9999 + 1 from rfl, run_equalIn_agg w 9999 _ _ _ hS hp]
  unfold twoInts at h0
  split at h0
  · rename_i f g hf
    simp only [Bool.and_eq_true, bne_iff_ne, beq_iff_eq] at h0
    obtain ⟨⟨⟨⟨⟨n0, n1⟩, t0⟩, t1⟩, o0⟩, o1⟩ := h0
    rw [hf]
    simp [Op.eqFields, t0, t1, o0, o1, n0, n1, run_equalIn_int w _ i _ _ _ _ hu, part, isAgg, run_underlying hu]
    by_cases h1 : a = c <;> by_cases h2 : b = d <;> simp [h1, h2]
  · cases h0
end Go.Ck

set_option linter.unusedVariables false
/-! The rest of a region, where an operation's yield is told. -/
namespace Go.Ck
open Go.RowKit
def AG (P : Program) (R : Option Nat) (Φ : Exit → Cx → St → Prop) (all : Array Oper) (j dj : Nat) (v : Option Bool) (k : List It) (l : List Oper) (C : Cx) (s : St) : Prop :=
  ∀ B a w, AS P R C B s a w → (∃ o, all[j]? = some o ∧ o.dst = some dj) → yielded all a.tmps j = v → wpListIn (fence R) 0 P all (den P R Φ k) l a w
section
variable {P : Program} {R : Option Nat} {Φ : Exit → Cx → St → Prop} {k : List It} {C : Cx} {s : St} {all : Array Oper} {j dj : Nat} {v : Option Bool}
theorem AG.start (j dj : Nat) (want : Bool) {l : List Oper} (h1 : AG P R Φ all j dj (some want) k l C s) (h2 : ∀ v, v ≠ some want → AG P R Φ all j dj v k l C s) (hd : ∃ o, all[j]? = some o ∧ o.dst = some dj) : AW P R Φ .normal (.ops all l :: k) C s := fun B a w ha => by
  simp only [den]
  by_cases hy : yielded all a.tmps j = some want
  · exact h1 B a w ha hd hy
  · exact h2 _ hy B a w ha hd rfl
theorem AG.forget {l : List Oper} (h : AW P R Φ .normal (.ops all l :: k) C s) : AG P R Φ all j dj v k l C s := fun B a w ha _ _ => by
  have := h B a w ha
  simpa only [den] using this
theorem yielded_put {a : Act} {d : Nat} {x : Value} (hd : ∃ o, all[j]? = some o ∧ o.dst = some dj) (hne : d ≠ dj) : yielded all (a.put (some d) x).tmps j = yielded all a.tmps j := by
  obtain ⟨o, ho, hod⟩ := hd
  simp only [yielded, ho, Act.put, Array.set!_eq_setIfInBounds]
  simp [hod, Array.getElem?_setIfInBounds, hne]
theorem AG.step {o : Oper} {r : List Oper} {s' : St} {d : Nat} (hg : o.guard = none) (hod : o.dst = some d) (hne : d ≠ dj) (hs : astep P o s = some s') (h : AG P R Φ all j dj v k r C s') : AG P R Φ all j dj v k (o :: r) C s := fun B a w ha hd hy => by
  refine wpListIn_want (by simp [Region.wanted, hg]) (astep_plain hs) ?_
  obtain ⟨hdf, E, hE⟩ := ha
  obtain ⟨r', x, w', E', h1, h2, h3⟩ := astep_sound hE hs
  rw [h1]
  have hy' : yielded all (a.put o.dst x).tmps j = v := by rw [hod, yielded_put hd hne]; exact hy
  rcases h2 with rfl | ⟨rfl, rfl⟩
  · exact h B _ _ ⟨by rw [put_defers]; exact hdf, E', h3⟩ hd hy'
  · exact h B _ _ ⟨by rw [put_defers]; exact hdf, E', h3⟩ hd hy'
theorem AG.skip {o : Oper} {r : List Oper} {d : Nat} {want : Bool} (hg : o.guard = some (j, want)) (hod : o.dst = some d) (hne : d ≠ dj) (hv : v ≠ some want) (h : AG P R Φ all j dj v k r C (put d (.tup []) s)) : AG P R Φ all j dj v k (o :: r) C s := fun B a w ha hd hy => by
  unfold wpListIn
  rw [if_neg (by simp [Region.wanted, hg, hy, hv]), hod]
  exact ⟨fun _ _ => trivial, h B _ w ha.unwanted hd (by rw [yielded_put hd hne]; exact hy)⟩
theorem AG.want {o : Oper} {r : List Oper} {want : Bool} (hg : o.guard = some (j, want)) (hv : v = some want) (h : AG P R Φ all j dj v k ({ o with guard := none } :: r) C s) : AG P R Φ all j dj v k (o :: r) C s := fun B a w ha hd hy => by
  have := h B a w ha hd hy
  unfold wpListIn at this ⊢
  rw [if_pos (by simp [Region.wanted])] at this
  rw [if_pos (by simp [Region.wanted, hg, hy, hv])]
  exact this
end
end Go.Ck

set_option linter.unusedVariables false
namespace Go.Ck
open Go.RowKit
section
variable {P : Program} {R : Option Nat} {Φ : Exit → Cx → St → Prop} {k : List It} {C : Cx} {s : St}
theorem AW.eq2 {all : Array Oper} {o : Oper} {r : List Oper} {d : Nat} {t u : TypeId} {x y : Operand} {m n m' n' : Int} (hT : EqTwo P t) (hx : ev s x = some (.pv (.agg [.int .i64 m, .int .i64 n]))) (hy : ev s y = some (.pv (.agg [.int .i64 m', .int .i64 n'])))
    (hk : AW P R Φ .normal (.ops all r :: k) C (put d (.pv (.bool (m == m' && n == n'))) s)) (hg : o.guard = none := by rfl) (hd : o.dst = some d := by rfl) (ho : o.op = .binOp .eql t x y u := by rfl) : AW P R Φ .normal (.ops all (o :: r) :: k) C s := by
  refine AW.opSV hg hd (fun c hc => by rw [ho] at hc; cases hc) (.pv _ _) (fun B E a w _ hE => ⟨.bool (m == m' && n == n'), ?_, .pv _ _ (.bool _)⟩) hk
  have e1 := ev_two hE hx
  have e2 := ev_two hE hy
  simp [execOp, ho, e1, e2, run_eqGuard_agg w .eql t x y _ _ hT.1, run_eql_struct, hT.2]
end
end Go.Ck

set_option linter.unusedVariables false
/-! What the arguments of a call are, as pure values. -/
namespace Go.Ck
open Go.RowKit

/-- Cells of a type. -/
def PT (P : Program) : Nat → TypeId → List PV → Prop
  | 0, _, _ => False
  | n + 1, t, cs => match P.underlying t with
    | some .bool => ∃ b, cs = [.bool b]
    | some (.int k) => ∃ m, cs = [.int k m] ∧ (Lit.int k m).wf = true
    | some .string => ∃ s, cs = [.str s] ∧ s.length ≤ maxLen
    | some (.slice e) => ∃ xs, cs = [.sl (P.cellsOf e) xs] ∧ xs.length ≤ maxLen ∧ ∀ x ∈ xs, PT P n e x.cells ∧ x.one = !isAggT P e
    | some (.struct fs) => ∃ pss : List (List PV), cs = pss.flatten ∧ pss.length = fs.size ∧ ∀ (i : Nat) (f : Field) (ps : List PV), fs[i]? = some f → pss[i]? = some ps → PT P n f.type ps ∧ ps.length = P.cellsOf f.type
    | some (.array m e) => ∃ pss : List (List PV), cs = pss.flatten ∧ pss.length = m ∧ ∀ ps ∈ pss, PT P n e ps ∧ ps.length = P.cellsOf e
    | _ => False
/-- Is the type one of those? -/
def okP (P : Program) : Nat → TypeId → Bool
  | 0, _ => false
  | n + 1, t => match P.underlying t with
    | some .bool => true
    | some (.int _) => true
    | some .string => true
    | some (.slice e) => okP P n e && decide (0 < P.cellsOf e)
    | some (.struct fs) => fs.all fun f => okP P n f.type
    | some (.array _ e) => okP P n e
    | _ => false

def noA : Nat → Prop := fun _ => False

section
variable {P : Program} {w : World}

theorem parts_of : ∀ (fs : List Field) (cs : List Value) (Q : TypeId → List PV → Prop), cs.length = (fs.map fun f => P.cellsOf f.type).sum →
    (∀ (i : Nat) (f : Field), fs[i]? = some f → ∃ ps, Q f.type ps ∧ ROs noA w ps ((cs.drop ((fs.take i).map fun f => P.cellsOf f.type).sum).take (P.cellsOf f.type))) →
    ∃ pss : List (List PV), pss.length = fs.length ∧ ROs noA w pss.flatten cs ∧ ∀ (i : Nat) (f : Field) (ps : List PV), fs[i]? = some f → pss[i]? = some ps → Q f.type ps ∧ ps.length = P.cellsOf f.type
  | [], cs, Q, hl, h => by
    have : cs = [] := List.length_eq_zero_iff.1 hl
    subst this
    exact ⟨[], rfl, ROs.nil _ _, by simp⟩
  | f :: fs, cs, Q, hl, h => by
    simp only [List.map_cons, List.sum_cons] at hl
    obtain ⟨ps0, q0, r0⟩ := h 0 f rfl
    simp only [List.take_zero, List.map_nil, List.sum_nil, List.drop_zero] at r0
    obtain ⟨pss, h1, h2, h3⟩ := parts_of fs (cs.drop (P.cellsOf f.type)) Q (by simp; omega) (fun i g hg => by
      obtain ⟨ps, q, r⟩ := h (i + 1) g (by simpa using hg)
      refine ⟨ps, q, ?_⟩
      simp only [List.take_succ_cons, List.map_cons, List.sum_cons] at r
      rw [List.drop_drop]
      exact r)
    refine ⟨ps0 :: pss, by simp [h1], ?_, fun i g ps hg hp => ?_⟩
    · have := r0.append h2
      rw [List.take_append_drop] at this
      simpa using this
    · cases i with
      | zero =>
        simp at hg hp
        subst hg; subst hp
        refine ⟨q0, ?_⟩
        have := r0.1
        simp at this
        omega
      | succ i => exact h3 i g ps (by simpa using hg) (by simpa using hp)

theorem arr_of : ∀ (m z : Nat) (cs : List Value) (Q : List PV → Prop), cs.length = m * z →
    (∀ i, i < m → ∃ ps, Q ps ∧ ROs noA w ps ((cs.drop (i * z)).take z)) →
    ∃ pss : List (List PV), pss.length = m ∧ ROs noA w pss.flatten cs ∧ ∀ ps ∈ pss, Q ps ∧ ps.length = z
  | 0, z, cs, Q, hl, h => by
    have : cs = [] := List.length_eq_zero_iff.1 (by simpa using hl)
    subst this
    exact ⟨[], rfl, ROs.nil _ _, by simp⟩
  | m + 1, z, cs, Q, hl, h => by
    have hz : (m + 1) * z = z + m * z := by rw [Nat.add_mul, Nat.one_mul, Nat.add_comm]
    obtain ⟨ps0, q0, r0⟩ := h 0 (by omega)
    simp only [Nat.zero_mul, List.drop_zero] at r0
    obtain ⟨pss, h1, h2, h3⟩ := arr_of m z (cs.drop z) Q (by simp; omega) (fun i hi => by
      obtain ⟨ps, q, r⟩ := h (i + 1) (by omega)
      refine ⟨ps, q, ?_⟩
      rw [List.drop_drop]
      rwa [show (i + 1) * z = z + i * z by rw [Nat.add_mul, Nat.one_mul, Nat.add_comm]] at r)
    refine ⟨ps0 :: pss, by simp [h1], ?_, fun ps hp => ?_⟩
    · have := r0.append h2
      rw [List.take_append_drop] at this
      simpa using this
    · rcases List.mem_cons.1 hp with rfl | hp
      · refine ⟨q0, ?_⟩
        have := r0.1
        simp at this
        omega
      · exact h3 ps hp

theorem PT.one {n : Nat} {t : TypeId} {ps : List PV} (h : PT P n t ps) (ha : isAggT P t = false) : ∃ p, ps = [p] := by
  cases n with
  | zero => exact h.elim
  | succ n =>
    unfold PT at h
    unfold isAggT at ha
    split at h
    · obtain ⟨b, rfl⟩ := h; exact ⟨_, rfl⟩
    · obtain ⟨b, rfl, _⟩ := h; exact ⟨_, rfl⟩
    · obtain ⟨b, rfl, _⟩ := h; exact ⟨_, rfl⟩
    · obtain ⟨b, rfl, _⟩ := h; exact ⟨_, rfl⟩
    · rename_i hu; rw [hu] at ha; cases ha
    · rename_i hu; rw [hu] at ha; cases ha
    · exact h.elim

/-- Elements of a slice, one after another. -/
theorem elems_of {n : Nat} {e : TypeId} {a : Addr} (hz : 0 < P.cellsOf e) : ∀ (len : Nat), (∀ i, i < len → ∃ cs ps, w.cells? 0 (a.add (i * P.cellsOf e)) (P.cellsOf e) = some cs ∧ PT P n e ps ∧ ROs noA w ps cs) →
    ∃ (xs : List PV) (vs : List Value), xs.length = len ∧ ROs noA w (flat xs) vs ∧ vs.length = len * P.cellsOf e ∧ (∀ (j : Nat) (v : Value), vs[j]? = some v → w.cell? (a.add j) = some v) ∧ (∀ x ∈ xs, x.cells.length = P.cellsOf e) ∧ ∀ x ∈ xs, PT P n e x.cells ∧ x.one = !isAggT P e
  | 0, h => ⟨[], [], rfl, ROs.nil _ _, by simp, by simp, by simp, by simp⟩
  | len + 1, h => by
    obtain ⟨xs, vs, h1, h2, h3, h4, h5, h6⟩ := elems_of hz len (fun i hi => h i (by omega))
    obtain ⟨cs, ps, k1, k2, k3⟩ := h len (by omega)
    obtain ⟨_, c2, c3⟩ := World.cells?_some k1
    have hadd : ∀ j, (a.add (len * P.cellsOf e)).add j = a.add (len * P.cellsOf e + j) := fun j => by
      unfold Addr.add
      by_cases hi : len * P.cellsOf e = 0 <;> by_cases hj : j = 0 <;> simp [hi, hj, Nat.add_assoc]
    obtain ⟨x, hx1, hx2⟩ : ∃ x : PV, x.cells = ps ∧ x.one = !isAggT P e := by
      cases ha : isAggT P e with
      | true => exact ⟨.agg ps, rfl, rfl⟩
      | false =>
        obtain ⟨p, rfl⟩ := k2.one ha
        have hp := k3.2.1 p (by simp)
        refine ⟨p, ?_, by simpa using hp⟩
        cases p <;> first | rfl | simp [PV.one] at hp
    refine ⟨xs ++ [x], vs ++ cs, by simp [h1], ?_, ?_, fun j v hv => ?_, ?_, ?_⟩
    · rw [flat_append, flat_cons, flat_nil, List.append_nil, hx1]
      exact h2.append k3
    · rw [List.length_append, h3, c2, Nat.add_mul, Nat.one_mul]
    · by_cases hj : j < vs.length
      · rw [List.getElem?_append_left hj] at hv
        exact h4 j v hv
      · rw [List.getElem?_append_right (by omega)] at hv
        have hlt : j - vs.length < P.cellsOf e := by
          have := (List.getElem?_eq_some_iff.1 hv).1
          omega
        have := c3 (j - vs.length) hlt
        rw [hadd, ← h3, show vs.length + (j - vs.length) = j by omega] at this
        rw [this]; exact hv
    · intro y hy
      rcases List.mem_append.1 hy with hy | hy
      · exact h5 y hy
      · simp at hy; subst hy
        rw [hx1, ← c2, k3.1]
    · intro y hy
      rcases List.mem_append.1 hy with hy | hy
      · exact h6 y hy
      · simp at hy; subst hy
        exact ⟨by rw [hx1]; exact k2, hx2⟩

theorem trod_PT {H : Type} {enc : TypeId × Value → H} {sp : Nat → Bool} {held : Bool} (hl : laidOutB P = true) (hm : mapsRowed P = true) : ∀ (n : Nat) (t : TypeId) (m : Nat) (cs : List Value) (x : DataW H × List MemPlace),
    t < P.types.size → okP P n t = true → DataW.trod enc P w 0 sp held m t cs = some x → ∃ ps, PT P n t ps ∧ ROs noA w ps cs
  | 0, t, m, cs, x, ht, hk, h => by simp [okP] at hk
  | n + 1, t, m, cs, x, ht, hk, h => by
    have K := kids_rows hl hm
    have e : PT P (n + 1) t = fun cs => (match P.underlying t with
      | some .bool => ∃ b, cs = [.bool b]
      | some (.int k) => ∃ m, cs = [.int k m] ∧ (Lit.int k m).wf = true
      | some .string => ∃ s, cs = [.str s] ∧ s.length ≤ maxLen
      | some (.slice e) => ∃ xs, cs = [.sl (P.cellsOf e) xs] ∧ xs.length ≤ maxLen ∧ ∀ x ∈ xs, PT P n e x.cells ∧ x.one = !isAggT P e
      | some (.struct fs) => ∃ pss : List (List PV), cs = pss.flatten ∧ pss.length = fs.size ∧ ∀ (i : Nat) (f : Field) (ps : List PV), fs[i]? = some f → pss[i]? = some ps → PT P n f.type ps ∧ ps.length = P.cellsOf f.type
      | some (.array m e) => ∃ pss : List (List PV), cs = pss.flatten ∧ pss.length = m ∧ ∀ ps ∈ pss, PT P n e ps ∧ ps.length = P.cellsOf e
      | _ => False) := rfl
    rw [e]
    unfold okP at hk
    have one : ∀ (p : PV) (v : Value), p.one = true → RO noA w p v → ROs noA w [p] [v] := fun p v hp hr =>
      ⟨rfl, by simpa using hp, fun i c u hc hu => by
        cases i with
        | zero => simp at hc hu; subst hc; subst hu; exact hr
        | succ i => simp at hc⟩
    split at hk
    · rename_i hu
      obtain ⟨b, rfl, _⟩ := DataW.trod_bool hu h
      simp only [hu]
      exact ⟨_, ⟨b, rfl⟩, one _ _ rfl (.bool b)⟩
    · rename_i k hu
      obtain ⟨z, rfl, _, hw⟩ := DataW.trod_int hu h
      simp only [hu]
      exact ⟨_, ⟨z, rfl, hw⟩, one _ _ rfl (.int k z)⟩
    · rename_i hu
      obtain ⟨s, rfl, _, hs⟩ := DataW.trod_string hu h
      simp only [hu]
      refine ⟨_, ⟨s.data.toList, rfl, by simpa using hs⟩, one _ _ rfl ?_⟩
      have e : (⟨s.data.toList.toArray⟩ : ByteArray) = s := by simp
      have := RO.str (A := noA) (w := w) s.data.toList
      rwa [e] at this
    · rename_i el hu
      simp only [Bool.and_eq_true, decide_eq_true_eq] at hk
      simp only [hu]
      rcases DataW.trod_slice hu h with ⟨rfl, _⟩ | ⟨a, len, cap, els, rest, m', _, rfl, _, _, h1, h2, h3, h4, _, _⟩
      · refine ⟨_, ⟨[], rfl, by simp, by simp⟩, one _ _ rfl ?_⟩
        exact RO.mkSl (ROs.nil _ _) (by simp) (by simp) (by simp) (Nat.le_refl _)
      · obtain ⟨xs, vs, k1, k2, k3, k4, k5, k6⟩ := elems_of (n := n) (a := a) hk.2 len (fun i hi => by
          have hi4 := h4 i hi
          obtain ⟨y, hy⟩ : ∃ y, els[i]? = some y := ⟨_, List.getElem?_eq_getElem (by omega)⟩
          rw [hy, Option.bind_eq_some_iff] at hi4
          obtain ⟨cs, c1, c2⟩ := hi4
          obtain ⟨ps, p1, p2⟩ := trod_PT hl hm n el m' cs y (K.slice ht hu) hk.1 c2
          exact ⟨cs, ps, c1, p1, p2⟩)
        refine ⟨_, ⟨xs, rfl, by omega, k6⟩, one _ _ rfl ?_⟩
        rw [← k1]
        exact RO.mkSl k2 (fun i v hv => ⟨a, rfl, fun hf => hf, k4 i v hv⟩) k5 (by omega) (by omega)
    · rename_i fs hu
      simp only [hu]
      obtain ⟨xs, m', _, _, h1, h2, h3⟩ := DataW.trod_struct hu h
      obtain ⟨s1, s2, s3⟩ := K.struct ht hu
      rw [s2] at h1
      obtain ⟨pss, k1, k2, k3⟩ := parts_of (P := P) (w := w) fs.toList cs (fun t ps => PT P n t ps) h1 (fun i f hf => by
        have hf' : fs[i]? = some f := by simpa using hf
        have hi3 := h3 i f hf'
        have hlt : i < xs.length := by
          rw [h2]
          exact (Array.getElem?_eq_some_iff.1 hf').1
        rw [List.getElem?_eq_getElem hlt, s3 i f hf] at hi3
        exact trod_PT hl hm n f.type m' _ _ (s1 f (List.mem_of_getElem? hf)) (by
          have := Array.all_eq_true.1 hk i (Array.getElem?_eq_some_iff.1 hf').1
          rwa [(Array.getElem?_eq_some_iff.1 hf').2] at this) hi3)
      exact ⟨_, ⟨pss, rfl, by simpa using k1, fun i f ps hf hp => k3 i f ps (by simpa using hf) hp⟩, k2⟩
    · rename_i len el hu
      simp only [hu]
      obtain ⟨xs, m', _, _, h1, h2, h3⟩ := DataW.trod_array hu h
      obtain ⟨s1, s2⟩ := K.array ht hu
      rw [s2] at h1
      obtain ⟨pss, k1, k2, k3⟩ := arr_of (w := w) len (P.cellsOf el) cs (fun ps => PT P n el ps) h1 (fun i hi => by
        have hi3 := h3 i hi
        rw [List.getElem?_eq_getElem (by omega)] at hi3
        exact trod_PT hl hm n el m' _ _ s1 hk hi3)
      exact ⟨_, ⟨pss, rfl, k1, k3⟩, k2⟩
    · cases hk
end
end Go.Ck

set_option linter.unusedVariables false
/-! From a contract to a row. -/
namespace Go.Ck
open Go.RowKit Go.ChangeShapes Go.WideShapes Go.ChangeAt

/-- Arguments of these types. -/
def PA (P : Program) (N : Nat) (ts : List TypeId) (pl : List PV) : Prop := pl.length = ts.length ∧ ∀ (j : Nat) (t : TypeId) (p : PV), ts[j]? = some t → pl[j]? = some p → PT P N t p.cells ∧ p.one = !isAggT P t

section
variable {P : Program} {W : World}

theorem ROs.agg {A : Nat → Prop} {w : World} {ps : List PV} {vs : Array Value} (h : ROs A w ps vs.toList) : RO A w (.agg ps) (.agg vs) :=
  .agg ps vs (by simpa using h.1) h.2.1 (fun i c v hc hv => h.2.2 i c v hc (by simpa using hv))

theorem one_value {N : Nat} {t : TypeId} {v : Value} {base : Nat} (hk : okP P N t = true) (hok : Value.okWide P W .any base t v) :
    (isAggT P t = true → ∃ cs, v = .agg cs) ∧ (isAggT P t = false → v.cells = #[v]) := by
  cases N with
  | zero => simp [okP] at hk
  | succ n =>
    unfold okP at hk
    unfold isAggT
    split at hk
    · rename_i hu
      rw [hu]
      refine ⟨fun h => (by cases h), fun _ => ?_⟩
      simp only [Value.okWide, hu, Cell.okWide] at hok
      cases v <;> simp_all [Cell.ok, Value.cells]
    · rename_i k hu
      rw [hu]
      refine ⟨fun h => (by cases h), fun _ => ?_⟩
      obtain ⟨z, rfl⟩ := okWide_int hu hok
      rfl
    · rename_i hu
      rw [hu]
      refine ⟨fun h => (by cases h), fun _ => ?_⟩
      obtain ⟨z, rfl⟩ := okWide_string hu hok
      rfl
    · rename_i e hu
      rw [hu]
      refine ⟨fun h => (by cases h), fun _ => ?_⟩
      obtain ⟨a, l, c, rfl⟩ := okWide_slice hu hok
      rfl
    · rename_i fs hu
      rw [hu]
      refine ⟨fun _ => ?_, fun h => (by cases h)⟩
      simp only [Value.okWide, hu] at hok
      obtain ⟨cs, h, _⟩ := hok
      exact ⟨cs, h⟩
    · rename_i m e hu
      rw [hu]
      refine ⟨fun _ => ?_, fun h => (by cases h)⟩
      simp only [Value.okWide, hu] at hok
      obtain ⟨cs, h, _⟩ := hok
      exact ⟨cs, h⟩
    · cases hk

theorem arg_PT {H : Type} {enc : TypeId × Value → H} {sp : Nat → Bool} {held : Bool} (hl : laidOutB P = true) (hm : mapsRowed P = true) {N : Nat} {t : TypeId} {v : Value} {d : DataW H} {ps : List MemPlace} {base : Nat}
    (ht : t < P.types.size) (hk : okP P N t = true) (hok : Value.okWide P W .any base t v) (h : DataW.Trod enc P W 0 sp held t v d ps) : ∃ p, PT P N t p.cells ∧ p.one = (!isAggT P t) ∧ RO noA W p v := by
  obtain ⟨m, hm'⟩ := h
  obtain ⟨qs, h1, h2⟩ := trod_PT hl hm N t m _ _ ht hk hm'
  obtain ⟨o1, o2⟩ := one_value hk hok
  cases ha : isAggT P t with
  | true =>
    obtain ⟨cs, rfl⟩ := o1 ha
    exact ⟨.agg qs, h1, rfl, ROs.agg h2⟩
  | false =>
    obtain ⟨p, rfl⟩ := h1.one ha
    rw [o2 ha] at h2
    have hp := h2.2.1 p (by simp)
    refine ⟨p, ?_, by simpa using hp, h2.2.2 0 p v rfl rfl⟩
    cases p <;> first | exact h1 | simp [PV.one] at hp

theorem args_PT {H : Type} {enc : TypeId × Value → H} {sp : Nat → Bool} {held : Bool} (hl : laidOutB P = true) (hm : mapsRowed P = true) {N base : Nat} : ∀ {ts : List TypeId} {vs : List Value} {ds : List (DataW H)} {ps : List MemPlace},
    (∀ t ∈ ts, t < P.types.size ∧ okP P N t = true) → (∀ (j : Nat) t v, ts[j]? = some t → vs[j]? = some v → Value.okWide P W .any base t v) → DataW.TrodAll enc P W 0 sp held ts vs ds ps →
    ∃ pl, PA P N ts pl ∧ vs.length = pl.length ∧ ∀ (j : Nat) (p : PV) (v : Value), pl[j]? = some p → vs[j]? = some v → RO noA W p v
  | [], vs, ds, ps, _, _, h => by
    obtain ⟨rfl, _, _⟩ := trodAll_nil h
    exact ⟨[], ⟨rfl, by simp⟩, rfl, by simp⟩
  | t :: ts, vs, ds, ps, ht, hok, h => by
    obtain ⟨v, vs', d, ds', p, q, rfl, rfl, rfl, h1, h2⟩ := trodAll_cons h
    obtain ⟨x, x1, x2, x3⟩ := arg_PT hl hm (ht t (by simp)).1 (ht t (by simp)).2 (hok 0 t v rfl rfl) h1
    obtain ⟨pl, y1, y2, y3⟩ := args_PT hl hm (fun u hu => ht u (by simp [hu])) (fun j u z hj hz => hok (j + 1) u z (by simpa using hj) (by simpa using hz)) h2
    refine ⟨x :: pl, ⟨by simp [y1.1], fun j u z hj hz => ?_⟩, by simp [y2], fun j z u hj hu => ?_⟩
    · cases j with
      | zero => simp at hj hz; subst hj; subst hz; exact ⟨x1, x2⟩
      | succ j => exact y1.2 j u z (by simpa using hj) (by simpa using hz)
    · cases j with
      | zero => simp at hj hu; subst hj; subst hu; exact x3
      | succ j => exact y3 j z u (by simpa using hj) (by simpa using hu)

def E0 : Env := ⟨fun _ => 0, fun _ => undef, noA⟩
theorem rel_start {pl : List PV} {vs : List Value} (hl : vs.length = pl.length) (h : ∀ (j : Nat) (p : PV) (v : Value), pl[j]? = some p → vs[j]? = some v → RO noA W p v) :
    Rel P ⟨E0.om, obOf E0 []⟩ W noA ⟨vs.length, zslots (pl.map .pv) 0, []⟩ E0 vs.toArray W := by
  have hat : ∀ p v, St.at ⟨vs.length, zslots (pl.map .pv) 0, []⟩ p = some v → ∃ d q, p = .slot d ∧ pl[d]? = some q ∧ v = .pv q := by
    intro p v hp
    cases p with
    | slot d =>
      simp only [St.at, look_zslots0, List.getElem?_map, Option.map_eq_some_iff] at hp
      obtain ⟨q, hq, rfl⟩ := hp
      exact ⟨d, q, rfl, hq, rfl⟩
    | part d i =>
      simp only [St.at, look_zslots0, List.getElem?_map] at hp
      cases hq : pl[d]? with
      | none => rw [hq] at hp; simp at hp
      | some q => rw [hq] at hp; simp at hp
    | cell o i => simp [St.at, look] at hp
  refine { place := ?_, obj := ?_, size := ?_, i1 := ?_, i2 := ?_, i3 := ?_, om_lt := ?_, om0 := ?_, na := ?_, np := ?_, gr := Grow.refl _ _, flt := ?_, ob := ?_ }
  · intro p v hp
    obtain ⟨d, q, rfl, hq, rfl⟩ := hat p v hp
    have hlt : d < vs.length := by rw [hl]; exact (List.getElem?_eq_some_iff.1 hq).1
    refine ⟨vs[d], by simp [CV, hlt], ?_⟩
    exact .pv _ _ ((h d q vs[d] hq (List.getElem?_eq_getElem hlt)).mono (fun b _ hb => ⟨fun hc => hc.elim hb hb, rfl⟩))
  · intro o y ho; simp [look] at ho
  · simp
  · intro o o' y y' ho; simp [look] at ho
  · intro p q e xs e' ys b hp
    obtain ⟨d, q, rfl, hq, hv⟩ := hat _ _ hp
    cases hv
  · intro p e xs o y b hp
    obtain ⟨d, q, rfl, hq, hv⟩ := hat _ _ hp
    cases hv
  · intro b hb; exact hb.elim
  · intro b hb; exact hb.elim
  · intro p v q hp hon
    obtain ⟨d, r, rfl, hq, rfl⟩ := hat _ _ hp
    simp [SV.on] at hon
  · intro p v o hp hpt
    obtain ⟨d, r, rfl, hq, rfl⟩ := hat _ _ hp
    simp [SV.pts] at hpt
  · intro b hb; exact hb.elim
  · intro o b hb
    simp [obOf, look] at hb

/-- A law, called. -/
theorem law_calls {H : Type} {enc : TypeId × Value → H} {f : FuncId} {N base : Nat} {ts : List TypeId} {args : Array Value} {ds : List (DataW H)} {ps : List MemPlace} (hl : laidOutB P = true) (hm : mapsRowed P = true) (ht : ∀ t ∈ ts, t < P.types.size ∧ okP P N t = true)
    (hF : ∀ pl, PA P N ts pl → Fn P f [] (pl.map .pv) (fun rs H' => rs = [.pv (.bool true)] ∧ H' = [])) (hG : GOK P noA W)
    (hval : ∀ (j : Nat) t v, ts[j]? = some t → args[j]? = some v → Value.okWide P W .any base t v) (hA : DataW.TrodAll enc P W 0 (fun _ => true) true ts args.toList ds ps) :
    Calls P f args W fun e W' => e = .returned (.bool true) ∧ Below W.heap.size W W' := by
  obtain ⟨pl, h1, h2, h3⟩ := args_PT hl hm ht (fun j t v hj hv => hval j t v hj (by simpa using hv)) hA
  have hR := rel_start (P := P) h2 h3
  have := (hF pl h1).2 noA W E0 args.toList (by simp [h2]) (hG.mono (fun b _ hb => ⟨fun hc => hc.elim hb hb, rfl⟩) (Nat.le_refl _)) hR
  simp only [Array.toArray_toList] at this
  refine this.mono (fun e w' he => ?_)
  cases e with
  | returned v =>
    obtain ⟨rs, H', E', us, ⟨rfl, rfl⟩, k1, rfl, k2⟩ := he
    match us, k1 with
    | [u], _ =>
      obtain ⟨x, hx, hp⟩ := k2.place (.slot 0) (.pv (.bool true)) rfl
      simp [CV] at hx
      subst hx
      cases hp with | pv _ _ hr =>
        cases hr
        refine ⟨rfl, k2.gr.os, k2.gr.tape, k2.gr.output, k2.gr.size, fun k hk => k2.gr.block k hk (fun hb => hb)⟩
  | panicked c => exact he.elim
  | outgrown => exact he.elim

theorem below_all {H : Type} {enc : TypeId × Value → H} (hl : laidOutB P = true) {W' : World} (hb : Below W.heap.size W W') : ∀ {ts : List TypeId} {vs : List Value} {ds : List (DataW H)} {ps : List MemPlace}, (∀ t ∈ ts, P.readableRec t = true ∧ t < P.types.size) →
    DataW.TrodAll enc P W 0 (fun _ => true) true ts vs ds ps → DataW.TrodAll enc P W' 0 (fun b => decide (b < W.heap.size)) true ts vs ds ps
  | [], vs, ds, ps, _, h => by
    obtain ⟨rfl, rfl, rfl⟩ := trodAll_nil h
    exact trodAll_mk0
  | t :: ts, vs, ds, ps, ht, h => by
    obtain ⟨v, vs', d, ds', p, q, rfl, rfl, rfl, h1, h2⟩ := trodAll_cons h
    refine ⟨p, q, Below.trod hl (ht t (by simp)).1 (ht t (by simp)).2 h1 hb (fun x hx => ?_), below_all hl hb (fun u hu => ht u (by simp [hu])) h2, rfl⟩
    obtain ⟨m, hm⟩ := h1
    exact DataW.trod_lt m _ _ _ hm x hx

theorem law_post {H : Type} {enc : TypeId × Value → H} {fn : Func} {s : ChangeSpec} {args : Array Value} {ds gs : List (DataW H)} {before : List MemPlace} {tb : TypeId} {W' : World} (hl : laidOutB P = true) (hv : s.vars = [])
    (hs : ∀ ds : List (DataW H), ds.length = fn.params.size → s.fn H ds = { results := [.lit (.bool true)], args := ds }) (hrt : fn.resultTypes = #[tb]) (hub : P.underlying tb = some .bool)
    (ht : ∀ t ∈ fn.params.toList, P.readableRec t = true ∧ t < P.types.size) (hW : DataW.Whole enc P fn.params.toList s.vars false W args.toList ds gs before) (hb : Below W.heap.size W W') :
    s.post enc P fn false true false false W args (.bool true) W' := by
  have hW' := hW
  obtain ⟨p, q, hA, hV, rfl, _, _⟩ := hW
  rw [hv] at hV
  obtain ⟨rfl, rfl⟩ := trodVars_none hV
  have hlen : ds.length = fn.params.size := by
    have := (trodAll_length hA).2
    simpa using this
  have hs' := hs ds hlen
  refine ⟨ds, [], p ++ [], [], p, [], hW', ?_, ?_, ?_, hb.frame _, fun h => by cases h⟩
  · rw [List.append_nil, hs', hrt]
    exact trodAll_mk1 (shut_bool hub _)
  · rw [List.append_nil, hs']
    exact below_all hl hb ht hA
  · rw [List.append_nil, hs', hv]
    rfl
end
end Go.Ck

set_option linter.unusedVariables false
/-! From a contract to a row, where a table is laid. -/
namespace Go.Ck
open Go.RowKit Go.ChangeShapes Go.WideShapes Go.ChangeAt

theorem gok_none {P : Program} {W : World} (h : gtabs P = []) : GOK P noA W := fun g l hg => by rw [h] at hg; cases hg
def tabD {H : Type} : DataW H := .agg (debruijn.map fun (n : Nat) => .lit (.int .u8 (n : Int)))
theorem gok_table {P : Program} {W : World} {g t e : Nat} {laid : List (String × DataW Unit)} (hl : laid = [("math/bits.deBruijn64tab", tabD)]) (hgt : gtabs P = [(g, debruijn)]) (hg : P.globalNamed "math/bits.deBruijn64tab" = some g) (ht : (P.globals[g]?).map (·.type) = some t)
    (hu : P.underlying t = some (.array 64 e)) (he : P.underlying e = some (.int .u8)) (hc : P.cellsOf e = 1) (h : laidMetH P laid W) : GOK P noA W := by
  subst hl
  rw [MakeChecks.laidMetH_plain _ _ _ rfl] at h
  obtain ⟨ps, ⟨g0, t0, cs0, f0, p0, q0, hg0, ht0, hv0, hd0, _, _⟩, _, _⟩ := h
  obtain rfl := Option.some.inj (hg.symm.trans hg0)
  obtain rfl := Option.some.inj (ht.symm.trans ht0)
  obtain ⟨xs, m, _, hx, hlen, hn, hel⟩ := DataW.trod_array hu hd0
  rw [hc] at hel
  simp only [Prod.mk.injEq] at hx
  have hx1 : debruijn.map (fun (n : Nat) => (DataW.lit (.int .u8 (n : Int)) : DataW Unit)) = xs.map (·.1) := by
    have := hx.1
    unfold tabD at this
    injection this
  intro g' l hgl
  rw [hgt] at hgl
  simp only [List.mem_cons, List.not_mem_nil, or_false, Prod.mk.injEq] at hgl
  obtain ⟨rfl, rfl⟩ := hgl
  have hcell := World.var?_cell hg hv0
  refine ⟨fun hb => hb, ?_, fun i n hi => ?_⟩
  · simp only [World.var?, hg, Option.bind_some] at hv0
    split at hv0
    · rename_i hb
      exact (Array.getElem?_eq_some_iff.1 hb).1
    · cases hv0
  · have hi64 : i < 64 := (List.getElem?_eq_some_iff.1 hi).1
    have h1 := hel i hi64
    have hxi : i < xs.length := by omega
    rw [List.getElem?_eq_getElem hxi] at h1
    obtain ⟨z, e1, e2, _⟩ := DataW.trod_int he h1
    have h2 : (debruijn.map (fun (n : Nat) => (DataW.lit (.int .u8 (n : Int)) : DataW Unit)))[i]? = (xs.map (·.1))[i]? := by rw [hx1]
    rw [List.getElem?_map, hi, List.getElem?_map, List.getElem?_eq_getElem hxi, e2] at h2
    simp at h2
    subst h2
    rw [hcell i]
    rw [Nat.mul_one] at e1
    have h3 : cs0.toList[i]? = some (.int .u8 (n : Int)) := by
      have h4 : ((cs0.toList.drop i).take 1)[0]? = some (.int .u8 (n : Int)) := by rw [e1]; rfl
      rw [List.getElem?_take, if_pos (by omega), List.getElem?_drop] at h4
      simpa using h4
    simpa using h3

theorem law_lifted {C : Checked} {os : Os} {f : FuncId} {fn : Func} {s : ChangeSpec} {H : Type} {enc : TypeId × Value → H} {laid : List (String × DataW Unit)} {N : Nat} {tb : TypeId} (own : ownKnob C.prog.godebug = none) (started : os.Started) (noInit : C.prog.inits.idxOf? f = none) (hfn : C.prog.funcs[f]? = some fn)
    (witness : ∃ (w : World) (tape : Tape) (i : Input), w.os = os ∧ (w.forCall tape i).Shaped C.prog ∧ i.vars = [] ∧ Input.okWide C.prog (w.forCall tape i) .any w.heap.size f i ∧
      ((s.pre enc C.prog fn [] false (w.forCall tape i).memory i.args ∧ laidMetH C.prog laid (w.forCall tape i).memory) ∧ sizedMet enc C.prog fn (OpenSpec.ofChange s) false (w.forCall tape i).memory i.args) ∧ ({} : Assume).holds C.prog (lone (Frame.enter C.prog f i.args .normal) [] (w.forCall tape i)))
    (hl : laidOutB C.prog = true) (hm : mapsRowed C.prog = true) (ht : fn.params.toList.all (fun t => decide (t < C.prog.types.size) && okP C.prog N t && C.prog.readableRec t) = true) (hv : s.vars = [])
    (hs : ∀ ds : List (DataW H), ds.length = fn.params.size → s.fn H ds = { results := [.lit (.bool true)], args := ds }) (hrt : fn.resultTypes = #[tb]) (hub : C.prog.underlying tb = some .bool)
    (hF : ∀ pl, PA C.prog N fn.params.toList pl → Fn C.prog f [] (pl.map .pv) (fun rs H' => rs = [.pv (.bool true)] ∧ H' = [])) (hG : ∀ w, laidMetH C.prog laid w → GOK C.prog noA w) :
    ReturnsInHanded {} C os f .any (fun w args => (s.pre enc C.prog fn [] false w args ∧ laidMetH C.prog laid w) ∧ sizedMet enc C.prog fn (OpenSpec.ofChange s) false w args) (s.post enc C.prog fn false true false false) := by
  refine returnsInHanded_of_change_and (C := C) (X := fun w _ => laidMetH C.prog laid w) (fun _ _ _ hh h => h.of_heap hh) own started noInit hfn witness ?_
  intro W base args ds gs before hval hW _ _ hL _
  have ht' : ∀ t ∈ fn.params.toList, t < C.prog.types.size ∧ okP C.prog N t = true ∧ C.prog.readableRec t = true := fun t h => by
    have := List.all_eq_true.1 ht t h
    simp only [Bool.and_eq_true, decide_eq_true_eq] at this
    exact ⟨this.1.1, this.1.2, this.2⟩
  have hW' := hW
  obtain ⟨p, q, hA, hV, _, _, _⟩ := hW
  refine (law_calls (enc := enc) hl hm (fun t h => ⟨(ht' t h).1, (ht' t h).2.1⟩) hF (hG W hL) (fun j t v hj hv => hval j t v (by simpa using hj) hv) hA).mono fun e W' ⟨he, hb⟩ => ⟨_, he, ?_⟩
  exact law_post hl hv hs hrt hub (fun t h => ⟨(ht' t h).2.2, (ht' t h).1⟩) hW' hb
end Go.Ck

set_option linter.unusedVariables false
/-! An array's element, by value. -/
namespace Go.Ck
open Go.RowKit
attribute [go_sem] arrFs_get isIntO isBoolO TK.isInt TK.isSl
section
variable {P : Program} {R : Option Nat} {Φ : Exit → Cx → St → Prop} {k : List It} {C : Cx} {s : St}
theorem ev_agg {B : Bs} {E : Env} {a : Act} {w : World} (hE : Rel P B.O B.w B.F s E a.tmps w) {x : Operand} {cs : List PV} (h : ev s x = some (.pv (.agg cs))) : ∃ vs : Array Value, a.eval x = .agg vs ∧ ROs (fun b => E.om b ∨ B.F b) w cs vs.toList := by
  have := ev_rs hE h
  generalize a.eval x = z at this
  cases this with | pv _ _ h =>
    cases h with | agg cs vs hl h1 hr => exact ⟨vs, rfl, by simpa using hl, h1, fun i c v hc hv => hr i c v hc (by simpa using hv)⟩
theorem AW.indexArr {all : Array Oper} {o : Oper} {r : List Oper} {d t : Nat} {x i : Operand} {cs : List PV} {n m e ez : Nat} {ea : Bool} {kk : IntKind} {q : PV} (hx : ev s x = some (.pv (.agg cs))) (hi : ev s i = some (.pv (.int kk (n : Int)))) (hT : tk P t = .arr m e ez ea) (hn : n < m) (hz : tsh P e = some (ez, ea)) (hq : subP (.agg cs) (n * ez) (some (ez, ea)) = some q)
    (hk : AW P R Φ .normal (.ops all r :: k) C (put d (.pv q) s)) (hg : o.guard = none := by rfl) (hd : o.dst = some d := by rfl) (ho : o.op = .index t x i := by rfl) : AW P R Φ .normal (.ops all (o :: r) :: k) C s := by
  refine AW.opSV hg hd (fun c hc => by rw [ho] at hc; cases hc) (.pv _ _) (fun B E a w _ hE => ?_) hk
  obtain ⟨vs, e1, hv⟩ := ev_agg hE hx
  have e2 := ev_int hE hi
  obtain ⟨hu, hce⟩ := tk_arr hT
  obtain ⟨z, ag, us, hTz, h1, hus, hul, hr⟩ := subP_sound hq hv
  cases hTz
  obtain ⟨dd, inf, hud, hinf, hsz, hag⟩ := tsh_parts (w := w) hz
  have hsize : (sizeOf e).run P w = .ok ez w := by rw [run_sizeOf w hinf]; simp [Program.cellsOf, hinf, hsz]
  refine ⟨_, ?_, .pv _ _ hr⟩
  have h0 : (0 : Int) ≤ (n : Int) ∧ (n : Int) < (m : Int) := by omega
  have hpart : (part e vs (n * ez)).run P w = .ok (if ea then .agg us.toArray else us.headD undef) w := by
    unfold part
    cases ea with
    | true =>
      simp only [Sem.run_bind, hag, Result.andThen_ok, if_true, hsize, Sem.run_pure]
      congr 2
      rw [hus]
      apply Array.ext'
      rw [Array.toList_extract, List.extract_eq_take_drop, Nat.add_sub_cancel_left]
    | false =>
      have hz1 := h1 rfl
      subst hz1
      obtain ⟨v, rfl⟩ : ∃ v, us = [v] := by
        match us, hul with
        | [v], _ => exact ⟨v, rfl⟩
      have hv1 : vs[n * 1]? = some v := by
        have h4 : ((vs.toList.drop (n * 1)).take 1)[0]? = some v := by rw [← hus]; rfl
        rw [List.getElem?_take, if_pos (by omega), List.getElem?_drop] at h4
        simpa using h4
      simp only [Sem.run_bind, hag, Result.andThen_ok, hv1]
      rfl
  simp [execOp, ho, e1, e2, Instr.index, asIntOf, Result.andThen, run_underlying hu, hn, hsize, hpart]
end
end Go.Ck

set_option linter.unusedVariables false
/-! Numbers. -/
namespace Go.Ck

def u64s (l : List Nat) : List PV := l.map fun (n : Nat) => .int .u64 (n : Int)
def bytes (l : List Nat) : List PV := l.map fun (n : Nat) => .int .u8 (n : Int)
def ints (l : List Int) : List PV := l.map (.int .i64)

theorem wrap_u64 (n : Nat) : IntKind.u64.wrap (n : Int) = ((n % 2 ^ 64 : Nat) : Int) := by
  rw [IntKind.wrap_u64]; omega
theorem wrap_u64_lt {n : Nat} (h : n < 2 ^ 64) : IntKind.u64.wrap (n : Int) = (n : Int) := by rw [wrap_u64, Nat.mod_eq_of_lt h]
theorem wrap_u8 (n : Nat) : IntKind.u8.wrap (n : Int) = ((n % 256 : Nat) : Int) := by
  rw [IntKind.wrap_u8]; omega
theorem wrap_u8_lt {n : Nat} (h : n < 256) : IntKind.u8.wrap (n : Int) = (n : Int) := by rw [wrap_u8, Nat.mod_eq_of_lt h]
theorem wrap_i64_of {n : Int} (h : -(2 ^ 63) ≤ n) (h2 : n < 2 ^ 63) : IntKind.i64.wrap n = n := by
  rw [IntKind.wrap_i64]; omega
theorem wrap_i64_nat {n : Nat} (h : n < 2 ^ 63) : IntKind.i64.wrap (n : Int) = (n : Int) := wrap_i64_of (by omega) (by omega)
theorem wrap_i64_succ {n : Nat} (h : n + 1 < 2 ^ 63) : IntKind.i64.wrap ((n : Int) + 1) = ((n + 1 : Nat) : Int) := by rw [wrap_i64_of (by omega) (by omega)]; omega

theorem ofInt_nat (w n : Nat) : BitVec.ofInt w (n : Int) = BitVec.ofNat w n := by simp
theorem ibits_or64 {a b : Nat} (ha : a < 2 ^ 64) (hb : b < 2 ^ 64) : ibits .or .u64 (a : Int) (b : Int) = ((a ||| b : Nat) : Int) := by
  simp only [ibits, ofInt_nat, BitVec.toNat_or, BitVec.toNat_ofNat]
  rw [show IntKind.u64.bits = 64 from rfl, Nat.mod_eq_of_lt ha, Nat.mod_eq_of_lt hb, wrap_u64_lt (Nat.or_lt_two_pow ha hb)]
theorem ibits_and64 {a b : Nat} (ha : a < 2 ^ 64) (hb : b < 2 ^ 64) : ibits .and .u64 (a : Int) (b : Int) = ((a &&& b : Nat) : Int) := by
  simp only [ibits, ofInt_nat, BitVec.toNat_and, BitVec.toNat_ofNat]
  rw [show IntKind.u64.bits = 64 from rfl, Nat.mod_eq_of_lt ha, Nat.mod_eq_of_lt hb, wrap_u64_lt (Nat.lt_of_le_of_lt Nat.and_le_left ha)]
theorem ibits_xor64 {a b : Nat} (ha : a < 2 ^ 64) (hb : b < 2 ^ 64) : ibits .xor .u64 (a : Int) (b : Int) = ((a ^^^ b : Nat) : Int) := by
  simp only [ibits, ofInt_nat, BitVec.toNat_xor, BitVec.toNat_ofNat]
  rw [show IntKind.u64.bits = 64 from rfl, Nat.mod_eq_of_lt ha, Nat.mod_eq_of_lt hb, wrap_u64_lt (Nat.xor_lt_two_pow ha hb)]
theorem ibits_or8 {a b : Nat} (ha : a < 2 ^ 8) (hb : b < 2 ^ 8) : ibits .or .u8 (a : Int) (b : Int) = ((a ||| b : Nat) : Int) := by
  simp only [ibits, ofInt_nat, BitVec.toNat_or, BitVec.toNat_ofNat]
  rw [show IntKind.u8.bits = 8 from rfl, Nat.mod_eq_of_lt ha, Nat.mod_eq_of_lt hb, wrap_u8_lt (Nat.or_lt_two_pow ha hb)]
theorem ibits_and8 {a b : Nat} (ha : a < 2 ^ 8) (hb : b < 2 ^ 8) : ibits .and .u8 (a : Int) (b : Int) = ((a &&& b : Nat) : Int) := by
  simp only [ibits, ofInt_nat, BitVec.toNat_and, BitVec.toNat_ofNat]
  rw [show IntKind.u8.bits = 8 from rfl, Nat.mod_eq_of_lt ha, Nat.mod_eq_of_lt hb, wrap_u8_lt (Nat.lt_of_le_of_lt Nat.and_le_left ha)]
theorem shrI_nat (k : IntKind) (a m : Nat) (hm : m ≤ k.bits) : shrI k (a : Int) (m : Int) = ((a / 2 ^ m : Nat) : Int) := by
  unfold shrI
  rw [Int.toNat_natCast, Nat.min_eq_left hm, Int.fdiv_eq_ediv_of_nonneg _ (by exact_mod_cast Nat.zero_le _)]
  simp
theorem shlI_nat64 (a m : Nat) (hm : m ≤ 64) : shlI .u64 (a : Int) (m : Int) = ((a * 2 ^ m % 2 ^ 64 : Nat) : Int) := by
  unfold shlI
  rw [Int.toNat_natCast, show IntKind.u64.bits = 64 from rfl, Nat.min_eq_left hm, ← wrap_u64]
  simp
theorem shlI_nat8 (a m : Nat) (hm : m ≤ 8) : shlI .u8 (a : Int) (m : Int) = ((a * 2 ^ m % 256 : Nat) : Int) := by
  unfold shlI
  rw [Int.toNat_natCast, show IntKind.u8.bits = 8 from rfl, Nat.min_eq_left hm, ← wrap_u8]
  simp

theorem bytes_length (l : List Nat) : (bytes l).length = l.length := by simp [bytes]
theorem bytes_append (l r : List Nat) : bytes l ++ bytes r = bytes (l ++ r) := by simp [bytes]
theorem bytes_take (l : List Nat) (n : Nat) : (bytes l).take n = bytes (l.take n) := by simp [bytes]
theorem bytes_drop (l : List Nat) (n : Nat) : (bytes l).drop n = bytes (l.drop n) := by simp [bytes]
theorem bytes_nil : ([] : List PV) = bytes [] := rfl
theorem bytes_one (n : Nat) : [PV.int .u8 (n : Int)] = bytes [n] := rfl
theorem bytes_get {l : List Nat} {i : Nat} (h : i < l.length) : (bytes l)[i]? = some (.int .u8 (l[i] : Nat)) := by simp [bytes, h]
theorem bytes_set (l : List Nat) (i n : Nat) : (bytes l).set i (.int .u8 (n : Int)) = bytes (l.set i n) := by simp [bytes, List.map_set]
theorem u64s_length (l : List Nat) : (u64s l).length = l.length := by simp [u64s]
theorem u64s_append (l r : List Nat) : u64s l ++ u64s r = u64s (l ++ r) := by simp [u64s]
theorem u64s_take (l : List Nat) (n : Nat) : (u64s l).take n = u64s (l.take n) := by simp [u64s]
theorem u64s_drop (l : List Nat) (n : Nat) : (u64s l).drop n = u64s (l.drop n) := by simp [u64s]
theorem u64s_get {l : List Nat} {i : Nat} (h : i < l.length) : (u64s l)[i]? = some (.int .u64 (l[i] : Nat)) := by simp [u64s, h]
theorem ints_length (l : List Int) : (ints l).length = l.length := by simp [ints]
theorem ints_append (l r : List Int) : ints l ++ ints r = ints (l ++ r) := by simp [ints]
theorem ints_take (l : List Int) (n : Nat) : (ints l).take n = ints (l.take n) := by simp [ints]
theorem ints_drop (l : List Int) (n : Nat) : (ints l).drop n = ints (l.drop n) := by simp [ints]
theorem ints_get {l : List Int} {i : Nat} (h : i < l.length) : (ints l)[i]? = some (.int .i64 l[i]) := by simp [ints, h]
theorem cloL_bytes (l : List Nat) : cloL (bytes l) = true := by induction l with | nil => rfl | cons a l ih => simpa [bytes, cloL, PV.clo] using ih
theorem cloL_u64s (l : List Nat) : cloL (u64s l) = true := by induction l with | nil => rfl | cons a l ih => simpa [u64s, cloL, PV.clo] using ih
theorem cloL_ints (l : List Int) : cloL (ints l) = true := by induction l with | nil => rfl | cons a l ih => simpa [ints, cloL, PV.clo] using ih
def nis (l : List Nat) : List PV := l.map fun (n : Nat) => .int .i64 (n : Int)
theorem nis_length (l : List Nat) : (nis l).length = l.length := by simp [nis]
theorem nis_append (l r : List Nat) : nis l ++ nis r = nis (l ++ r) := by simp [nis]
theorem nis_take (l : List Nat) (n : Nat) : (nis l).take n = nis (l.take n) := by simp [nis]
theorem nis_drop (l : List Nat) (n : Nat) : (nis l).drop n = nis (l.drop n) := by simp [nis]
theorem nis_one (n : Nat) : [PV.int .i64 (n : Int)] = nis [n] := rfl
theorem nis_nil : ([] : List PV) = nis [] := rfl
theorem nis_get {l : List Nat} {i : Nat} (h : i < l.length) : (nis l)[i]? = some (.int .i64 (l[i] : Nat)) := by simp [nis, h]
theorem nis_set (l : List Nat) (i n : Nat) : (nis l).set i (.int .i64 (n : Int)) = nis (l.set i n) := by simp [nis, List.map_set]
theorem cloL_nis (l : List Nat) : cloL (nis l) = true := by induction l with | nil => rfl | cons a l ih => simpa [nis, cloL, PV.clo] using ih
theorem u64s_one (n : Nat) : [PV.int .u64 (n : Int)] = u64s [n] := rfl
theorem u64s_nil : ([] : List PV) = u64s [] := rfl
theorem u64s_set (l : List Nat) (i n : Nat) : (u64s l).set i (.int .u64 (n : Int)) = u64s (l.set i n) := by simp [u64s, List.map_set]
theorem ints_one (n : Int) : [PV.int .i64 n] = ints [n] := rfl
attribute [go_sem] nis_length nis_append nis_take nis_drop cloL_nis
theorem bytes_get0 (x : Nat) (r : List Nat) : (bytes (x :: r))[0]? = some (.int .u8 (x : Int)) := rfl
theorem u64s_get0 (x : Nat) (r : List Nat) : (u64s (x :: r))[0]? = some (.int .u64 (x : Int)) := rfl
theorem nis_get0 (x : Nat) (r : List Nat) : (nis (x :: r))[0]? = some (.int .i64 (x : Int)) := rfl
theorem ints_get0 (x : Int) (r : List Int) : (ints (x :: r))[0]? = some (.int .i64 x) := rfl
attribute [go_sem] bytes_get0 u64s_get0 nis_get0 ints_get0
theorem nat_lt_zero (n : Nat) : ((n : Int) < 0) = False := by simp
theorem zero_le_nat (n : Nat) : ((0 : Int) ≤ (n : Int)) = True := by simp
theorem le_maxLen (n : Nat) (h : n ≤ 1000 := by decide) : n ≤ maxLen := by unfold maxLen; omega
theorem le_room (n : Nat) (h : n ≤ 1000 := by decide) : n ≤ room := by unfold room; omega
theorem le_maxLen0 : (0 ≤ maxLen) = True := by simp
theorem le_maxLen1 : (1 ≤ maxLen) = True := by simp [le_maxLen]
theorem le_maxLen2 : (2 ≤ maxLen) = True := by simp [le_maxLen]
theorem le_maxLen3 : (3 ≤ maxLen) = True := by simp [le_maxLen]
theorem le_maxLen16 : (16 ≤ maxLen) = True := by simp [le_maxLen]
theorem le_room0 : (0 ≤ room) = True := by simp
theorem le_room1 : (1 ≤ room) = True := by simp [le_room]
theorem le_room8 : (8 ≤ room) = True := by simp [le_room]
theorem natmul (k n : Nat) : ((k : Nat) : Int) * (n : Int) = ((k * n : Nat) : Int) := rfl
attribute [go_sem] le_maxLen0 le_maxLen1 le_maxLen2 le_maxLen3 le_maxLen16 le_room0 le_room1 le_room8 natmul Nat.one_mul Int.toNat_natCast
attribute [go_sem] nat_lt_zero zero_le_nat id_eq id bytes_length bytes_append bytes_take bytes_drop u64s_length u64s_append u64s_take u64s_drop ints_length ints_append ints_take ints_drop cloL_bytes cloL_u64s cloL_ints Int.ofNat_le Int.ofNat_lt SV.clo HO.clo PV.clo okA okB resOK nodupB freshO nilL cellsIn inL offP offM neM HM allIn List.isEmpty_nil Option.isSome_some Int.natCast_nonneg Int.sub_zero Option.map_some Option.map_none
end Go.Ck

set_option linter.unusedVariables false
/-! Arguments of a few kinds. -/
namespace Go.Ck

theorem cells_one {p q : PV} (h : p.cells = [q]) (h1 : p.one = true) : p = q := by
  cases p <;> first | (simp [PV.cells] at h; exact h) | simp [PV.one] at h1
section
variable {P : Program} {n : Nat} {t : TypeId} {p : PV}
theorem PT_int {k : IntKind} (hu : P.underlying t = some (.int k)) (h : PT P (n + 1) t p.cells) (h1 : p.one = !isAggT P t) : ∃ m, p = .int k m ∧ (Lit.int k m).wf = true := by
  unfold isAggT at h1
  rw [hu] at h1
  unfold PT at h
  rw [hu] at h
  obtain ⟨m, e, hw⟩ := h
  exact ⟨m, cells_one e h1, hw⟩
theorem PT_str (hu : P.underlying t = some .string) (h : PT P (n + 1) t p.cells) (h1 : p.one = !isAggT P t) : ∃ s, p = .str s ∧ s.length ≤ maxLen := by
  unfold isAggT at h1
  rw [hu] at h1
  unfold PT at h
  rw [hu] at h
  obtain ⟨m, e, hw⟩ := h
  exact ⟨m, cells_one e h1, hw⟩
theorem PT_slice {e : TypeId} (hu : P.underlying t = some (.slice e)) (h : PT P (n + 1) t p.cells) (h1 : p.one = !isAggT P t) : ∃ xs, p = .sl (P.cellsOf e) xs ∧ xs.length ≤ maxLen ∧ ∀ x ∈ xs, PT P n e x.cells ∧ x.one = !isAggT P e := by
  unfold isAggT at h1
  rw [hu] at h1
  unfold PT at h
  rw [hu] at h
  obtain ⟨xs, e, h2, h3⟩ := h
  exact ⟨xs, cells_one e h1, h2, h3⟩
theorem ints_of {k : IntKind} : ∀ (xs : List PV), (∀ x ∈ xs, ∃ m, x = .int k m ∧ (Lit.int k m).wf = true) → ∃ l : List Int, xs = l.map (.int k) ∧ ∀ m ∈ l, (Lit.int k m).wf = true
  | [], _ => ⟨[], rfl, by simp⟩
  | x :: r, h => by
    obtain ⟨m, rfl, hm⟩ := h x (by simp)
    obtain ⟨l, rfl, hl⟩ := ints_of r (fun y hy => h y (by simp [hy]))
    exact ⟨m :: l, rfl, by simpa using ⟨hm, hl⟩⟩
theorem PT_ints {e : TypeId} {k : IntKind} (hu : P.underlying t = some (.slice e)) (he : P.underlying e = some (.int k)) (hc : P.cellsOf e = 1) (h : PT P (n + 2) t p.cells) (h1 : p.one = !isAggT P t) : ∃ l : List Int, p = .sl 1 (l.map (.int k)) ∧ l.length ≤ maxLen ∧ ∀ m ∈ l, (Lit.int k m).wf = true := by
  obtain ⟨xs, rfl, h2, h3⟩ := PT_slice (n := n + 1) hu h h1
  obtain ⟨l, rfl, hl⟩ := ints_of xs (fun x hx => PT_int (n := n) he (h3 x hx).1 (h3 x hx).2)
  exact ⟨l, by rw [hc], by simpa using h2, hl⟩
theorem nats_of {k : IntKind} (hk : k.signed = false) : ∀ (l : List Int), (∀ m ∈ l, (Lit.int k m).wf = true) → ∃ r : List Nat, l = r.map (fun (n : Nat) => (n : Int)) ∧ ∀ x ∈ r, x < 2 ^ k.bits
  | [], _ => ⟨[], rfl, by simp⟩
  | m :: r, h => by
    have hm := h m (by simp)
    simp only [Lit.wf, IntKind.min, IntKind.max, hk, Bool.and_eq_true, decide_eq_true_eq] at hm
    obtain ⟨l, rfl, hl⟩ := nats_of hk r (fun y hy => h y (by simp [hy]))
    obtain ⟨a, rfl⟩ : ∃ a : Nat, m = a := ⟨m.toNat, by have := hm.1; simp at this; omega⟩
    refine ⟨a :: l, rfl, ?_⟩
    simp only [List.mem_cons, forall_eq_or_imp]
    refine ⟨?_, hl⟩
    have h2 : (a : Int) ≤ 2 ^ k.bits - 1 := hm.2
    have h3 : ((2 ^ k.bits : Nat) : Int) = (2 : Int) ^ k.bits := by norm_cast
    omega
theorem PT_u64s {e : TypeId} (hu : P.underlying t = some (.slice e)) (he : P.underlying e = some (.int .u64)) (hc : P.cellsOf e = 1) (h : PT P (n + 2) t p.cells) (h1 : p.one = !isAggT P t) : ∃ l : List Nat, p = .sl 1 (u64s l) ∧ l.length ≤ maxLen ∧ ∀ x ∈ l, x < 2 ^ 64 := by
  obtain ⟨l, rfl, h2, h3⟩ := PT_ints (n := n) hu he hc h h1
  obtain ⟨r, rfl, h4⟩ := nats_of rfl l h3
  exact ⟨r, by simp [u64s], by simpa using h2, h4⟩
theorem PT_bytes {e : TypeId} (hu : P.underlying t = some (.slice e)) (he : P.underlying e = some (.int .u8)) (hc : P.cellsOf e = 1) (h : PT P (n + 2) t p.cells) (h1 : p.one = !isAggT P t) : ∃ l : List Nat, p = .sl 1 (bytes l) ∧ l.length ≤ maxLen ∧ ∀ x ∈ l, x < 256 := by
  obtain ⟨l, rfl, h2, h3⟩ := PT_ints (n := n) hu he hc h h1
  obtain ⟨r, rfl, h4⟩ := nats_of rfl l h3
  exact ⟨r, by simp [bytes], by simpa using h2, h4⟩
theorem PT_u64 (hu : P.underlying t = some (.int .u64)) (h : PT P (n + 1) t p.cells) (h1 : p.one = !isAggT P t) : ∃ v : Nat, p = .int .u64 v ∧ v < 2 ^ 64 := by
  obtain ⟨m, rfl, hm⟩ := PT_int hu h h1
  obtain ⟨r, hr, h4⟩ := nats_of (k := .u64) rfl [m] (by simpa using hm)
  match r, hr with
  | [a], hr => simp at hr; subst hr; exact ⟨a, rfl, h4 a (by simp)⟩
theorem PT_u8 (hu : P.underlying t = some (.int .u8)) (h : PT P (n + 1) t p.cells) (h1 : p.one = !isAggT P t) : ∃ v : Nat, p = .int .u8 v ∧ v < 256 := by
  obtain ⟨m, rfl, hm⟩ := PT_int hu h h1
  obtain ⟨r, hr, h4⟩ := nats_of (k := .u8) rfl [m] (by simpa using hm)
  match r, hr with
  | [a], hr => simp at hr; subst hr; exact ⟨a, rfl, h4 a (by simp)⟩
theorem wf_i64 {m : Int} (h : (Lit.int .i64 m).wf = true) : -2 ^ 63 ≤ m ∧ m < 2 ^ 63 := by
  simp only [Lit.wf, IntKind.min, IntKind.max, Bool.and_eq_true, decide_eq_true_eq] at h
  have h1 : -(2 : Int) ^ 63 ≤ m := of_decide_eq_true h.1
  have h2 : m ≤ (2 : Int) ^ 63 - 1 := of_decide_eq_true h.2
  omega
theorem PT_i64 (hu : P.underlying t = some (.int .i64)) (h : PT P (n + 1) t p.cells) (h1 : p.one = !isAggT P t) : ∃ v : Int, p = .int .i64 v ∧ -2 ^ 63 ≤ v ∧ v < 2 ^ 63 := by
  obtain ⟨m, rfl, hm⟩ := PT_int hu h h1
  exact ⟨m, rfl, wf_i64 hm⟩
theorem PT_i64s {e : TypeId} (hu : P.underlying t = some (.slice e)) (he : P.underlying e = some (.int .i64)) (hc : P.cellsOf e = 1) (h : PT P (n + 2) t p.cells) (h1 : p.one = !isAggT P t) : ∃ l : List Int, p = .sl 1 (ints l) ∧ l.length ≤ maxLen ∧ ∀ x ∈ l, -2 ^ 63 ≤ x ∧ x < 2 ^ 63 := by
  obtain ⟨l, rfl, h2, h3⟩ := PT_ints (n := n) hu he hc h h1
  exact ⟨l, rfl, h2, fun x hx => wf_i64 (h3 x hx)⟩
theorem PA1 {N : Nat} {t : TypeId} {pl : List PV} (h : PA P N [t] pl) : ∃ p, pl = [p] ∧ PT P N t p.cells ∧ p.one = !isAggT P t := by
  obtain ⟨h1, h2⟩ := h
  match pl, h1 with
  | [p], _ => exact ⟨p, rfl, h2 0 _ _ rfl rfl⟩
theorem PA2 {N : Nat} {t u : TypeId} {pl : List PV} (h : PA P N [t, u] pl) : ∃ p q, pl = [p, q] ∧ (PT P N t p.cells ∧ p.one = !isAggT P t) ∧ (PT P N u q.cells ∧ q.one = !isAggT P u) := by
  obtain ⟨h1, h2⟩ := h
  match pl, h1 with
  | [p, q], _ => exact ⟨p, q, rfl, h2 0 _ _ rfl rfl, h2 1 _ _ rfl rfl⟩
theorem PA3 {N : Nat} {t u v : TypeId} {pl : List PV} (h : PA P N [t, u, v] pl) : ∃ p q r, pl = [p, q, r] ∧ (PT P N t p.cells ∧ p.one = !isAggT P t) ∧ (PT P N u q.cells ∧ q.one = !isAggT P u) ∧ (PT P N v r.cells ∧ r.one = !isAggT P v) := by
  obtain ⟨h1, h2⟩ := h
  match pl, h1 with
  | [p, q, r], _ => exact ⟨p, q, r, rfl, h2 0 _ _ rfl rfl, h2 1 _ _ rfl rfl, h2 2 _ _ rfl rfl⟩
end
end Go.Ck

set_option linter.unusedVariables false
/-! From a contract to a row, where no table is laid. -/
namespace Go.Ck
open Go.RowKit Go.ChangeShapes Go.WideShapes Go.ChangeAt
theorem law_plain {C : Checked} {os : Os} {f : FuncId} {fn : Func} {s : ChangeSpec} {H : Type} {enc : TypeId × Value → H} {N : Nat} {tb : TypeId} (own : ownKnob C.prog.godebug = none) (started : os.Started) (noInit : C.prog.inits.idxOf? f = none) (hfn : C.prog.funcs[f]? = some fn)
    (witness : ∃ (w : World) (tape : Tape) (i : Input), w.os = os ∧ (w.forCall tape i).Shaped C.prog ∧ i.vars = [] ∧ Input.okWide C.prog (w.forCall tape i) .any w.heap.size f i ∧
      s.pre6 enc C.prog fn [] false (w.forCall tape i).memory i.args ∧ ({} : Assume).holds C.prog (lone (Frame.enter C.prog f i.args .normal) [] (w.forCall tape i)))
    (hl : laidOutB C.prog = true) (hm : mapsRowed C.prog = true) (ht : fn.params.toList.all (fun t => decide (t < C.prog.types.size) && okP C.prog N t && C.prog.readableRec t) = true) (hv : s.vars = [])
    (hs : ∀ ds : List (DataW H), ds.length = fn.params.size → s.fn H ds = { results := [.lit (.bool true)], args := ds }) (hrt : fn.resultTypes = #[tb]) (hub : C.prog.underlying tb = some .bool)
    (hF : ∀ pl, PA C.prog N fn.params.toList pl → Fn C.prog f [] (pl.map .pv) (fun rs H' => rs = [.pv (.bool true)] ∧ H' = [])) (hG : gtabs C.prog = []) :
    ReturnsInHanded {} C os f .any (s.pre6 enc C.prog fn [] false) (s.post enc C.prog fn false true false false) := by
  refine returnsInHanded_of_change (C := C) own started noInit hfn witness ?_
  intro W base args ds gs before hval hW _ _
  have ht' : ∀ t ∈ fn.params.toList, t < C.prog.types.size ∧ okP C.prog N t = true ∧ C.prog.readableRec t = true := fun t h => by
    have := List.all_eq_true.1 ht t h
    simp only [Bool.and_eq_true, decide_eq_true_eq] at this
    exact ⟨this.1.1, this.1.2, this.2⟩
  have hW' := hW
  obtain ⟨p, q, hA, hV, _, _, _⟩ := hW
  refine (law_calls (enc := enc) hl hm (fun t h => ⟨(ht' t h).1, (ht' t h).2.1⟩) hF (gok_none hG) (fun j t v hj hv => hval j t v (by simpa using hj) hv) hA).mono fun e W' ⟨he, hb⟩ => ⟨_, he, ?_⟩
  exact law_post hl hv hs hrt hub (fun t h => ⟨(ht' t h).2.2, (ht' t h).1⟩) hW' hb
end Go.Ck

-- type facts, printed by mkfacts.py
set_option linter.unusedVariables false
namespace Go.Ck
open Go.Proofs
theorem tk_1 : tk Try.prog 1 = .fn := by kernel_rfl
theorem tk_2 : tk Try.prog 2 = .int .i64 := by kernel_rfl
theorem tsh_2 : tsh Try.prog 2 = some (1, false) := by kernel_rfl
theorem co_2 : Program.cellsOf Try.prog 2 = 1 := by kernel_rfl
theorem zcs_2 : zcs Try.prog 2 = some [.pv (.int .i64 0)] := by kernel_rfl
theorem ze_2 : zeroElem Try.prog 2 = some (.int .i64 0) := by kernel_rfl
theorem zok_2 : zok Try.prog 2 = true := by kernel_rfl
theorem tk_3 : tk Try.prog 3 = .int .i64 := by kernel_rfl
theorem tsh_3 : tsh Try.prog 3 = some (1, false) := by kernel_rfl
theorem co_3 : Program.cellsOf Try.prog 3 = 1 := by kernel_rfl
theorem zcs_3 : zcs Try.prog 3 = some [.pv (.int .i64 0)] := by kernel_rfl
theorem ze_3 : zeroElem Try.prog 3 = some (.int .i64 0) := by kernel_rfl
theorem zok_3 : zok Try.prog 3 = true := by kernel_rfl
theorem tk_4 : tk Try.prog 4 = .bool := by kernel_rfl
theorem tsh_4 : tsh Try.prog 4 = some (1, false) := by kernel_rfl
theorem co_4 : Program.cellsOf Try.prog 4 = 1 := by kernel_rfl
theorem zcs_4 : zcs Try.prog 4 = some [.pv (.bool false)] := by kernel_rfl
theorem ze_4 : zeroElem Try.prog 4 = some (.bool false) := by kernel_rfl
theorem zok_4 : zok Try.prog 4 = true := by kernel_rfl
theorem tk_5 : tk Try.prog 5 = .int .u8 := by kernel_rfl
theorem tsh_5 : tsh Try.prog 5 = some (1, false) := by kernel_rfl
theorem co_5 : Program.cellsOf Try.prog 5 = 1 := by kernel_rfl
theorem zcs_5 : zcs Try.prog 5 = some [.pv (.int .u8 0)] := by kernel_rfl
theorem ze_5 : zeroElem Try.prog 5 = some (.int .u8 0) := by kernel_rfl
theorem zok_5 : zok Try.prog 5 = true := by kernel_rfl
theorem tk_6 : tk Try.prog 6 = .int .u8 := by kernel_rfl
theorem tsh_6 : tsh Try.prog 6 = some (1, false) := by kernel_rfl
theorem co_6 : Program.cellsOf Try.prog 6 = 1 := by kernel_rfl
theorem zcs_6 : zcs Try.prog 6 = some [.pv (.int .u8 0)] := by kernel_rfl
theorem ze_6 : zeroElem Try.prog 6 = some (.int .u8 0) := by kernel_rfl
theorem zok_6 : zok Try.prog 6 = true := by kernel_rfl
theorem tk_7 : tk Try.prog 7 = .st [(0, 1, false), (1, 1, false), (2, 1, false), (3, 1, false)] := by kernel_rfl
theorem tsh_7 : tsh Try.prog 7 = some (4, true) := by kernel_rfl
theorem co_7 : Program.cellsOf Try.prog 7 = 4 := by kernel_rfl
theorem zcs_7 : zcs Try.prog 7 = some [.pv (.int .i64 0), .pv (.int .i64 0), .pv (.bool false), .pv (.int .u8 0)] := by kernel_rfl
theorem ze_7 : zeroElem Try.prog 7 = some (.agg [(.int .i64 0), (.int .i64 0), (.bool false), (.int .u8 0)]) := by kernel_rfl
theorem zok_7 : zok Try.prog 7 = true := by kernel_rfl
theorem tk_8 : tk Try.prog 8 = .st [(0, 1, false), (1, 1, false), (2, 1, false), (3, 1, false)] := by kernel_rfl
theorem tsh_8 : tsh Try.prog 8 = some (4, true) := by kernel_rfl
theorem co_8 : Program.cellsOf Try.prog 8 = 4 := by kernel_rfl
theorem zcs_8 : zcs Try.prog 8 = some [.pv (.int .i64 0), .pv (.int .i64 0), .pv (.bool false), .pv (.int .u8 0)] := by kernel_rfl
theorem ze_8 : zeroElem Try.prog 8 = some (.agg [(.int .i64 0), (.int .i64 0), (.bool false), (.int .u8 0)]) := by kernel_rfl
theorem zok_8 : zok Try.prog 8 = true := by kernel_rfl
theorem tk_9 : tk Try.prog 9 = .str := by kernel_rfl
theorem tsh_9 : tsh Try.prog 9 = some (1, false) := by kernel_rfl
theorem co_9 : Program.cellsOf Try.prog 9 = 1 := by kernel_rfl
theorem zcs_9 : zcs Try.prog 9 = some [.pv (.str [])] := by kernel_rfl
theorem ze_9 : zeroElem Try.prog 9 = some (.str []) := by kernel_rfl
theorem zok_9 : zok Try.prog 9 = true := by kernel_rfl
theorem tk_10 : tk Try.prog 10 = .str := by kernel_rfl
theorem tsh_10 : tsh Try.prog 10 = some (1, false) := by kernel_rfl
theorem co_10 : Program.cellsOf Try.prog 10 = 1 := by kernel_rfl
theorem zcs_10 : zcs Try.prog 10 = some [.pv (.str [])] := by kernel_rfl
theorem ze_10 : zeroElem Try.prog 10 = some (.str []) := by kernel_rfl
theorem zok_10 : zok Try.prog 10 = true := by kernel_rfl
theorem tk_11 : tk Try.prog 11 = .str := by kernel_rfl
theorem tsh_11 : tsh Try.prog 11 = some (1, false) := by kernel_rfl
theorem co_11 : Program.cellsOf Try.prog 11 = 1 := by kernel_rfl
theorem zcs_11 : zcs Try.prog 11 = some [.pv (.str [])] := by kernel_rfl
theorem ze_11 : zeroElem Try.prog 11 = some (.str []) := by kernel_rfl
theorem zok_11 : zok Try.prog 11 = true := by kernel_rfl
theorem tk_12 : tk Try.prog 12 = .int .u64 := by kernel_rfl
theorem tsh_12 : tsh Try.prog 12 = some (1, false) := by kernel_rfl
theorem co_12 : Program.cellsOf Try.prog 12 = 1 := by kernel_rfl
theorem zcs_12 : zcs Try.prog 12 = some [.pv (.int .u64 0)] := by kernel_rfl
theorem ze_12 : zeroElem Try.prog 12 = some (.int .u64 0) := by kernel_rfl
theorem zok_12 : zok Try.prog 12 = true := by kernel_rfl
theorem tk_13 : tk Try.prog 13 = .st [(0, 1, false), (1, 1, false)] := by kernel_rfl
theorem tsh_13 : tsh Try.prog 13 = some (2, true) := by kernel_rfl
theorem co_13 : Program.cellsOf Try.prog 13 = 2 := by kernel_rfl
theorem zcs_13 : zcs Try.prog 13 = some [.pv (.str []), .pv (.int .u64 0)] := by kernel_rfl
theorem ze_13 : zeroElem Try.prog 13 = some (.agg [(.str []), (.int .u64 0)]) := by kernel_rfl
theorem zok_13 : zok Try.prog 13 = true := by kernel_rfl
theorem tk_14 : tk Try.prog 14 = .st [(0, 1, false), (1, 1, false)] := by kernel_rfl
theorem tsh_14 : tsh Try.prog 14 = some (2, true) := by kernel_rfl
theorem co_14 : Program.cellsOf Try.prog 14 = 2 := by kernel_rfl
theorem zcs_14 : zcs Try.prog 14 = some [.pv (.str []), .pv (.int .u64 0)] := by kernel_rfl
theorem ze_14 : zeroElem Try.prog 14 = some (.agg [(.str []), (.int .u64 0)]) := by kernel_rfl
theorem zok_14 : zok Try.prog 14 = true := by kernel_rfl
theorem tk_15 : tk Try.prog 15 = .ptr 115 := by kernel_rfl
theorem tsh_15 : tsh Try.prog 15 = some (1, false) := by kernel_rfl
theorem co_15 : Program.cellsOf Try.prog 15 = 1 := by kernel_rfl
theorem zcs_15 : zcs Try.prog 15 = some [.pv .nilp] := by kernel_rfl
theorem ze_15 : zeroElem Try.prog 15 = some .nilp := by kernel_rfl
theorem zok_15 : zok Try.prog 15 = true := by kernel_rfl
theorem tk_16 : tk Try.prog 16 = .ptr 118 := by kernel_rfl
theorem tsh_16 : tsh Try.prog 16 = some (1, false) := by kernel_rfl
theorem co_16 : Program.cellsOf Try.prog 16 = 1 := by kernel_rfl
theorem zcs_16 : zcs Try.prog 16 = some [.pv .nilp] := by kernel_rfl
theorem ze_16 : zeroElem Try.prog 16 = some .nilp := by kernel_rfl
theorem zok_16 : zok Try.prog 16 = true := by kernel_rfl
theorem tk_17 : tk Try.prog 17 = .ptr 127 := by kernel_rfl
theorem tsh_17 : tsh Try.prog 17 = some (1, false) := by kernel_rfl
theorem co_17 : Program.cellsOf Try.prog 17 = 1 := by kernel_rfl
theorem zcs_17 : zcs Try.prog 17 = some [.pv .nilp] := by kernel_rfl
theorem ze_17 : zeroElem Try.prog 17 = some .nilp := by kernel_rfl
theorem zok_17 : zok Try.prog 17 = true := by kernel_rfl
theorem tk_18 : tk Try.prog 18 = .st [(0, 1, false)] := by kernel_rfl
theorem tsh_18 : tsh Try.prog 18 = some (1, true) := by kernel_rfl
theorem co_18 : Program.cellsOf Try.prog 18 = 1 := by kernel_rfl
theorem zcs_18 : zcs Try.prog 18 = some [.pv .nilp] := by kernel_rfl
theorem ze_18 : zeroElem Try.prog 18 = some (.agg [.nilp]) := by kernel_rfl
theorem zok_18 : zok Try.prog 18 = true := by kernel_rfl
theorem tk_19 : tk Try.prog 19 = .st [(0, 1, false)] := by kernel_rfl
theorem tsh_19 : tsh Try.prog 19 = some (1, true) := by kernel_rfl
theorem co_19 : Program.cellsOf Try.prog 19 = 1 := by kernel_rfl
theorem zcs_19 : zcs Try.prog 19 = some [.pv .nilp] := by kernel_rfl
theorem ze_19 : zeroElem Try.prog 19 = some (.agg [.nilp]) := by kernel_rfl
theorem zok_19 : zok Try.prog 19 = true := by kernel_rfl
theorem tk_20 : tk Try.prog 20 = .iface := by kernel_rfl
theorem tk_21 : tk Try.prog 21 = .int .i32 := by kernel_rfl
theorem tsh_21 : tsh Try.prog 21 = some (1, false) := by kernel_rfl
theorem co_21 : Program.cellsOf Try.prog 21 = 1 := by kernel_rfl
theorem zcs_21 : zcs Try.prog 21 = some [.pv (.int .i32 0)] := by kernel_rfl
theorem ze_21 : zeroElem Try.prog 21 = some (.int .i32 0) := by kernel_rfl
theorem zok_21 : zok Try.prog 21 = true := by kernel_rfl
theorem tk_22 : tk Try.prog 22 = .sl 3 1 8 false := by kernel_rfl
theorem tsh_22 : tsh Try.prog 22 = some (1, false) := by kernel_rfl
theorem co_22 : Program.cellsOf Try.prog 22 = 1 := by kernel_rfl
theorem zcs_22 : zcs Try.prog 22 = some [.nils] := by kernel_rfl
theorem ze_22 : zeroElem Try.prog 22 = some (.sl 1 []) := by kernel_rfl
theorem zok_22 : zok Try.prog 22 = true := by kernel_rfl
theorem tk_23 : tk Try.prog 23 = .fn := by kernel_rfl
theorem tk_24 : tk Try.prog 24 = .sl 5 1 1 false := by kernel_rfl
theorem tsh_24 : tsh Try.prog 24 = some (1, false) := by kernel_rfl
theorem co_24 : Program.cellsOf Try.prog 24 = 1 := by kernel_rfl
theorem zcs_24 : zcs Try.prog 24 = some [.nils] := by kernel_rfl
theorem ze_24 : zeroElem Try.prog 24 = some (.sl 1 []) := by kernel_rfl
theorem zok_24 : zok Try.prog 24 = true := by kernel_rfl
theorem tk_25 : tk Try.prog 25 = .int .i64 := by kernel_rfl
theorem tsh_25 : tsh Try.prog 25 = some (1, false) := by kernel_rfl
theorem co_25 : Program.cellsOf Try.prog 25 = 1 := by kernel_rfl
theorem zcs_25 : zcs Try.prog 25 = some [.pv (.int .i64 0)] := by kernel_rfl
theorem ze_25 : zeroElem Try.prog 25 = some (.int .i64 0) := by kernel_rfl
theorem zok_25 : zok Try.prog 25 = true := by kernel_rfl
theorem tk_27 : tk Try.prog 27 = .fn := by kernel_rfl
theorem tk_28 : tk Try.prog 28 = .fn := by kernel_rfl
theorem tk_29 : tk Try.prog 29 = .fn := by kernel_rfl
theorem tk_30 : tk Try.prog 30 = .fn := by kernel_rfl
theorem tk_31 : tk Try.prog 31 = .fn := by kernel_rfl
theorem tk_33 : tk Try.prog 33 = .fn := by kernel_rfl
theorem tk_34 : tk Try.prog 34 = .fn := by kernel_rfl
theorem tk_35 : tk Try.prog 35 = .fn := by kernel_rfl
theorem tk_36 : tk Try.prog 36 = .fn := by kernel_rfl
theorem tk_37 : tk Try.prog 37 = .fn := by kernel_rfl
theorem tk_38 : tk Try.prog 38 = .fn := by kernel_rfl
theorem tk_39 : tk Try.prog 39 = .fn := by kernel_rfl
theorem tk_40 : tk Try.prog 40 = .fn := by kernel_rfl
theorem tk_41 : tk Try.prog 41 = .fn := by kernel_rfl
theorem tk_42 : tk Try.prog 42 = .int .u64 := by kernel_rfl
theorem tsh_42 : tsh Try.prog 42 = some (1, false) := by kernel_rfl
theorem co_42 : Program.cellsOf Try.prog 42 = 1 := by kernel_rfl
theorem zcs_42 : zcs Try.prog 42 = some [.pv (.int .u64 0)] := by kernel_rfl
theorem ze_42 : zeroElem Try.prog 42 = some (.int .u64 0) := by kernel_rfl
theorem zok_42 : zok Try.prog 42 = true := by kernel_rfl
theorem tk_43 : tk Try.prog 43 = .sl 42 1 8 false := by kernel_rfl
theorem tsh_43 : tsh Try.prog 43 = some (1, false) := by kernel_rfl
theorem co_43 : Program.cellsOf Try.prog 43 = 1 := by kernel_rfl
theorem zcs_43 : zcs Try.prog 43 = some [.nils] := by kernel_rfl
theorem ze_43 : zeroElem Try.prog 43 = some (.sl 1 []) := by kernel_rfl
theorem zok_43 : zok Try.prog 43 = true := by kernel_rfl
theorem tk_44 : tk Try.prog 44 = .fn := by kernel_rfl
theorem tk_45 : tk Try.prog 45 = .fn := by kernel_rfl
theorem tk_46 : tk Try.prog 46 = .fn := by kernel_rfl
theorem tk_47 : tk Try.prog 47 = .fn := by kernel_rfl
theorem tk_48 : tk Try.prog 48 = .ptr 66 := by kernel_rfl
theorem tsh_48 : tsh Try.prog 48 = some (1, false) := by kernel_rfl
theorem co_48 : Program.cellsOf Try.prog 48 = 1 := by kernel_rfl
theorem zcs_48 : zcs Try.prog 48 = some [.pv .nilp] := by kernel_rfl
theorem ze_48 : zeroElem Try.prog 48 = some .nilp := by kernel_rfl
theorem zok_48 : zok Try.prog 48 = true := by kernel_rfl
theorem tk_49 : tk Try.prog 49 = .fn := by kernel_rfl
theorem tk_51 : tk Try.prog 51 = .fn := by kernel_rfl
theorem tk_52 : tk Try.prog 52 = .fn := by kernel_rfl
theorem tk_54 : tk Try.prog 54 = .fn := by kernel_rfl
theorem tk_55 : tk Try.prog 55 = .fn := by kernel_rfl
theorem tk_56 : tk Try.prog 56 = .fn := by kernel_rfl
theorem tk_57 : tk Try.prog 57 = .fn := by kernel_rfl
theorem tk_58 : tk Try.prog 58 = .fn := by kernel_rfl
theorem tk_59 : tk Try.prog 59 = .int .u64 := by kernel_rfl
theorem tsh_59 : tsh Try.prog 59 = some (1, false) := by kernel_rfl
theorem co_59 : Program.cellsOf Try.prog 59 = 1 := by kernel_rfl
theorem zcs_59 : zcs Try.prog 59 = some [.pv (.int .u64 0)] := by kernel_rfl
theorem ze_59 : zeroElem Try.prog 59 = some (.int .u64 0) := by kernel_rfl
theorem zok_59 : zok Try.prog 59 = true := by kernel_rfl
theorem tk_60 : tk Try.prog 60 = .fn := by kernel_rfl
theorem tk_61 : tk Try.prog 61 = .fn := by kernel_rfl
theorem tk_62 : tk Try.prog 62 = .fn := by kernel_rfl
theorem tk_63 : tk Try.prog 63 = .st [(0, 1, false)] := by kernel_rfl
theorem tsh_63 : tsh Try.prog 63 = some (1, true) := by kernel_rfl
theorem co_63 : Program.cellsOf Try.prog 63 = 1 := by kernel_rfl
theorem zcs_63 : zcs Try.prog 63 = some [.nils] := by kernel_rfl
theorem ze_63 : zeroElem Try.prog 63 = some (.agg [(.sl 1 [])]) := by kernel_rfl
theorem zok_63 : zok Try.prog 63 = true := by kernel_rfl
theorem tk_64 : tk Try.prog 64 = .st [(0, 1, false)] := by kernel_rfl
theorem tsh_64 : tsh Try.prog 64 = some (1, true) := by kernel_rfl
theorem co_64 : Program.cellsOf Try.prog 64 = 1 := by kernel_rfl
theorem zcs_64 : zcs Try.prog 64 = some [.nils] := by kernel_rfl
theorem ze_64 : zeroElem Try.prog 64 = some (.agg [(.sl 1 [])]) := by kernel_rfl
theorem zok_64 : zok Try.prog 64 = true := by kernel_rfl
theorem tk_65 : tk Try.prog 65 = .st [(0, 1, true)] := by kernel_rfl
theorem tsh_65 : tsh Try.prog 65 = some (1, true) := by kernel_rfl
theorem co_65 : Program.cellsOf Try.prog 65 = 1 := by kernel_rfl
theorem zcs_65 : zcs Try.prog 65 = some [.nils] := by kernel_rfl
theorem ze_65 : zeroElem Try.prog 65 = some (.agg [(.sl 1 [])]) := by kernel_rfl
theorem zok_65 : zok Try.prog 65 = true := by kernel_rfl
theorem tk_66 : tk Try.prog 66 = .st [(0, 1, true)] := by kernel_rfl
theorem tsh_66 : tsh Try.prog 66 = some (1, true) := by kernel_rfl
theorem co_66 : Program.cellsOf Try.prog 66 = 1 := by kernel_rfl
theorem zcs_66 : zcs Try.prog 66 = some [.nils] := by kernel_rfl
theorem ze_66 : zeroElem Try.prog 66 = some (.agg [(.sl 1 [])]) := by kernel_rfl
theorem zok_66 : zok Try.prog 66 = true := by kernel_rfl
theorem tk_67 : tk Try.prog 67 = .fn := by kernel_rfl
theorem tk_69 : tk Try.prog 69 = .fn := by kernel_rfl
theorem tk_70 : tk Try.prog 70 = .fn := by kernel_rfl
theorem tk_71 : tk Try.prog 71 = .fn := by kernel_rfl
theorem tk_72 : tk Try.prog 72 = .fn := by kernel_rfl
theorem tk_74 : tk Try.prog 74 = .fn := by kernel_rfl
theorem tk_75 : tk Try.prog 75 = .fn := by kernel_rfl
theorem tk_77 : tk Try.prog 77 = .fn := by kernel_rfl
theorem tk_78 : tk Try.prog 78 = .ptr 80 := by kernel_rfl
theorem tsh_78 : tsh Try.prog 78 = some (1, false) := by kernel_rfl
theorem co_78 : Program.cellsOf Try.prog 78 = 1 := by kernel_rfl
theorem zcs_78 : zcs Try.prog 78 = some [.pv .nilp] := by kernel_rfl
theorem ze_78 : zeroElem Try.prog 78 = some .nilp := by kernel_rfl
theorem zok_78 : zok Try.prog 78 = true := by kernel_rfl
theorem tk_79 : tk Try.prog 79 = .st [(0, 1, false), (1, 1, false)] := by kernel_rfl
theorem tsh_79 : tsh Try.prog 79 = some (2, true) := by kernel_rfl
theorem co_79 : Program.cellsOf Try.prog 79 = 2 := by kernel_rfl
theorem zcs_79 : zcs Try.prog 79 = some [.nils, .pv (.int .i64 0)] := by kernel_rfl
theorem ze_79 : zeroElem Try.prog 79 = some (.agg [(.sl 1 []), (.int .i64 0)]) := by kernel_rfl
theorem zok_79 : zok Try.prog 79 = true := by kernel_rfl
theorem tk_80 : tk Try.prog 80 = .st [(0, 1, false), (1, 1, false)] := by kernel_rfl
theorem tsh_80 : tsh Try.prog 80 = some (2, true) := by kernel_rfl
theorem co_80 : Program.cellsOf Try.prog 80 = 2 := by kernel_rfl
theorem zcs_80 : zcs Try.prog 80 = some [.nils, .pv (.int .i64 0)] := by kernel_rfl
theorem ze_80 : zeroElem Try.prog 80 = some (.agg [(.sl 1 []), (.int .i64 0)]) := by kernel_rfl
theorem zok_80 : zok Try.prog 80 = true := by kernel_rfl
theorem tk_81 : tk Try.prog 81 = .fn := by kernel_rfl
theorem tk_82 : tk Try.prog 82 = .fn := by kernel_rfl
theorem tk_83 : tk Try.prog 83 = .fn := by kernel_rfl
theorem tk_84 : tk Try.prog 84 = .fn := by kernel_rfl
theorem tk_86 : tk Try.prog 86 = .fn := by kernel_rfl
theorem tk_87 : tk Try.prog 87 = .fn := by kernel_rfl
theorem tk_88 : tk Try.prog 88 = .fn := by kernel_rfl
theorem tk_90 : tk Try.prog 90 = .fn := by kernel_rfl
theorem tk_91 : tk Try.prog 91 = .fn := by kernel_rfl
theorem tk_92 : tk Try.prog 92 = .fn := by kernel_rfl
theorem tk_94 : tk Try.prog 94 = .fn := by kernel_rfl
theorem tk_95 : tk Try.prog 95 = .fn := by kernel_rfl
theorem tk_96 : tk Try.prog 96 = .fn := by kernel_rfl
theorem tk_97 : tk Try.prog 97 = .fn := by kernel_rfl
theorem tsh_97 : tsh Try.prog 97 = some (1, false) := by kernel_rfl
theorem co_97 : Program.cellsOf Try.prog 97 = 1 := by kernel_rfl
theorem zcs_97 : zcs Try.prog 97 = some [.pv .nilf] := by kernel_rfl
theorem ze_97 : zeroElem Try.prog 97 = some .nilf := by kernel_rfl
theorem zok_97 : zok Try.prog 97 = true := by kernel_rfl
theorem tk_98 : tk Try.prog 98 = .fn := by kernel_rfl
theorem tk_99 : tk Try.prog 99 = .fn := by kernel_rfl
theorem tk_100 : tk Try.prog 100 = .arr 2 3 1 false := by kernel_rfl
theorem tsh_100 : tsh Try.prog 100 = some (2, true) := by kernel_rfl
theorem co_100 : Program.cellsOf Try.prog 100 = 2 := by kernel_rfl
theorem zcs_100 : zcs Try.prog 100 = some [.pv (.int .i64 0), .pv (.int .i64 0)] := by kernel_rfl
theorem ze_100 : zeroElem Try.prog 100 = some (.agg [(.int .i64 0), (.int .i64 0)]) := by kernel_rfl
theorem zok_100 : zok Try.prog 100 = true := by kernel_rfl
theorem tk_101 : tk Try.prog 101 = .arr 16 100 2 true := by kernel_rfl
theorem tsh_101 : tsh Try.prog 101 = some (32, true) := by kernel_rfl
theorem co_101 : Program.cellsOf Try.prog 101 = 32 := by kernel_rfl
theorem zcs_101 : zcs Try.prog 101 = some [.pv (.int .i64 0), .pv (.int .i64 0), .pv (.int .i64 0), .pv (.int .i64 0), .pv (.int .i64 0), .pv (.int .i64 0), .pv (.int .i64 0), .pv (.int .i64 0), .pv (.int .i64 0), .pv (.int .i64 0), .pv (.int .i64 0), .pv (.int .i64 0), .pv (.int .i64 0), .pv (.int .i64 0), .pv (.int .i64 0), .pv (.int .i64 0), .pv (.int .i64 0), .pv (.int .i64 0), .pv (.int .i64 0), .pv (.int .i64 0), .pv (.int .i64 0), .pv (.int .i64 0), .pv (.int .i64 0), .pv (.int .i64 0), .pv (.int .i64 0), .pv (.int .i64 0), .pv (.int .i64 0), .pv (.int .i64 0), .pv (.int .i64 0), .pv (.int .i64 0), .pv (.int .i64 0), .pv (.int .i64 0)] := by kernel_rfl
theorem ze_101 : zeroElem Try.prog 101 = some (.agg [(.int .i64 0), (.int .i64 0), (.int .i64 0), (.int .i64 0), (.int .i64 0), (.int .i64 0), (.int .i64 0), (.int .i64 0), (.int .i64 0), (.int .i64 0), (.int .i64 0), (.int .i64 0), (.int .i64 0), (.int .i64 0), (.int .i64 0), (.int .i64 0), (.int .i64 0), (.int .i64 0), (.int .i64 0), (.int .i64 0), (.int .i64 0), (.int .i64 0), (.int .i64 0), (.int .i64 0), (.int .i64 0), (.int .i64 0), (.int .i64 0), (.int .i64 0), (.int .i64 0), (.int .i64 0), (.int .i64 0), (.int .i64 0)]) := by kernel_rfl
theorem zok_101 : zok Try.prog 101 = true := by kernel_rfl
theorem tk_102 : tk Try.prog 102 = .fn := by kernel_rfl
theorem tk_103 : tk Try.prog 103 = .ptr 64 := by kernel_rfl
theorem tsh_103 : tsh Try.prog 103 = some (1, false) := by kernel_rfl
theorem co_103 : Program.cellsOf Try.prog 103 = 1 := by kernel_rfl
theorem zcs_103 : zcs Try.prog 103 = some [.pv .nilp] := by kernel_rfl
theorem ze_103 : zeroElem Try.prog 103 = some .nilp := by kernel_rfl
theorem zok_103 : zok Try.prog 103 = true := by kernel_rfl
theorem tk_104 : tk Try.prog 104 = .ptr 112 := by kernel_rfl
theorem tsh_104 : tsh Try.prog 104 = some (1, false) := by kernel_rfl
theorem co_104 : Program.cellsOf Try.prog 104 = 1 := by kernel_rfl
theorem zcs_104 : zcs Try.prog 104 = some [.pv .nilp] := by kernel_rfl
theorem ze_104 : zeroElem Try.prog 104 = some .nilp := by kernel_rfl
theorem zok_104 : zok Try.prog 104 = true := by kernel_rfl
theorem tk_105 : tk Try.prog 105 = .fn := by kernel_rfl
theorem tk_106 : tk Try.prog 106 = .fn := by kernel_rfl
theorem tk_107 : tk Try.prog 107 = .fn := by kernel_rfl
theorem tk_109 : tk Try.prog 109 = .fn := by kernel_rfl
theorem tk_110 : tk Try.prog 110 = .fn := by kernel_rfl
theorem tk_111 : tk Try.prog 111 = .st [(0, 1, false), (1, 1, false)] := by kernel_rfl
theorem tsh_111 : tsh Try.prog 111 = some (2, true) := by kernel_rfl
theorem co_111 : Program.cellsOf Try.prog 111 = 2 := by kernel_rfl
theorem zcs_111 : zcs Try.prog 111 = some [.nils, .pv (.int .i64 0)] := by kernel_rfl
theorem ze_111 : zeroElem Try.prog 111 = some (.agg [(.sl 1 []), (.int .i64 0)]) := by kernel_rfl
theorem zok_111 : zok Try.prog 111 = true := by kernel_rfl
theorem tk_112 : tk Try.prog 112 = .st [(0, 1, false), (1, 1, false)] := by kernel_rfl
theorem tsh_112 : tsh Try.prog 112 = some (2, true) := by kernel_rfl
theorem co_112 : Program.cellsOf Try.prog 112 = 2 := by kernel_rfl
theorem zcs_112 : zcs Try.prog 112 = some [.nils, .pv (.int .i64 0)] := by kernel_rfl
theorem ze_112 : zeroElem Try.prog 112 = some (.agg [(.sl 1 []), (.int .i64 0)]) := by kernel_rfl
theorem zok_112 : zok Try.prog 112 = true := by kernel_rfl
theorem tk_113 : tk Try.prog 113 = .fn := by kernel_rfl
theorem tk_114 : tk Try.prog 114 = .st [(0, 1, false), (1, 1, false), (2, 1, false), (3, 1, false)] := by kernel_rfl
theorem tsh_114 : tsh Try.prog 114 = some (4, true) := by kernel_rfl
theorem co_114 : Program.cellsOf Try.prog 114 = 4 := by kernel_rfl
theorem zcs_114 : zcs Try.prog 114 = some [.pv .nilp, .pv .nilp, .pv .nilp, .pv (.str [])] := by kernel_rfl
theorem ze_114 : zeroElem Try.prog 114 = some (.agg [.nilp, .nilp, .nilp, (.str [])]) := by kernel_rfl
theorem zok_114 : zok Try.prog 114 = true := by kernel_rfl
theorem tk_115 : tk Try.prog 115 = .st [(0, 1, false), (1, 1, false), (2, 1, false), (3, 1, false)] := by kernel_rfl
theorem tsh_115 : tsh Try.prog 115 = some (4, true) := by kernel_rfl
theorem co_115 : Program.cellsOf Try.prog 115 = 4 := by kernel_rfl
theorem zcs_115 : zcs Try.prog 115 = some [.pv .nilp, .pv .nilp, .pv .nilp, .pv (.str [])] := by kernel_rfl
theorem ze_115 : zeroElem Try.prog 115 = some (.agg [.nilp, .nilp, .nilp, (.str [])]) := by kernel_rfl
theorem zok_115 : zok Try.prog 115 = true := by kernel_rfl
theorem tk_116 : tk Try.prog 116 = .arr 0 16 1 false := by kernel_rfl
theorem tsh_116 : tsh Try.prog 116 = some (0, true) := by kernel_rfl
theorem co_116 : Program.cellsOf Try.prog 116 = 0 := by kernel_rfl
theorem zcs_116 : zcs Try.prog 116 = some [] := by kernel_rfl
theorem ze_116 : zeroElem Try.prog 116 = some (.agg []) := by kernel_rfl
theorem zok_116 : zok Try.prog 116 = true := by kernel_rfl
theorem tk_117 : tk Try.prog 117 = .st [(0, 0, true)] := by kernel_rfl
theorem tsh_117 : tsh Try.prog 117 = some (0, true) := by kernel_rfl
theorem co_117 : Program.cellsOf Try.prog 117 = 0 := by kernel_rfl
theorem zcs_117 : zcs Try.prog 117 = some [] := by kernel_rfl
theorem ze_117 : zeroElem Try.prog 117 = some (.agg []) := by kernel_rfl
theorem zok_117 : zok Try.prog 117 = true := by kernel_rfl
theorem tk_118 : tk Try.prog 118 = .st [(0, 0, true)] := by kernel_rfl
theorem tsh_118 : tsh Try.prog 118 = some (0, true) := by kernel_rfl
theorem co_118 : Program.cellsOf Try.prog 118 = 0 := by kernel_rfl
theorem zcs_118 : zcs Try.prog 118 = some [] := by kernel_rfl
theorem ze_118 : zeroElem Try.prog 118 = some (.agg []) := by kernel_rfl
theorem zok_118 : zok Try.prog 118 = true := by kernel_rfl
theorem tk_119 : tk Try.prog 119 = .int .u32 := by kernel_rfl
theorem tsh_119 : tsh Try.prog 119 = some (1, false) := by kernel_rfl
theorem co_119 : Program.cellsOf Try.prog 119 = 1 := by kernel_rfl
theorem zcs_119 : zcs Try.prog 119 = some [.pv (.int .u32 0)] := by kernel_rfl
theorem ze_119 : zeroElem Try.prog 119 = some (.int .u32 0) := by kernel_rfl
theorem zok_119 : zok Try.prog 119 = true := by kernel_rfl
theorem tk_120 : tk Try.prog 120 = .int .u8 := by kernel_rfl
theorem tsh_120 : tsh Try.prog 120 = some (1, false) := by kernel_rfl
theorem co_120 : Program.cellsOf Try.prog 120 = 1 := by kernel_rfl
theorem zcs_120 : zcs Try.prog 120 = some [.pv (.int .u8 0)] := by kernel_rfl
theorem ze_120 : zeroElem Try.prog 120 = some (.int .u8 0) := by kernel_rfl
theorem zok_120 : zok Try.prog 120 = true := by kernel_rfl
theorem tk_121 : tk Try.prog 121 = .int .u8 := by kernel_rfl
theorem tsh_121 : tsh Try.prog 121 = some (1, false) := by kernel_rfl
theorem co_121 : Program.cellsOf Try.prog 121 = 1 := by kernel_rfl
theorem zcs_121 : zcs Try.prog 121 = some [.pv (.int .u8 0)] := by kernel_rfl
theorem ze_121 : zeroElem Try.prog 121 = some (.int .u8 0) := by kernel_rfl
theorem zok_121 : zok Try.prog 121 = true := by kernel_rfl
theorem tk_122 : tk Try.prog 122 = .fn := by kernel_rfl
theorem tk_123 : tk Try.prog 123 = .ptr 5 := by kernel_rfl
theorem tsh_123 : tsh Try.prog 123 = some (1, false) := by kernel_rfl
theorem co_123 : Program.cellsOf Try.prog 123 = 1 := by kernel_rfl
theorem zcs_123 : zcs Try.prog 123 = some [.pv .nilp] := by kernel_rfl
theorem ze_123 : zeroElem Try.prog 123 = some .nilp := by kernel_rfl
theorem zok_123 : zok Try.prog 123 = true := by kernel_rfl
theorem tk_124 : tk Try.prog 124 = .int .i32 := by kernel_rfl
theorem tsh_124 : tsh Try.prog 124 = some (1, false) := by kernel_rfl
theorem co_124 : Program.cellsOf Try.prog 124 = 1 := by kernel_rfl
theorem zcs_124 : zcs Try.prog 124 = some [.pv (.int .i32 0)] := by kernel_rfl
theorem ze_124 : zeroElem Try.prog 124 = some (.int .i32 0) := by kernel_rfl
theorem zok_124 : zok Try.prog 124 = true := by kernel_rfl
theorem tk_125 : tk Try.prog 125 = .int .i32 := by kernel_rfl
theorem tsh_125 : tsh Try.prog 125 = some (1, false) := by kernel_rfl
theorem co_125 : Program.cellsOf Try.prog 125 = 1 := by kernel_rfl
theorem zcs_125 : zcs Try.prog 125 = some [.pv (.int .i32 0)] := by kernel_rfl
theorem ze_125 : zeroElem Try.prog 125 = some (.int .i32 0) := by kernel_rfl
theorem zok_125 : zok Try.prog 125 = true := by kernel_rfl
theorem tk_126 : tk Try.prog 126 = .st [(0, 1, false), (1, 1, false), (2, 1, false), (3, 1, false), (4, 1, false), (5, 1, false), (6, 1, false), (7, 1, false), (8, 1, false), (9, 1, false), (10, 1, false)] := by kernel_rfl
theorem tsh_126 : tsh Try.prog 126 = some (11, true) := by kernel_rfl
theorem co_126 : Program.cellsOf Try.prog 126 = 11 := by kernel_rfl
theorem zcs_126 : zcs Try.prog 126 = some [.pv (.int .u64 0), .pv (.int .u64 0), .pv (.int .u32 0), .pv (.int .u8 0), .pv (.int .u8 0), .pv (.int .u8 0), .pv (.int .u8 0), .pv .nilf, .pv .nilp, .pv (.int .i32 0), .pv (.int .i32 0)] := by kernel_rfl
theorem ze_126 : zeroElem Try.prog 126 = some (.agg [(.int .u64 0), (.int .u64 0), (.int .u32 0), (.int .u8 0), (.int .u8 0), (.int .u8 0), (.int .u8 0), .nilf, .nilp, (.int .i32 0), (.int .i32 0)]) := by kernel_rfl
theorem zok_126 : zok Try.prog 126 = true := by kernel_rfl
theorem tk_127 : tk Try.prog 127 = .st [(0, 1, false), (1, 1, false), (2, 1, false), (3, 1, false), (4, 1, false), (5, 1, false), (6, 1, false), (7, 1, false), (8, 1, false), (9, 1, false), (10, 1, false)] := by kernel_rfl
theorem tsh_127 : tsh Try.prog 127 = some (11, true) := by kernel_rfl
theorem co_127 : Program.cellsOf Try.prog 127 = 11 := by kernel_rfl
theorem zcs_127 : zcs Try.prog 127 = some [.pv (.int .u64 0), .pv (.int .u64 0), .pv (.int .u32 0), .pv (.int .u8 0), .pv (.int .u8 0), .pv (.int .u8 0), .pv (.int .u8 0), .pv .nilf, .pv .nilp, .pv (.int .i32 0), .pv (.int .i32 0)] := by kernel_rfl
theorem ze_127 : zeroElem Try.prog 127 = some (.agg [(.int .u64 0), (.int .u64 0), (.int .u32 0), (.int .u8 0), (.int .u8 0), (.int .u8 0), (.int .u8 0), .nilf, .nilp, (.int .i32 0), (.int .i32 0)]) := by kernel_rfl
theorem zok_127 : zok Try.prog 127 = true := by kernel_rfl
theorem mixed : Try.prog.follows .mixedOrders = true := by kernel_rfl
attribute [go_sem] tk_1 tk_2 tsh_2 co_2 zcs_2 ze_2 zok_2 tk_3 tsh_3 co_3 zcs_3 ze_3 zok_3 tk_4 tsh_4 co_4 zcs_4 ze_4 zok_4 tk_5 tsh_5 co_5 zcs_5 ze_5 zok_5 tk_6 tsh_6 co_6 zcs_6 ze_6 zok_6 tk_7 tsh_7 co_7 zcs_7 ze_7 zok_7 tk_8 tsh_8 co_8 zcs_8 ze_8 zok_8 tk_9 tsh_9 co_9 zcs_9 ze_9 zok_9 tk_10 tsh_10 co_10 zcs_10 ze_10 zok_10 tk_11 tsh_11 co_11 zcs_11 ze_11 zok_11 tk_12 tsh_12 co_12 zcs_12 ze_12 zok_12 tk_13 tsh_13 co_13 zcs_13 ze_13 zok_13 tk_14 tsh_14 co_14 zcs_14 ze_14 zok_14 tk_15 tsh_15 co_15 zcs_15 ze_15 zok_15 tk_16 tsh_16 co_16 zcs_16 ze_16 zok_16 tk_17 tsh_17 co_17 zcs_17 ze_17 zok_17 tk_18 tsh_18 co_18 zcs_18 ze_18 zok_18 tk_19 tsh_19 co_19 zcs_19 ze_19 zok_19 tk_20 tk_21 tsh_21 co_21 zcs_21 ze_21 zok_21 tk_22 tsh_22 co_22 zcs_22 ze_22 zok_22 tk_23 tk_24 tsh_24 co_24 zcs_24 ze_24 zok_24 tk_25 tsh_25 co_25 zcs_25 ze_25 zok_25 tk_27 tk_28 tk_29 tk_30 tk_31 tk_33 tk_34 tk_35 tk_36 tk_37 tk_38 tk_39 tk_40 tk_41 tk_42 tsh_42 co_42 zcs_42 ze_42 zok_42 tk_43 tsh_43 co_43 zcs_43 ze_43 zok_43 tk_44 tk_45 tk_46 tk_47 tk_48 tsh_48 co_48 zcs_48 ze_48 zok_48 tk_49 tk_51 tk_52 tk_54 tk_55 tk_56 tk_57 tk_58 tk_59 tsh_59 co_59 zcs_59 ze_59 zok_59 tk_60 tk_61 tk_62 tk_63 tsh_63 co_63 zcs_63 ze_63 zok_63 tk_64 tsh_64 co_64 zcs_64 ze_64 zok_64 tk_65 tsh_65 co_65 zcs_65 ze_65 zok_65 tk_66 tsh_66 co_66 zcs_66 ze_66 zok_66 tk_67 tk_69 tk_70 tk_71 tk_72 tk_74 tk_75 tk_77 tk_78 tsh_78 co_78 zcs_78 ze_78 zok_78 tk_79 tsh_79 co_79 zcs_79 ze_79 zok_79 tk_80 tsh_80 co_80 zcs_80 ze_80 zok_80 tk_81 tk_82 tk_83 tk_84 tk_86 tk_87 tk_88 tk_90 tk_91 tk_92 tk_94 tk_95 tk_96 tk_97 tsh_97 co_97 zcs_97 ze_97 zok_97 tk_98 tk_99 tk_100 tsh_100 co_100 zcs_100 ze_100 zok_100 tk_101 tsh_101 co_101 zcs_101 ze_101 zok_101 tk_102 tk_103 tsh_103 co_103 zcs_103 ze_103 zok_103 tk_104 tsh_104 co_104 zcs_104 ze_104 zok_104 tk_105 tk_106 tk_107 tk_109 tk_110 tk_111 tsh_111 co_111 zcs_111 ze_111 zok_111 tk_112 tsh_112 co_112 zcs_112 ze_112 zok_112 tk_113 tk_114 tsh_114 co_114 zcs_114 ze_114 zok_114 tk_115 tsh_115 co_115 zcs_115 ze_115 zok_115 tk_116 tsh_116 co_116 zcs_116 ze_116 zok_116 tk_117 tsh_117 co_117 zcs_117 ze_117 zok_117 tk_118 tsh_118 co_118 zcs_118 ze_118 zok_118 tk_119 tsh_119 co_119 zcs_119 ze_119 zok_119 tk_120 tsh_120 co_120 zcs_120 ze_120 zok_120 tk_121 tsh_121 co_121 zcs_121 ze_121 zok_121 tk_122 tk_123 tsh_123 co_123 zcs_123 ze_123 zok_123 tk_124 tsh_124 co_124 zcs_124 ze_124 zok_124 tk_125 tsh_125 co_125 zcs_125 ze_125 zok_125 tk_126 tsh_126 co_126 zcs_126 ze_126 zok_126 tk_127 tsh_127 co_127 zcs_127 ze_127 zok_127 mixed
end Go.Ck

set_option linter.unusedVariables false
set_option maxRecDepth 10000
namespace Go.Ck
open Go.Proofs

/-! slices.Clone, varint.with -/
theorem clone_bytes (l : List Nat) (hl : l.length ≤ room) : Fn Try.prog 42 [] [.pv (.sl 1 (bytes l))] (fun rs H' => rs = [.own 5 (bytes l)] ∧ H' = []) := by
  refine Fn.of_body (fn := Try.f42) (n := 8) (res := [.tmp 2]) (by kernel_rfl) rfl rfl rfl rfl rfl (fun C => ?_)
  refine AW.go ?_
  refine AW.eqNil (.inl rfl) rfl rfl rfl tk_24 (by simp only [go_sem, ↓reduceIte] <;> rfl) rfl rfl rfl (fun b hb => ?_)
  refine AW.go ?_
  refine AW.cond (b := b) (by simp only [go_sem, ↓reduceIte] <;> rfl) (fun h1 => ?_) (fun h1 => ?_)
  · have hx : l = [] := by simpa [bytes] using hb h1
    subst hx
    refine AW.go ?_
    refine AW.finE (.move rfl .nil) rfl
  · refine AW.go ?_ (by simp only [go_sem, ↓reduceIte, hl] <;> rfl)
    refine AW.finE (.move rfl .nil) rfl

theorem with_fn (xs ys : List Nat) (hl : xs.length + ys.length ≤ room) : Fn Try.prog 43 [] [.own 5 (bytes xs), .pv (.sl 1 (bytes ys))] (fun rs H' => rs = [.own 5 (bytes (xs ++ ys))] ∧ H' = []) := by
  refine Fn.of_body (fn := Try.f43) (n := 8) (res := [.tmp 4]) (by kernel_rfl) rfl rfl rfl rfl rfl (fun C => ?_)
  refine AW.go ?_ (by simp only [go_sem, ↓reduceIte, hl] <;> rfl)
  refine AW.finE (.move rfl .nil) rfl
end Go.Ck

set_option linter.unusedVariables false
/-! Numbers in as few bytes as they need. -/
namespace Go.Ck

def leb (v : Nat) : List Nat := if v < 128 then [v] else (v % 128 + 128) :: leb (v / 128)
termination_by v
decreasing_by omega
theorem leb_lt {v : Nat} (h : v < 128) : leb v = [v] := by rw [leb, if_pos h]
theorem leb_ge {v : Nat} (h : ¬ v < 128) : leb v = (v % 128 + 128) :: leb (v / 128) := by rw [leb, if_neg h]
theorem leb_pos (v : Nat) : 0 < (leb v).length := by
  by_cases h : v < 128
  · rw [leb_lt h]; simp
  · rw [leb_ge h]; simp
theorem leb_len (n : Nat) : ∀ v, v < 128 ^ (n + 1) → (leb v).length ≤ n + 1 := by
  induction n with
  | zero => intro v h; rw [leb_lt (by omega)]; simp
  | succ n ih =>
    intro v h
    by_cases h1 : v < 128
    · rw [leb_lt h1]; simp
    · rw [leb_ge h1, List.length_cons]
      have := ih (v / 128) (by rw [Nat.div_lt_iff_lt_mul (by omega)]; rw [Nat.pow_succ] at h; omega)
      omega
theorem leb_len10 {v : Nat} (h : v < 2 ^ 64) : (leb v).length ≤ 10 := leb_len 9 v (by omega)
theorem leb_byte (v : Nat) : ∀ x ∈ leb v, x < 256 := by
  induction v using Nat.strongRecOn with
  | _ v ih =>
    by_cases h : v < 128
    · rw [leb_lt h]; simp; omega
    · rw [leb_ge h]
      intro x hx
      rcases List.mem_cons.1 hx with rfl | hx
      · omega
      · exact ih (v / 128) (by omega) x hx
theorem or128 {x : Nat} (h : x < 256) : x ||| 128 = x % 128 + 128 := by
  have : ∀ x : Fin 256, x.val ||| 128 = x.val % 128 + 128 := by decide +kernel
  exact this ⟨x, h⟩
end Go.Ck
namespace Go.Ck
/-- A number out of bytes; how many bytes it took; why there is none. -/
def rdv : Nat → Nat → List Nat → Nat × Nat × Int
  | _, _, [] => (0, 0, 2)
  | k, acc, x :: r => if k = 9 ∧ 1 < x then (0, 0, 3) else if 128 ≤ x then rdv (k + 1) (acc + x % 128 * 128 ^ k) r else if x = 0 ∧ 0 < k then (0, 0, 3) else (acc + x * 128 ^ k, k + 1, 0)
def readV (b : List Nat) : Nat × Nat × Int := rdv 0 0 (b.take 10)

theorem rdv_bound : ∀ (l : List Nat) (k acc : Nat), (rdv k acc l).2.1 ≤ k + l.length ∧ ((rdv k acc l).2.2 ≠ 0 → (rdv k acc l).1 = 0 ∧ (rdv k acc l).2.1 = 0) ∧ (rdv k acc l).2.1 ≤ k + l.length
  | [], k, acc => by simp [rdv]
  | x :: r, k, acc => by
    simp only [rdv]
    split
    · simp
    · split
      · have := rdv_bound r (k + 1) (acc + x % 128 * 128 ^ k)
        simp only [List.length_cons]
        refine ⟨by omega, this.2.1, by omega⟩
      · split
        · simp
        · simp
theorem readV_le (b : List Nat) : (readV b).2.1 ≤ b.length := by
  have := (rdv_bound (b.take 10) 0 0).1
  simp at this
  unfold readV
  omega
theorem rdv_lt : ∀ (l : List Nat) (k acc : Nat), k + l.length ≤ 10 → (∀ x ∈ l, x < 256) → acc < 128 ^ k → (rdv k acc l).1 < 2 ^ 64
  | [], k, acc, _, _, _ => by simp [rdv]
  | x :: r, k, acc, hk, hx, ha => by
    have hx0 := hx x (by simp)
    simp only [List.length_cons] at hk
    have hp : 128 ^ (k + 1) = 128 ^ k * 128 := Nat.pow_succ ..
    simp only [rdv]
    split
    · simp
    · rename_i h9
      split
      · refine rdv_lt r (k + 1) _ (by omega) (fun y hy => hx y (by simp [hy])) ?_
        rw [hp]
        have h1 : x % 128 * 128 ^ k ≤ 127 * 128 ^ k := Nat.mul_le_mul_right _ (by omega)
        omega
      · split
        · simp
        · simp only
          by_cases hk9 : k = 9
          · subst hk9
            have : x ≤ 1 := by omega
            have h1 : x * 128 ^ 9 ≤ 1 * 128 ^ 9 := Nat.mul_le_mul_right _ this
            omega
          · have h2 : 128 ^ k ≤ 128 ^ 8 := Nat.pow_le_pow_right (by omega) (by omega)
            have h1 : x * 128 ^ k ≤ 127 * 128 ^ k := Nat.mul_le_mul_right _ (by omega)
            omega
theorem readV_lt {b : List Nat} (hb : ∀ x ∈ b, x < 256) : (readV b).1 < 2 ^ 64 := rdv_lt _ 0 0 (by simp; omega) (fun x hx => hb x (List.mem_of_mem_take hx)) (by simp)
theorem andNot128 {x : Nat} (h : x < 256) : ibits .andNot .u8 (x : Int) 128 = ((x % 128 : Nat) : Int) := by
  have : ∀ x : Fin 256, ibits .andNot .u8 ((x.val : Nat) : Int) 128 = ((x.val % 128 : Nat) : Int) := by decide +kernel
  exact this ⟨x, h⟩
theorem or_shift {a x k : Nat} (ha : a < 128 ^ k) (hx : x * 128 ^ k < 2 ^ 64) (ha2 : a < 2 ^ 64) (hk : 7 * k ≤ 64) : ibits .or .u64 (a : Int) (shlI .u64 (x : Int) ((7 * k : Nat) : Int)) = ((a + x * 128 ^ k : Nat) : Int) := by
  have hp : (2 : Nat) ^ (7 * k) = 128 ^ k := by rw [Nat.pow_mul]
  rw [shlI_nat64 _ _ hk, hp, Nat.mod_eq_of_lt hx, ibits_or64 ha2 hx]
  congr 1
  have := Nat.two_pow_add_eq_or_of_lt (i := 7 * k) (b := a) (by rw [hp]; exact ha) x
  rw [hp] at this
  rw [Nat.or_comm, Nat.mul_comm x, ← this, Nat.add_comm]
end Go.Ck

set_option linter.unusedVariables false
set_option maxRecDepth 10000
namespace Go.Ck
open Go.Proofs

theorem append_fn (b : List Nat) (v : Nat) (hv : v < 2 ^ 64) (hl : b.length + 10 ≤ room) : Fn Try.prog 23 [] [.pv (.sl 1 (bytes b)), .pv (.int .u64 v)] (fun rs H' => rs = [.own 5 (bytes (b ++ leb v))] ∧ H' = []) := by
  refine Fn.of_body (fn := Try.f23) (n := 23) (res := [.tmp 4]) (by kernel_rfl) rfl rfl rfl rfl rfl (fun C => ?_)
  refine AW.go ?_
  refine AW.callE (fun _ => 0) (clone_bytes b (by omega)) (.pv _ .nil) ?_
  refine AW.go ?_
  have hlen := leb_len10 hv
  refine AW.loopS (fun a : List Nat × Nat => ⟨23, [(5, .own 5 (bytes a.1)), (1, .pv (.int .u64 a.2))], []⟩) (fun a => a.1 ++ leb a.2 = b ++ leb v ∧ a.2 < 2 ^ 64) (fun a => a.2) [5, 1] [] (b, v) ⟨rfl, hv⟩ ?_
  rintro ⟨o, u⟩ ⟨ho, hu⟩ K hK
  simp only at ho hu
  have hol : o.length + (leb u).length = b.length + (leb v).length := by rw [← List.length_append, ho, List.length_append]
  have hup := leb_pos u
  refine AW.go ?_
  refine AW.cond rfl (fun hb => ?_) (fun hb => ?_)
  · have hge : ¬ u < 128 := by simp at hb; omega
    refine AW.go ?_
    have e1 : ibits .or .u8 (IntKind.u8.wrap (u : Int)) 128 = ((u % 128 + 128 : Nat) : Int) := by
      rw [wrap_u8]
      have := ibits_or8 (a := u % 256) (b := 128) (by omega) (by omega)
      rw [or128 (by omega)] at this
      refine this.trans ?_
      congr 2; omega
    rw [e1]
    refine AW.callE (fun _ => 0) (with_fn o [u % 128 + 128] (by simp; omega)) (.move rfl (.lend rfl co_5 .nil)) ?_
    refine AW.go ?_
    have e2 : shrI .u64 (u : Int) 7 = ((u / 128 : Nat) : Int) := shrI_nat .u64 u 7 (by decide)
    refine AW.again hK (o ++ [u % 128 + 128], u / 128) ⟨?_, by simp only; omega⟩ (by simp only; omega) (by simp only [go_sem, ↓reduceIte]) (by simp only [go_sem, ↓reduceIte, e2])
    simp only [List.append_assoc, List.singleton_append]
    rw [← leb_ge hge, ho]
  · have hlt : u < 128 := by simp at hb; omega
    refine AW.go ?_
    have e1 : IntKind.u8.wrap (u : Int) = ((u : Nat) : Int) := wrap_u8_lt (by omega)
    rw [e1]
    refine AW.callE (fun _ => 0) (with_fn o [u] (by simp; omega)) (.move rfl (.lend rfl co_5 .nil)) ?_
    refine AW.go ?_
    refine AW.finE (.move rfl .nil) ?_
    rw [← ho, leb_lt hlt]
end Go.Ck

set_option linter.unusedVariables false
set_option maxRecDepth 10000
namespace Go.Ck
open Go.Proofs

/-! cursor -/
abbrev curO (l : List Nat) : List (Nat × HO) := [(1000, .cells 66 [.pv (.sl 1 (bytes l))])]

attribute [go_sem] curO
theorem curNew_fn (l : List Nat) (hl : l.length ≤ room) : Fn Try.prog 30 [] [.pv (.sl 1 (bytes l))] (fun rs H' => rs = [.ptr 7 0] ∧ H' = [(7, .cells 66 [.pv (.sl 1 (bytes l))])]) := by
  refine Fn.of_body (fn := Try.f30) (n := 8) (res := [.tmp 2]) (by kernel_rfl) rfl rfl rfl rfl rfl (fun C => ?_)
  refine AW.go ?_
  refine AW.callE (fun _ => 0) (clone_bytes l hl) (.pv _ .nil) ?_
  refine AW.go ?_
  refine AW.finE (.ptr rfl .nil) rfl

theorem left_fn (l : List Nat) : Fn Try.prog 73 (curO l) [.ptr 1000 0] (fun rs H' => rs = [.pv (.int .i64 l.length)] ∧ H' = curO l) := by
  refine Fn.of_body (fn := Try.f73) (n := 8) (res := [.tmp 2]) (by kernel_rfl) rfl rfl rfl rfl rfl (fun C => ?_)
  refine AW.go ?_
  refine AW.finE (.pv _ .nil) rfl

theorem take_fn (l : List Nat) (n : Nat) (hn : n ≤ l.length) (hl : l.length ≤ room) : Fn Try.prog 74 (curO l) [.ptr 1000 0, .pv (.int .i64 n)] (fun rs H' => rs = [.own 5 (bytes (l.take n))] ∧ H' = curO (l.drop n)) := by
  refine Fn.of_body (fn := Try.f74) (n := 23) (res := [.tmp 4]) (by kernel_rfl) rfl rfl rfl rfl rfl (fun C => ?_)
  refine AW.go ?_ (by simp only [go_sem, ↓reduceIte, hn] <;> rfl)
  refine AW.callE (fun _ => 0) (clone_bytes (l.take n) (by simp; omega)) (.pv _ .nil) ?_
  have e : (((l.length : Int) - (n : Int)).toNat) = l.length - n := by omega
  have e2 : (bytes (l.drop n)).take (l.length - n) = bytes (l.drop n) := List.take_of_length_le (by simp [bytes])
  refine AW.go ?_ (by simp only [go_sem, ↓reduceIte, hn, e]; rw [← bytes_take, e2] <;> rfl)
  refine AW.finE (.move rfl .nil) rfl
end Go.Ck

set_option linter.unusedVariables false
set_option maxRecDepth 10000
namespace Go.Ck
open Go.Proofs

theorem curLeft_fn (l : List Nat) : Fn Try.prog 55 (curO l) [.ptr 1000 0] (fun rs H' => rs = [.pv (.int .i64 l.length)] ∧ H' = curO l) := by
  refine Fn.of_body (fn := Try.f55) (n := 9) (res := [.tmp 2]) (by kernel_rfl) rfl rfl rfl rfl rfl (fun C => ?_)
  refine AW.go ?_
  refine AW.condF rfl ?_
  refine AW.go ?_
  refine AW.callE id (left_fn l) (.ptr rfl .nil) ?_
  refine AW.go ?_
  refine AW.finE (.pv _ .nil) rfl

theorem curEnd_fn (l : List Nat) : Fn Try.prog 53 (curO l) [.ptr 1000 0] (fun rs H' => rs = [.pv (.int .i64 (if l = [] then 0 else 3))] ∧ H' = curO l) := by
  refine Fn.of_body (fn := Try.f53) (n := 12) (res := [.tmp 2]) (by kernel_rfl) rfl rfl rfl rfl rfl (fun C => ?_)
  refine AW.go ?_
  refine AW.condF rfl ?_
  refine AW.go ?_
  refine AW.callE id (left_fn l) (.ptr rfl .nil) ?_
  refine AW.go ?_
  refine AW.cond rfl (fun hb => ?_) (fun hb => ?_)
  · refine AW.go ?_
    refine AW.finE (.pv _ .nil) ?_
    rw [if_neg (by rintro rfl; simp at hb)]
  · refine AW.go ?_
    refine AW.finE (.pv _ .nil) ?_
    rw [if_pos (by simpa using hb)]

theorem curBytes_fn (l : List Nat) (n : Nat) (hl : l.length ≤ room) : Fn Try.prog 51 (curO l) [.ptr 1000 0, .pv (.int .i64 n)]
    (fun rs H' => rs = [.own 5 (bytes (if n ≤ l.length then l.take n else [])), .pv (.int .i64 (if n ≤ l.length then 0 else 2))] ∧ H' = curO (if n ≤ l.length then l.drop n else l)) := by
  refine Fn.of_body (fn := Try.f51) (n := 25) (res := [.tmp 4, .tmp 5]) (by kernel_rfl) rfl rfl rfl rfl rfl (fun C => ?_)
  refine AW.gg ?_
  refine AW.condF rfl ?_
  refine AW.go ?_
  refine AW.callE id (left_fn l) (.ptr rfl .nil) ?_
  refine AW.go ?_
  refine AW.cond rfl (fun hb => ?_) (fun hb => ?_)
  · have hn : ¬ n ≤ l.length := by simp at hb; omega
    simp only [if_neg hn]
    refine AW.go ?_
    refine AW.finE (.move rfl (.pv _ .nil)) rfl
  · have hn : n ≤ l.length := by simp at hb; omega
    simp only [if_pos hn]
    refine AW.go ?_
    refine AW.callE id (take_fn l n hn hl) (.ptr rfl (.pv _ .nil)) ?_
    refine AW.go ?_
    refine AW.finE (.move rfl (.pv _ .nil)) rfl
end Go.Ck

set_option linter.unusedVariables false
set_option maxRecDepth 10000
namespace Go.Ck
open Go.Proofs

theorem via {T Q : Prop} (h : (Unit → T) → Q) (t : T) : Q := h (fun _ => t)
theorem read_fn (b : List Nat) (hb : ∀ x ∈ b, x < 256) : Fn Try.prog 75 [] [.pv (.sl 1 (bytes b))] (fun rs H' => rs = [.pv (.int .u64 ((readV b).1 : Nat)), .pv (.int .i64 ((readV b).2.1 : Nat)), .pv (.int .i64 (readV b).2.2)] ∧ H' = []) := by
  refine Fn.of_body (fn := Try.f75) (n := 47) (res := [.tmp 2, .tmp 3, .tmp 4]) (by kernel_rfl) rfl rfl rfl rfl rfl (fun C => ?_)
  have hm : (if (10 : Int) < (b.length : Int) then (10 : Int) else (b.length : Int)) = ((b.take 10).length : Nat) := by
    rw [List.length_take]; split <;> omega
  have h1 : (b.take 10).length ≤ b.length := by simp; omega
  have h2 : b.take (b.take 10).length = b.take 10 := by rw [List.length_take]; simp [List.take_eq_take_iff]
  refine AW.go ?_ (by simp only [go_sem, ↓reduceIte, hm, h1, h2] <;> rfl)
  have hbb : ∀ x ∈ b.take 10, x < 256 := fun x hx => hb x (List.mem_of_mem_take hx)
  have hlen : (b.take 10).length ≤ 10 := by simp; omega
  unfold readV
  generalize b.take 10 = c at hbb hlen ⊢
  refine AW.loopS (fun a : Nat × Nat => ⟨47, [(14, .pv (.int .i64 a.1)), (5, .pv (.int .u64 a.2)), (12, .pv (.sl 1 (bytes c))), (13, .pv (.int .i64 c.length))], []⟩) (fun a => a.1 ≤ c.length ∧ rdv a.1 a.2 (c.drop a.1) = rdv 0 0 c ∧ a.2 < 128 ^ a.1) (fun a => c.length - a.1) [14, 5, 12, 13] [] (0, 0) ⟨Nat.zero_le _, rfl, by simp⟩ ?_
  rintro ⟨i, v⟩ ⟨hi, hr, hv⟩ K hK
  simp only at hi hr hv
  refine AW.go ?_
  refine AW.cond rfl (fun hc => ?_) (fun hc => ?_)
  · have hlt : i < c.length := by simpa using hc
    have hx := hbb c[i] (List.getElem_mem hlt)
    have hget := bytes_get hlt
    rw [List.drop_eq_getElem_cons hlt] at hr
    simp only [rdv] at hr
    generalize c[i] = x at hx hget hr
    have hvlt : v < 2 ^ 64 := by
      have : 128 ^ i ≤ 128 ^ 9 := Nat.pow_le_pow_right (by omega) (by omega)
      omega
    have hp : 128 ^ (i + 1) = 128 ^ i * 128 := Nat.pow_succ ..
    have e9 : ((i : Int) == 9) = decide (i = 9) := by rw [Bool.eq_iff_iff]; simp; omega
    have e1 : decide ((x : Int) > 1) = decide (1 < x) := by rw [Bool.eq_iff_iff]; simp; omega
    have e7 : IntKind.i64.wrap (7 * (i : Int)) = ((7 * i : Nat) : Int) := by rw [wrap_i64_of (by omega) (by omega)]; omega
    have hu : IntKind.u64.wrap ((x % 128 : Nat) : Int) = ((x % 128 : Nat) : Int) := wrap_u64_lt (by omega)
    have ei : IntKind.i64.wrap ((i : Int) + 1) = ((i + 1 : Nat) : Int) := wrap_i64_succ (by omega)
    by_cases h9 : i = 9 ∧ 1 < x
    · obtain ⟨k1, k2⟩ := h9
      rw [if_pos ⟨k1, k2⟩] at hr
      have b1 : decide (i = 9) = true := by simpa using k1
      have b2 : decide (1 < x) = true := by simpa using k2
      refine AW.gg ?_ (by simp only [go_sem, ↓reduceIte, hget, e9, e1, b1, b2] <;> rfl)
      refine AW.condT rfl ?_
      refine AW.go ?_
      refine AW.finE (.pv _ (.pv _ (.pv _ .nil))) ?_
      rw [← hr]; rfl
    · rw [if_neg h9] at hr
      have ea : ibits .andNot .u8 (x : Int) 128 = ((x % 128 : Nat) : Int) := andNot128 hx
      have hi9 : i ≤ 9 := by omega
      have hpw : 128 ^ i ≤ 128 ^ 9 := Nat.pow_le_pow_right (by omega) hi9
      have hxs : x % 128 * 128 ^ i < 2 ^ 64 := by
        by_cases k : i = 9
        · subst k
          have : x ≤ 1 := by omega
          have h1 : x % 128 * 128 ^ 9 ≤ 1 * 128 ^ 9 := Nat.mul_le_mul_right _ (by omega)
          omega
        · have h2 : 128 ^ i ≤ 128 ^ 8 := Nat.pow_le_pow_right (by omega) (by omega)
          have h1 : x % 128 * 128 ^ i ≤ 127 * 128 ^ i := Nat.mul_le_mul_right _ (by omega)
          omega
      have eo := or_shift (a := v) (x := x % 128) (k := i) hv hxs hvlt (by omega)
      refine via (T := ?T) (fun hT => ?_) ?_
      rotate_left
      · by_cases k : i = 9
        · have b1 : decide (i = 9) = true := by simpa using k
          refine AW.gg ?_ (by simp only [go_sem, ↓reduceIte, hget, e9, b1] <;> rfl)
          refine AW.cond rfl (fun hc2 => absurd ⟨k, by simp at hc2; omega⟩ h9) (fun hc2 => ?_)
          refine AW.keepB [5, 6, 7, 12, 13, 14] [] (by simp only [go_sem, ↓reduceIte]) (by simp only [go_sem, ↓reduceIte] <;> rfl) ?_
          exact hT ()
        · have b1 : decide (i = 9) = false := by simpa using k
          refine AW.gg ?_ (by simp only [go_sem, ↓reduceIte, hget, e9, b1] <;> rfl)
          refine AW.condF rfl ?_
          refine AW.keepB [5, 6, 7, 12, 13, 14] [] (by simp only [go_sem, ↓reduceIte]) (by simp only [go_sem, ↓reduceIte] <;> rfl) ?_
          exact hT ()
      refine AW.go ?_ (by simp only [go_sem, ↓reduceIte, ea, e7, hu, eo] <;> rfl)
      refine AW.cond rfl (fun hc2 => ?_) (fun hc2 => ?_)
      · have h128 : 128 ≤ x := by simp at hc2; omega
        rw [if_pos h128] at hr
        refine AW.go ?_ (by simp only [go_sem, ↓reduceIte, ei] <;> rfl)
        refine AW.again hK (i + 1, v + x % 128 * 128 ^ i) ⟨hlt, hr, ?_⟩ (by simp only; omega)
        simp only
        rw [hp]
        have h1 : x % 128 * 128 ^ i ≤ 127 * 128 ^ i := Nat.mul_le_mul_right _ (by omega)
        omega
      · have h128 : ¬ 128 ≤ x := by simp at hc2; omega
        rw [if_neg h128] at hr
        have hxm : x % 128 = x := Nat.mod_eq_of_lt (by omega)
        have e0 : ((x : Int) == 0) = decide (x = 0) := by rw [Bool.eq_iff_iff]; simp
        have ep : decide ((i : Int) > 0) = decide (0 < i) := by rw [Bool.eq_iff_iff]; simp
        rw [hxm]
        by_cases k0 : x = 0
        · have b1 : decide (x = 0) = true := by simpa using k0
          refine AW.gg ?_ (by simp only [go_sem, ↓reduceIte, e0, b1] <;> rfl)
          refine AW.cond rfl (fun hc3 => ?_) (fun hc3 => ?_)
          · have : 0 < i := by simp at hc3; omega
            rw [if_pos ⟨k0, this⟩] at hr
            refine AW.go ?_
            refine AW.finE (.pv _ (.pv _ (.pv _ .nil))) ?_
            rw [← hr]; rfl
          · have : ¬ 0 < i := by simp at hc3; omega
            rw [if_neg (fun h => this h.2)] at hr
            refine AW.go ?_ (by simp only [go_sem, ↓reduceIte, ei] <;> rfl)
            refine AW.finE (.pv _ (.pv _ (.pv _ .nil))) ?_
            rw [← hr]
        · have b1 : decide (x = 0) = false := by simpa using k0
          refine AW.gg ?_ (by simp only [go_sem, ↓reduceIte, e0, b1] <;> rfl)
          refine AW.condF rfl ?_
          rw [if_neg (fun h => k0 h.1)] at hr
          refine AW.go ?_ (by simp only [go_sem, ↓reduceIte, ei] <;> rfl)
          refine AW.finE (.pv _ (.pv _ (.pv _ .nil))) ?_
          rw [← hr]
  · have hge : ¬ i < c.length := by simpa using hc
    rw [List.drop_eq_nil_of_le (by omega), rdv] at hr
    refine AW.go ?_
    refine AW.finE (.pv _ (.pv _ (.pv _ .nil))) ?_
    rw [← hr]; rfl
end Go.Ck

set_option linter.unusedVariables false
/-! Bytes and numbers of a fixed width; blocks. -/
namespace Go.Ck
/-- Bytes, the first the greatest. -/
def beN (l : List Nat) : Nat := l.foldl (fun a x => a * 256 + x) 0
theorem beN_snoc (l : List Nat) (x : Nat) : beN (l ++ [x]) = beN l * 256 + x := by simp [beN]
theorem beN_lt (l : List Nat) (h : ∀ x ∈ l, x < 256) : beN l < 256 ^ l.length := by
  have : ∀ (n : Nat) (l : List Nat), l.length = n → (∀ x ∈ l, x < 256) → beN l < 256 ^ n := by
    intro n
    induction n with
    | zero => intro l hl _; rw [List.length_eq_zero_iff.1 hl]; simp [beN]
    | succ n ih =>
      intro l hl h
      have hne : l ≠ [] := by rintro rfl; simp at hl
      rw [← List.dropLast_concat_getLast hne, beN_snoc]
      have h1 := ih l.dropLast (by simp; omega) (fun x hx => h x (List.dropLast_subset l hx))
      have h2 := h _ (List.getLast_mem hne)
      rw [Nat.pow_succ]
      omega
  exact this _ l rfl h
/-- A number in n bytes. -/
def beB (v : Nat) : Nat → List Nat
  | 0 => []
  | n + 1 => (v / 256 ^ n % 256) :: beB v n
theorem beB_len (v n : Nat) : (beB v n).length = n := by induction n with | zero => rfl | succ n ih => simp [beB, ih]
theorem beB_byte (v n : Nat) : ∀ x ∈ beB v n, x < 256 := by
  induction n with
  | zero => simp [beB]
  | succ n ih => intro x hx; rcases List.mem_cons.1 hx with rfl | hx
                 · omega
                 · exact ih x hx
theorem or_lt256 {a x : Nat} (ha : a < 2 ^ 56) (hx : x < 256) : ibits .or .u64 (shlI .u64 (a : Int) 8) (x : Int) = ((a * 256 + x : Nat) : Int) := by
  have h8 : ((8 : Nat) : Int) = 8 := rfl
  have := shlI_nat64 a 8 (by omega)
  rw [h8] at this
  rw [this, show (2 : Nat) ^ 8 = 256 from rfl, Nat.mod_eq_of_lt (by omega), ibits_or64 (by omega) (by omega)]
  congr 1
  have := Nat.two_pow_add_eq_or_of_lt (i := 8) (b := x) (by omega) a
  rw [Nat.mul_comm a, ← this]
/-- The next block: bytes, why not, what is left. -/
def blk (l : List Nat) (m : Nat) : List Nat × Int × List Nat :=
  if (readV l).2.2 ≠ 0 then ([], (readV l).2.2, l) else if m < (readV l).1 then ([], 4, l) else if l.length - (readV l).2.1 < (readV l).1 then ([], 2, l)
  else ((l.drop (readV l).2.1).take (readV l).1, 0, l.drop ((readV l).2.1 + (readV l).1))
end Go.Ck
namespace Go.Ck
theorem rdv_take : ∀ (l : List Nat) (k acc n : Nat), k ≤ 9 → k + n = 10 → rdv k acc (l.take n) = rdv k acc l
  | [], k, acc, n, hk, h => by simp
  | x :: r, k, acc, 0, hk, h => by omega
  | x :: r, k, acc, n + 1, hk, h => by
    rw [List.take_succ_cons]
    simp only [rdv]
    split
    · rfl
    · rename_i h9
      split
      · rw [rdv_take r (k + 1) _ n (by omega) (by omega)]
      · rfl
theorem readV_eq (l : List Nat) : readV l = rdv 0 0 l := rdv_take l 0 0 10 (by omega) (by omega)
theorem beB_succ (v n : Nat) : beB v (n + 1) = (v / 256 ^ n % 256) :: beB v n := rfl
end Go.Ck

set_option linter.unusedVariables false
set_option maxRecDepth 10000
namespace Go.Ck
open Go.Proofs

theorem curByte_fn (l : List Nat) (hl : l.length ≤ room) : Fn Try.prog 31 (curO l) [.ptr 1000 0]
    (fun rs H' => rs = [.pv (.int .u8 (l.headD 0 : Nat)), .pv (.int .i64 (if l = [] then 2 else 0))] ∧ H' = curO l.tail) := by
  refine Fn.of_body (fn := Try.f31) (n := 17) (res := [.tmp 2, .tmp 3]) (by kernel_rfl) rfl rfl rfl rfl rfl (fun C => ?_)
  refine AW.go ?_
  cases l with
  | nil =>
    have := curBytes_fn [] 1 hl
    simp only [List.length_nil, Nat.le_zero_eq, Nat.reduceEqDiff, Nat.one_ne_zero, if_false] at this
    refine AW.callE id this (.ptr rfl (.pv _ .nil)) ?_
    refine AW.go ?_
    refine AW.condT rfl ?_
    refine AW.go ?_
    refine AW.finE (.pv _ (.pv _ .nil)) rfl
  | cons x r =>
    have := curBytes_fn (x :: r) 1 hl
    simp only [List.length_cons, Nat.le_add_left, if_true, List.take_succ_cons, List.take_zero, List.drop_succ_cons, List.drop_zero] at this
    refine AW.callE id this (.ptr rfl (.pv _ .nil)) ?_
    refine AW.go ?_
    refine AW.condF rfl ?_
    have hget : (bytes [x])[0]? = some (.int .u8 (x : Nat)) := rfl
    refine AW.go ?_ (by simp only [go_sem, ↓reduceIte, hget] <;> rfl)
    refine AW.finE (.pv _ (.pv _ .nil)) rfl

theorem curVarint_fn (l : List Nat) (hl : l.length ≤ room) (hb : ∀ x ∈ l, x < 256) : Fn Try.prog 54 (curO l) [.ptr 1000 0]
    (fun rs H' => rs = [.pv (.int .u64 ((readV l).1 : Nat)), .pv (.int .i64 (readV l).2.2)] ∧ H' = curO (l.drop (readV l).2.1)) := by
  refine Fn.of_body (fn := Try.f54) (n := 26) (res := [.tmp 2, .tmp 3]) (by kernel_rfl) rfl rfl rfl rfl rfl (fun C => ?_)
  refine AW.go ?_
  refine AW.condF rfl ?_
  refine AW.go ?_
  refine AW.callE (fun _ => 0) (read_fn l hb) (.pv _ .nil) ?_
  refine AW.go ?_
  refine AW.callE id (take_fn l _ (readV_le l) hl) (.ptr rfl (.pv _ .nil)) ?_
  refine AW.go ?_
  refine AW.finE (.pv _ (.pv _ .nil)) rfl

theorem curFixed_fn (l : List Nat) (n : Nat) (hn : n ≤ 8) (hl : l.length ≤ room) (hb : ∀ x ∈ l, x < 256) : Fn Try.prog 52 (curO l) [.ptr 1000 0, .pv (.int .i64 n)]
    (fun rs H' => rs = [.pv (.int .u64 ((if n ≤ l.length then beN (l.take n) else 0) : Nat)), .pv (.int .i64 (if n ≤ l.length then 0 else 2))] ∧ H' = curO (if n ≤ l.length then l.drop n else l)) := by
  refine Fn.of_body (fn := Try.f52) (n := 33) (res := [.tmp 4, .tmp 5]) (by kernel_rfl) rfl rfl rfl rfl rfl (fun C => ?_)
  refine AW.go ?_
  refine AW.condF (by simp only [go_sem, ↓reduceIte]; congr 3; simp; omega) ?_
  refine AW.go ?_
  refine AW.callE id (curBytes_fn l n hl) (.ptr rfl (.pv _ .nil)) ?_
  have e0 : (if n ≤ l.length then beN (l.take n) else 0) = beN (if n ≤ l.length then l.take n else []) := by split <;> rfl
  rw [e0]
  have hxl : (if n ≤ l.length then l.take n else []).length ≤ 8 := by split <;> simp <;> omega
  have hxb : ∀ x ∈ (if n ≤ l.length then l.take n else []), x < 256 := by
    split
    · exact fun x hx => hb x (List.mem_of_mem_take hx)
    · simp
  generalize (if n ≤ l.length then l.take n else []) = xs at *
  generalize hE : (if n ≤ l.length then 0 else 2 : Int) = er
  generalize hR : (if n ≤ l.length then l.drop n else l) = lr
  refine AW.go ?_
  have hr : room < 2 ^ 63 := by decide
  refine AW.loopS (fun i : Nat => ⟨33, [(21, .pv (.int .i64 i)), (8, .pv (.int .u64 (beN (xs.take i) : Nat))), (19, .al (.slot 6)), (20, .pv (.int .i64 xs.length)), (6, .own 5 (bytes xs)), (7, .pv (.int .i64 er))], curO lr⟩) (fun i => i ≤ xs.length) (fun i => xs.length - i) [21, 8, 19, 20, 6, 7] [1000] 0 (Nat.zero_le _) ?_
  rintro i hi K hK
  refine AW.go ?_
  refine AW.cond rfl (fun hc => ?_) (fun hc => ?_)
  · have hlt : i < xs.length := by simpa using hc
    have hget := bytes_get hlt
    have hx := hxb _ (List.getElem_mem hlt)
    have hti : xs.take (i + 1) = xs.take i ++ [xs[i]] := by simp
    have hbl := beN_lt (xs.take i) (fun x hx => hxb x (List.mem_of_mem_take hx))
    have hp : 256 ^ (xs.take i).length ≤ 256 ^ 7 := Nat.pow_le_pow_right (by omega) (by simp; omega)
    have eo := or_lt256 (a := beN (xs.take i)) (x := xs[i]) (by omega) hx
    have eu : IntKind.u64.wrap ((xs[i] : Nat) : Int) = (xs[i] : Nat) := wrap_u64_lt (by omega)
    have ei : IntKind.i64.wrap ((i : Int) + 1) = ((i + 1 : Nat) : Int) := wrap_i64_succ (by omega)
    rw [← beN_snoc, ← hti] at eo
    refine AW.go ?_ (by simp only [go_sem, ↓reduceIte, hget, hlt, eu, eo, ei] <;> rfl)
    refine AW.again hK (i + 1) hlt (by omega)
  · have hge : ¬ i < xs.length := by simpa using hc
    rw [List.take_of_length_le (by omega)]
    refine AW.go ?_
    refine AW.finE (.pv _ (.pv _ .nil)) rfl
end Go.Ck

set_option linter.unusedVariables false
set_option maxRecDepth 10000
namespace Go.Ck
open Go.Proofs

theorem shr_byte {v j : Nat} (hj : j < 8) : IntKind.u8.wrap (shrI .u64 (v : Int) ((8 * j : Nat) : Int)) = ((v / 256 ^ j % 256 : Nat) : Int) := by
  rw [shrI_nat .u64 v (8 * j) (by show 8 * j ≤ 64; omega), wrap_u8, Nat.pow_mul]

theorem fix_fn (v n : Nat) (hv : v < 2 ^ 64) (hn : n ≤ 8) : Fn Try.prog 21 [] [.pv (.int .u64 v), .pv (.int .i64 n)] (fun rs H' => rs = [.own 5 (bytes (beB v n))] ∧ H' = []) := by
  refine Fn.of_body (fn := Try.f21) (n := 33) (res := [.tmp 4]) (by kernel_rfl) rfl rfl rfl rfl rfl (fun C => ?_)
  refine AW.gg ?_
  refine AW.condF (by simp only [go_sem, ↓reduceIte]; congr 3; simp; omega) ?_
  have hr : n ≤ room := Nat.le_trans hn (le_room 8)
  have hrep : List.replicate n (PV.int .u8 0) = bytes (List.replicate n 0) := by simp [bytes]
  refine AW.go ?_ (by simp only [go_sem, ↓reduceIte, hr, Nat.le_refl, hrep, List.length_replicate] <;> rfl)
  refine AW.loopS (fun a : List Nat × Nat => ⟨33, [(17, .pv (.int .i64 a.2)), (16, .pv (.int .i64 n)), (5, .own 5 (bytes a.1)), (1, .pv (.int .i64 n)), (0, .pv (.int .u64 v))], []⟩) (fun a => a.1 = List.replicate (n - a.2) 0 ++ beB v a.2 ∧ a.2 ≤ n) (fun a => n - a.2) [17, 16, 5, 1, 0] [] (List.replicate n 0, 0) ⟨by simp [beB], Nat.zero_le _⟩ ?_
  rintro ⟨l, i⟩ ⟨hl, hi⟩ K hK
  simp only at hl hi
  have hlen : l.length = n := by rw [hl]; simp [beB_len]; omega
  refine AW.go ?_
  refine AW.cond rfl (fun hc => ?_) (fun hc => ?_)
  · have hlt : i < n := by simpa using hc
    have e0 : IntKind.i64.wrap (IntKind.i64.wrap ((n : Int) - 1) - (i : Int)) = ((n - 1 - i : Nat) : Int) := by
      rw [wrap_i64_of (n := (n : Int) - 1) (by omega) (by omega), wrap_i64_of (by omega) (by omega)]; omega
    have e1 : IntKind.i64.wrap (8 * (i : Int)) = ((8 * i : Nat) : Int) := by rw [wrap_i64_of (by omega) (by omega)]; omega
    have e3 := shr_byte (v := v) (j := i) (by omega)
    have e4 : IntKind.i64.wrap ((i : Int) + 1) = ((i + 1 : Nat) : Int) := wrap_i64_succ (by omega)
    have hlt2 : n - 1 - i < l.length := by omega
    have hget := bytes_get hlt2
    refine AW.go ?_ (by simp only [go_sem, ↓reduceIte, e0, e1, e3, e4, hlt2, hget, bytes_set] <;> rfl)
    refine AW.again hK (l.set (n - 1 - i) (v / 256 ^ i % 256), i + 1) ⟨?_, hlt⟩ (by simp only; omega)
    simp only
    rw [hl, beB_succ, show n - i = (n - (i + 1)) + 1 by omega, List.replicate_succ', List.append_assoc, show n - 1 - i = n - (i + 1) by omega, List.set_append_right _ _ (by simp)]
    simp
  · have hge : ¬ i < n := by simpa using hc
    refine AW.go ?_
    refine AW.finE (.move rfl .nil) ?_
    have : i = n := by omega
    rw [hl, this]; simp

theorem refFix_fn (v n : Nat) (hv : v < 2 ^ 64) (hn : n ≤ 8) : Fn Try.prog 25 [] [.pv (.int .u64 v), .pv (.int .i64 n)] (fun rs H' => rs = [.own 5 (bytes (beB v n))] ∧ H' = []) := by
  refine Fn.of_body (fn := Try.f25) (n := 29) (res := [.tmp 4]) (by kernel_rfl) rfl rfl rfl rfl rfl (fun C => ?_)
  refine AW.gg ?_
  refine AW.condF (by simp only [go_sem, ↓reduceIte]; congr 3; simp; omega) ?_
  refine AW.go ?_
  refine AW.loopS (fun a : List Nat × Nat => ⟨29, [(5, .own 5 (bytes a.1)), (6, .pv (.int .i64 ((a.2 : Int) - 1))), (0, .pv (.int .u64 v))], []⟩) (fun a => a.1 ++ beB v a.2 = beB v n ∧ a.2 ≤ n) (fun a => a.2) [5, 6, 0] [] ([], n) ⟨rfl, Nat.le_refl _⟩ ?_ (by simp only [go_sem, ↓reduceIte]) (by simp only [go_sem, ↓reduceIte]; rw [wrap_i64_of (by omega) (by omega)] <;> rfl)
  rintro ⟨o, j⟩ ⟨ho, hj⟩ K hK
  simp only at ho hj
  refine AW.go ?_
  refine AW.cond rfl (fun hc => ?_) (fun hc => ?_)
  · cases j with
    | zero => simp at hc
    | succ j =>
      have e0 : (((j + 1 : Nat) : Int) - 1) = (j : Nat) := by omega
      have e1 : IntKind.i64.wrap (8 * (j : Int)) = ((8 * j : Nat) : Int) := by rw [wrap_i64_of (by omega) (by omega)]; omega
      have e2 : IntKind.u64.wrap ((8 * j : Nat) : Int) = ((8 * j : Nat) : Int) := wrap_u64_lt (by omega)
      have e4 : IntKind.i64.wrap ((j : Int) - 1) = (j : Int) - 1 := wrap_i64_of (by omega) (by omega)
      have e3 := shr_byte (v := v) (j := j) (by omega)
      have hlen : o.length + 1 ≤ room := by
        have := congrArg List.length ho
        simp [beB_len] at this
        have := le_room 8
        omega
      refine AW.go ?_ (by simp only [go_sem, ↓reduceIte, e0, e1, e2, e3, e4, Nat.one_mul, bytes_one, hlen] <;> rfl)
      refine AW.again hK (o ++ [v / 256 ^ j % 256], j) ⟨?_, by simp only; omega⟩ (by simp only; omega)
      rw [← ho, beB_succ]; simp
  · cases j with
    | zero =>
      refine AW.go ?_
      refine AW.finE (.move rfl .nil) ?_
      rw [← ho]; simp [beB]
    | succ j => exact absurd hc (by simp)

theorem refAppend_fn (b : List Nat) (v : Nat) (hv : v < 2 ^ 64) (hl : b.length + 10 ≤ room) : Fn Try.prog 28 [] [.pv (.sl 1 (bytes b)), .pv (.int .u64 v)] (fun rs H' => rs = [.own 5 (bytes (b ++ leb v))] ∧ H' = []) := by
  refine Fn.of_body (fn := Try.f28) (n := 26) (res := [.tmp 4]) (by kernel_rfl) rfl rfl rfl rfl rfl (fun C => ?_)
  have hb0 : b.length ≤ room := by omega
  refine AW.go ?_ (by simp only [go_sem, ↓reduceIte, hb0, Nat.zero_add, List.nil_append] <;> rfl)
  have hlen := leb_len10 hv
  refine AW.loopS (fun a : List Nat × Nat => ⟨26, [(5, .own 5 (bytes a.1)), (1, .pv (.int .u64 a.2))], []⟩) (fun a => a.1 ++ leb a.2 = b ++ leb v ∧ a.2 < 2 ^ 64) (fun a => a.2) [5, 1] [] (b, v) ⟨rfl, hv⟩ ?_
  rintro ⟨o, u⟩ ⟨ho, hu⟩ K hK
  simp only at ho hu
  have hol : o.length + (leb u).length = b.length + (leb v).length := by rw [← List.length_append, ho, List.length_append]
  have hup := leb_pos u
  have ho1 : o.length + 1 ≤ room := by omega
  have e128 : IntKind.u64.wrap (Int.tdiv (u : Int) 128) = ((u / 128 : Nat) : Int) := by rw [show Int.tdiv (u : Int) 128 = ((u / 128 : Nat) : Int) from rfl, wrap_u64_lt (by omega)]
  refine AW.go ?_ (by simp only [go_sem, ↓reduceIte, e128] <;> rfl)
  refine AW.cond rfl (fun hc => ?_) (fun hc => ?_)
  · have hge : ¬ u < 128 := by simp at hc; omega
    have e1 : IntKind.u8.wrap (IntKind.u8.wrap (Int.tmod (u : Int) 128) + 128) = ((u % 128 + 128 : Nat) : Int) := by
      rw [show Int.tmod (u : Int) 128 = ((u % 128 : Nat) : Int) from rfl, wrap_u8_lt (by omega)]
      exact wrap_u8_lt (n := u % 128 + 128) (by omega)
    refine AW.go ?_ (by simp only [go_sem, ↓reduceIte, e128, e1, bytes_one, ho1] <;> rfl)
    refine AW.again hK (o ++ [u % 128 + 128], u / 128) ⟨?_, by simp only; omega⟩ (by simp only; omega)
    simp only [List.append_assoc, List.singleton_append]
    rw [← leb_ge hge, ho]
  · have hlt : u < 128 := by simp at hc; omega
    have e1 : IntKind.u8.wrap (u : Int) = ((u : Nat) : Int) := wrap_u8_lt (by omega)
    refine AW.go ?_ (by simp only [go_sem, ↓reduceIte, e1, bytes_one, ho1] <;> rfl)
    refine AW.finE (.move rfl .nil) ?_
    rw [← ho, leb_lt hlt]

theorem refRead_fn (b : List Nat) (hl : b.length ≤ room) (hb : ∀ x ∈ b, x < 256) : Fn Try.prog 80 [] [.pv (.sl 1 (bytes b))] (fun rs H' => rs = [.pv (.int .u64 ((readV b).1 : Nat)), .pv (.int .i64 ((readV b).2.1 : Nat)), .pv (.int .i64 (readV b).2.2)] ∧ H' = []) := by
  refine Fn.of_body (fn := Try.f80) (n := 51) (res := [.tmp 2, .tmp 3, .tmp 4]) (by kernel_rfl) rfl rfl rfl rfl rfl (fun C => ?_)
  have hr : room < 2 ^ 63 := by decide
  refine AW.go ?_
  rw [readV_eq]
  refine AW.loopS (fun a : Nat × Nat => ⟨51, [(6, .pv (.int .i64 a.1)), (5, .pv (.int .u64 a.2)), (0, .pv (.sl 1 (bytes b)))], []⟩) (fun a => a.1 ≤ b.length ∧ a.1 ≤ 10 ∧ (a.1 = 10 → a.1 = b.length) ∧ rdv a.1 a.2 (b.drop a.1) = rdv 0 0 b ∧ a.2 < 128 ^ a.1) (fun a => b.length - a.1) [6, 5, 0] [] (0, 0) ⟨Nat.zero_le _, by simp, by simp, rfl, by simp⟩ ?_
  rintro ⟨i, v⟩ ⟨hi, hi10, hi11, hr, hv⟩ K hK
  simp only at hi hi10 hi11 hr hv
  refine AW.go ?_
  refine AW.cond rfl (fun hc => ?_) (fun hc => ?_)
  · have hlt : i < b.length := by simpa using hc
    have hi9 : i ≤ 9 := by omega
    have hx := hb b[i] (List.getElem_mem hlt)
    have hget := bytes_get hlt
    rw [List.drop_eq_getElem_cons hlt] at hr
    simp only [rdv] at hr
    generalize b[i] = x at hx hget hr
    have hvlt : v < 2 ^ 63 := by
      have : 128 ^ i ≤ 128 ^ 9 := Nat.pow_le_pow_right (by omega) (by omega)
      omega
    have hp : 128 ^ (i + 1) = 128 ^ i * 128 := Nat.pow_succ ..
    have e9 : ((i : Int) == 9) = decide (i = 9) := by rw [Bool.eq_iff_iff]; simp; omega
    have ei : IntKind.i64.wrap ((i : Int) + 1) = ((i + 1 : Nat) : Int) := wrap_i64_succ (by omega)
    by_cases h9 : i = 9 ∧ 1 < x
    · obtain ⟨k1, k2⟩ := h9
      rw [if_pos ⟨k1, k2⟩] at hr
      have b1 : decide (i = 9) = true := by simpa using k1
      refine AW.gg ?_ (by simp only [go_sem, ↓reduceIte, hget, e9, b1] <;> rfl)
      refine AW.cond rfl (fun hc2 => ?_) (fun hc2 => absurd k2 (by have h := of_decide_eq_false hc2; omega))
      refine AW.go ?_
      refine AW.finE (.pv _ (.pv _ (.pv _ .nil))) ?_
      rw [← hr]; rfl
    · rw [if_neg h9] at hr
      have hxs : x % 128 * 128 ^ i < 2 ^ 64 - 2 ^ 63 + 1 := by
        by_cases k : i = 9
        · subst k
          have : x ≤ 1 := by omega
          have h1 : x % 128 * 128 ^ 9 ≤ 1 * 128 ^ 9 := Nat.mul_le_mul_right _ (by omega)
          omega
        · have h2 : 128 ^ i ≤ 128 ^ 8 := Nat.pow_le_pow_right (by omega) (by omega)
          have h1 : x % 128 * 128 ^ i ≤ 127 * 128 ^ i := Nat.mul_le_mul_right _ (by omega)
          omega
      have em : Int.tmod (x : Int) 128 = ((x % 128 : Nat) : Int) := rfl
      have eu : IntKind.u64.wrap ((x % 128 : Nat) : Int) = ((x % 128 : Nat) : Int) := wrap_u64_lt (by omega)
      have e7 : IntKind.u64.wrap (IntKind.i64.wrap (7 * (i : Int))) = ((7 * i : Nat) : Int) := by
        rw [wrap_i64_of (by omega) (by omega)]
        exact wrap_u64_lt (n := 7 * i) (by omega)
      have es : shlI .u64 ((x % 128 : Nat) : Int) ((7 * i : Nat) : Int) = ((x % 128 * 128 ^ i : Nat) : Int) := by
        rw [shlI_nat64 _ _ (by omega), show (2 : Nat) ^ (7 * i) = 128 ^ i by rw [Nat.pow_mul], Nat.mod_eq_of_lt (by omega)]
      have ea : IntKind.u64.wrap ((v : Int) + ((x % 128 * 128 ^ i : Nat) : Int)) = ((v + x % 128 * 128 ^ i : Nat) : Int) := wrap_u64_lt (n := v + x % 128 * 128 ^ i) (by omega)
      refine via (T := ?T) (fun hT => ?_) ?_
      rotate_left
      · by_cases k : i = 9
        · have b1 : decide (i = 9) = true := by simpa using k
          refine AW.gg ?_ (by simp only [go_sem, ↓reduceIte, hget, e9, b1] <;> rfl)
          refine AW.cond rfl (fun hc2 => absurd ⟨k, by simp at hc2; omega⟩ h9) (fun hc2 => ?_)
          refine AW.keepB [0, 5, 6] [] (by simp only [go_sem, ↓reduceIte]) (by simp only [go_sem, ↓reduceIte] <;> rfl) ?_
          exact hT ()
        · have b1 : decide (i = 9) = false := by simpa using k
          refine AW.gg ?_ (by simp only [go_sem, ↓reduceIte, hget, e9, b1] <;> rfl)
          refine AW.condF rfl ?_
          refine AW.keepB [0, 5, 6] [] (by simp only [go_sem, ↓reduceIte]) (by simp only [go_sem, ↓reduceIte] <;> rfl) ?_
          exact hT ()
      refine AW.go ?_ (by simp only [go_sem, ↓reduceIte, hget, em, eu, e7, es, ea] <;> rfl)
      refine AW.cond rfl (fun hc2 => ?_) (fun hc2 => ?_)
      · have h128 : ¬ 128 ≤ x := by simp at hc2; omega
        rw [if_neg h128] at hr
        have hxm : x % 128 = x := Nat.mod_eq_of_lt (by omega)
        rw [hxm]
        have ep : decide ((i : Int) > 0) = decide (0 < i) := by rw [Bool.eq_iff_iff]; simp
        by_cases k0 : 0 < i
        · have b1 : decide (0 < i) = true := by simpa using k0
          refine AW.gg ?_ (by simp only [go_sem, ↓reduceIte, hget, ep, b1] <;> rfl)
          refine AW.cond rfl (fun hc3 => ?_) (fun hc3 => ?_)
          · have hx0 : x = 0 := by simp at hc3; omega
            rw [if_pos ⟨hx0, k0⟩] at hr
            refine AW.go ?_
            refine AW.finE (.pv _ (.pv _ (.pv _ .nil))) ?_
            rw [← hr]; rfl
          · have hx0 : ¬ x = 0 := by simp at hc3; omega
            rw [if_neg (fun h => hx0 h.1)] at hr
            refine AW.go ?_ (by simp only [go_sem, ↓reduceIte, ei] <;> rfl)
            refine AW.finE (.pv _ (.pv _ (.pv _ .nil))) ?_
            rw [← hr]
        · have b1 : decide (0 < i) = false := by simpa using k0
          refine AW.gg ?_ (by simp only [go_sem, ↓reduceIte, ep, b1] <;> rfl)
          refine AW.condF rfl ?_
          rw [if_neg (fun h => k0 h.2)] at hr
          refine AW.go ?_ (by simp only [go_sem, ↓reduceIte, ei] <;> rfl)
          refine AW.finE (.pv _ (.pv _ (.pv _ .nil))) ?_
          rw [← hr]
      · have h128 : 128 ≤ x := by simp at hc2; omega
        rw [if_pos h128] at hr
        refine AW.go ?_ (by simp only [go_sem, ↓reduceIte, ei] <;> rfl)
        refine AW.again hK (i + 1, v + x % 128 * 128 ^ i) ⟨hlt, by simp only; omega, by simp only; omega, hr, ?_⟩ (by simp only; omega)
        simp only
        rw [hp]
        have h1 : x % 128 * 128 ^ i ≤ 127 * 128 ^ i := Nat.mul_le_mul_right _ (by omega)
        omega
  · have hge : ¬ i < b.length := by simpa using hc
    rw [List.drop_eq_nil_of_le (by omega), rdv] at hr
    refine AW.go ?_
    refine AW.finE (.pv _ (.pv _ (.pv _ .nil))) ?_
    rw [← hr]; rfl
end Go.Ck

set_option linter.unusedVariables false
set_option maxRecDepth 10000
namespace Go.Ck
open Go.Proofs

theorem refVarint_fn (b : List Nat) (hl : b.length ≤ room) (hb : ∀ x ∈ b, x < 256) : Fn Try.prog 58 [] [.pv (.sl 1 (bytes b))] (fun rs H' => rs = [.pv (.int .u64 ((readV b).1 : Nat)), .pv (.sl 1 (bytes (b.drop (readV b).2.1))), .pv (.int .i64 (readV b).2.2)] ∧ H' = []) := by
  refine Fn.of_body (fn := Try.f58) (n := 19) (res := [.tmp 2, .tmp 3, .tmp 4]) (by kernel_rfl) rfl rfl rfl rfl rfl (fun C => ?_)
  have hr : room < 2 ^ 63 := by decide
  have hle := readV_le b
  refine AW.go ?_
  refine AW.callE (fun _ => 0) (refRead_fn b hl hb) (.pv _ .nil) ?_
  refine AW.go ?_
  have e : (((b.length : Int) - ((readV b).2.1 : Nat)).toNat) = b.length - (readV b).2.1 := by omega
  have e2 : (bytes (b.drop (readV b).2.1)).take (b.length - (readV b).2.1) = bytes (b.drop (readV b).2.1) := List.take_of_length_le (by simp [bytes])
  refine AW.sr mixed (by decide +kernel) ?_ (by simp only [go_sem, ↓reduceIte, hle, e]; rw [← bytes_take, e2] <;> rfl)
  refine AW.go ?_
  refine AW.finE (.pv _ (.pv _ (.pv _ .nil))) rfl

theorem refBytes_fn (b : List Nat) (n : Nat) (hn : n < 2 ^ 63) (hl : b.length ≤ room) : Fn Try.prog 93 [] [.pv (.sl 1 (bytes b)), .pv (.int .i64 n)]
    (fun rs H' => rs = [.own 5 (bytes (if n ≤ b.length then b.take n else [])), .pv (.sl 1 (bytes (if n ≤ b.length then b.drop n else b))), .pv (.int .i64 (if n ≤ b.length then 0 else 2))] ∧ H' = []) := by
  refine Fn.of_body (fn := Try.f93) (n := 23) (res := [.tmp 4, .tmp 5, .tmp 6]) (by kernel_rfl) rfl rfl rfl rfl rfl (fun C => ?_)
  refine AW.go ?_
  refine AW.condF rfl ?_
  refine AW.go ?_
  refine AW.cond rfl (fun hc => ?_) (fun hc => ?_)
  · have hle : ¬ n ≤ b.length := by simp at hc; omega
    simp only [if_neg hle]
    refine AW.go ?_
    refine AW.finE (.move rfl (.pv _ (.pv _ .nil))) rfl
  · have hle : n ≤ b.length := by simp at hc; omega
    simp only [if_pos hle]
    refine AW.go ?_
    have e : (((b.length : Int) - (n : Nat)).toNat) = b.length - n := by omega
    have e2 : (bytes (b.drop n)).take (b.length - n) = bytes (b.drop n) := List.take_of_length_le (by simp [bytes])
    refine AW.ts [1, 2, 3, 5, 6, 7] [0, 4, 8, 9, 10] mixed (by decide +kernel) ?_ (by simp only [go_sem, ↓reduceIte, hle, e]; rw [← bytes_take, e2] <;> rfl)
    have h3 : (b.take n).length ≤ room := by simp; omega
    refine AW.go ?_ (by simp only [go_sem, ↓reduceIte, h3, Nat.zero_add, List.nil_append] <;> rfl)
    refine AW.finE (.move rfl (.pv _ (.pv _ .nil))) rfl

theorem refFixed_fn (l : List Nat) (n : Nat) (hn : n ≤ 8) (hl : l.length ≤ room) (hb : ∀ x ∈ l, x < 256) : Fn Try.prog 79 [] [.pv (.sl 1 (bytes l)), .pv (.int .i64 n)]
    (fun rs H' => rs = [.pv (.int .u64 ((if n ≤ l.length then beN (l.take n) else 0) : Nat)), .pv (.sl 1 (bytes (if n ≤ l.length then l.drop n else l))), .pv (.int .i64 (if n ≤ l.length then 0 else 2))] ∧ H' = []) := by
  refine Fn.of_body (fn := Try.f79) (n := 43) (res := [.tmp 4, .tmp 5, .tmp 6]) (by kernel_rfl) rfl rfl rfl rfl rfl (fun C => ?_)
  refine AW.gg ?_
  refine AW.condF (by simp only [go_sem, ↓reduceIte]; congr 3; simp; omega) ?_
  refine AW.go ?_
  refine AW.callE (fun _ => 0) (refBytes_fn l n (by omega) hl) (.pv _ (.pv _ .nil)) ?_
  have e0 : (if n ≤ l.length then beN (l.take n) else 0) = beN (if n ≤ l.length then l.take n else []) := by split <;> rfl
  rw [e0]
  have hxl : (if n ≤ l.length then l.take n else []).length ≤ 8 := by split <;> simp <;> omega
  have hxb : ∀ x ∈ (if n ≤ l.length then l.take n else []), x < 256 := by
    split
    · exact fun x hx => hb x (List.mem_of_mem_take hx)
    · simp
  generalize (if n ≤ l.length then l.take n else []) = xs at *
  generalize (if n ≤ l.length then 0 else 2 : Int) = er
  generalize (if n ≤ l.length then l.drop n else l) = lr
  refine AW.go ?_
  refine AW.loopS (fun i : Nat => ⟨43, [(11, .pv (.int .i64 i)), (10, .pv (.int .u64 (beN (xs.take i) : Nat))), (7, .own 5 (bytes xs)), (8, .pv (.sl 1 (bytes lr))), (9, .pv (.int .i64 er))], []⟩) (fun i => i ≤ xs.length) (fun i => xs.length - i) [11, 10, 7, 8, 9] [] 0 (Nat.zero_le _) ?_
  rintro i hi K hK
  refine AW.go ?_
  refine AW.cond rfl (fun hc => ?_) (fun hc => ?_)
  · have hlt : i < xs.length := by simpa using hc
    have hget := bytes_get hlt
    have hx := hxb _ (List.getElem_mem hlt)
    have hti : xs.take (i + 1) = xs.take i ++ [xs[i]] := by simp
    have hbl := beN_lt (xs.take i) (fun x hx => hxb x (List.mem_of_mem_take hx))
    have hp : 256 ^ (xs.take i).length ≤ 256 ^ 7 := Nat.pow_le_pow_right (by omega) (by simp; omega)
    have eu : IntKind.u64.wrap ((xs[i] : Nat) : Int) = (xs[i] : Nat) := wrap_u64_lt (by omega)
    have ei : IntKind.i64.wrap ((i : Int) + 1) = ((i + 1 : Nat) : Int) := wrap_i64_succ (by omega)
    have em : IntKind.u64.wrap (((beN (xs.take i) : Nat) : Int) * 256) = ((beN (xs.take i) * 256 : Nat) : Int) := wrap_u64_lt (n := beN (xs.take i) * 256) (by omega)
    have ea : IntKind.u64.wrap (((beN (xs.take i) * 256 : Nat) : Int) + (xs[i] : Nat)) = ((beN (xs.take (i + 1)) : Nat) : Int) := by
      rw [hti, beN_snoc]
      exact wrap_u64_lt (n := beN (xs.take i) * 256 + xs[i]) (by omega)
    refine AW.go ?_ (by simp only [go_sem, ↓reduceIte, hget, hlt, eu, em, ea, ei] <;> rfl)
    refine AW.again hK (i + 1) hlt (by omega)
  · have hge : ¬ i < xs.length := by simpa using hc
    rw [List.take_of_length_le (by omega)]
    refine AW.go ?_
    refine AW.finE (.pv _ (.pv _ (.pv _ .nil))) rfl
end Go.Ck

set_option linter.unusedVariables false
/-! Bits. -/
namespace Go.Ck
/-- How many bits a number needs. -/
def blen (v : Nat) : Nat := if v = 0 then 0 else blen (v / 2) + 1
termination_by v
decreasing_by omega
theorem blen_zero : blen 0 = 0 := by rw [blen]; simp
theorem blen_pos {v : Nat} (h : v ≠ 0) : blen v = blen (v / 2) + 1 := by rw [blen, if_neg h]
theorem blen_le {v n : Nat} : blen v ≤ n ↔ v < 2 ^ n := by
  induction n generalizing v with
  | zero =>
    by_cases h : v = 0
    · subst h; simp [blen_zero]
    · rw [blen_pos h]; simp; omega
  | succ n ih =>
    by_cases h : v = 0
    · subst h; simp [blen_zero, Nat.two_pow_pos]
    · rw [blen_pos h, Nat.add_le_add_iff_right, ih, Nat.div_lt_iff_lt_mul (by omega), Nat.pow_succ]
theorem blen_lt {v : Nat} : v < 2 ^ blen v := blen_le.1 (Nat.le_refl _)
theorem blen_shift (k : Nat) : ∀ {v : Nat}, 2 ^ k ≤ v → blen v = k + blen (v / 2 ^ k) := by
  induction k with
  | zero => intro v _; simp
  | succ k ih =>
    intro v h
    have hp : 2 ^ (k + 1) = 2 ^ k * 2 := Nat.pow_succ ..
    have hpos := Nat.two_pow_pos k
    rw [blen_pos (by omega), ih (v := v / 2) (by omega), Nat.div_div_eq_div_mul, hp, Nat.mul_comm 2]
    omega
/-- Zeros below the first one. -/
def tzn (v : Nat) : Nat := if v = 0 ∨ v % 2 = 1 then 0 else tzn (v / 2) + 1
termination_by v
decreasing_by omega
theorem tzn_odd {v : Nat} (h : v % 2 = 1) : tzn v = 0 := by rw [tzn, if_pos (.inr h)]
theorem tzn_even {v : Nat} (h0 : v ≠ 0) (h : v % 2 = 0) : tzn v = tzn (v / 2) + 1 := by rw [tzn, if_neg (by omega)]
theorem tzn_lt {n : Nat} : ∀ {v : Nat}, v ≠ 0 → v < 2 ^ n → tzn v < n := by
  induction n with
  | zero => intro v h0 h; simp at h; omega
  | succ n ih =>
    intro v h0 h
    by_cases ho : v % 2 = 1
    · rw [tzn_odd ho]; omega
    · rw [tzn_even h0 (by omega)]
      have := ih (v := v / 2) (by omega) (by rw [Nat.pow_succ] at h; omega)
      omega
theorem land_two (a b c d : Nat) (hb : b < 2) (hd : d < 2) : (2 * a + b) &&& (2 * c + d) = 2 * (a &&& c) + (b &&& d) := by
  have h1 : ((2 * a + b) &&& (2 * c + d)) / 2 = a &&& c := by
    rw [Nat.and_div_two, show (2 * a + b) / 2 = a by omega, show (2 * c + d) / 2 = c by omega]
  have h2 : ((2 * a + b) &&& (2 * c + d)) % 2 = b &&& d := by
    have : ((2 * a + b) &&& (2 * c + d)) % 2 ^ 1 = ((2 * a + b) % 2 ^ 1) &&& ((2 * c + d) % 2 ^ 1) := by rw [Nat.and_mod_two_pow]
    simp only [Nat.pow_one] at this
    rw [this, show (2 * a + b) % 2 = b by omega, show (2 * c + d) % 2 = d by omega]
  omega
theorem land_compl {m a : Nat} (h : a < 2 ^ m) : a &&& (2 ^ m - (a + 1)) = 0 := by
  apply Nat.eq_of_testBit_eq
  intro i
  rw [Nat.testBit_and, Nat.testBit_two_pow_sub_succ h]
  simp
  intro h1 h2
  exact h1
theorem land_neg {n : Nat} : ∀ {v : Nat}, v ≠ 0 → v < 2 ^ n → v &&& (2 ^ n - v) = 2 ^ tzn v := by
  induction n with
  | zero => intro v h0 h; simp at h; omega
  | succ n ih =>
    intro v h0 h
    have hp : 2 ^ (n + 1) = 2 ^ n * 2 := Nat.pow_succ ..
    by_cases ho : v % 2 = 1
    · rw [tzn_odd ho]
      have e1 : v = 2 * (v / 2) + 1 := by omega
      have e2 : 2 ^ (n + 1) - v = 2 * (2 ^ n - (v / 2 + 1)) + 1 := by omega
      rw [e2]
      conv => lhs; lhs; rw [e1]
      rw [land_two _ _ _ _ (by omega) (by omega), land_compl (by omega)]
      rfl
    · rw [tzn_even h0 (by omega)]
      have e1 : v = 2 * (v / 2) + 0 := by omega
      have e2 : 2 ^ (n + 1) - v = 2 * (2 ^ n - v / 2) + 0 := by omega
      rw [e2]
      conv => lhs; lhs; rw [e1]
      rw [land_two _ _ _ _ (by omega) (by omega), ih (by omega) (by omega), Nat.pow_succ]
      simp [Nat.mul_comm]

/-- A number in n bits, the first the greatest. -/
def binB (v : Nat) : Nat → List Nat
  | 0 => []
  | n + 1 => (v / 2 ^ n % 2) :: binB v n
theorem binB_len (v n : Nat) : (binB v n).length = n := by induction n with | zero => rfl | succ n ih => simp [binB, ih]
def binN (l : List Nat) : Nat := l.foldl (fun a x => a * 2 + x) 0
theorem binN_snoc (l : List Nat) (x : Nat) : binN (l ++ [x]) = binN l * 2 + x := by simp [binN]
theorem binN_lt (l : List Nat) (h : ∀ x ∈ l, x < 2) : binN l < 2 ^ l.length := by
  have : ∀ (n : Nat) (l : List Nat), l.length = n → (∀ x ∈ l, x < 2) → binN l < 2 ^ n := by
    intro n
    induction n with
    | zero => intro l hl _; rw [List.length_eq_zero_iff.1 hl]; simp [binN]
    | succ n ih =>
      intro l hl h
      have hne : l ≠ [] := by rintro rfl; simp at hl
      rw [← List.dropLast_concat_getLast hne, binN_snoc]
      have h1 := ih l.dropLast (by simp; omega) (fun x hx => h x (List.dropLast_subset l hx))
      have h2 := h _ (List.getLast_mem hne)
      rw [Nat.pow_succ]
      omega
  exact this _ l rfl h
theorem binB_bit (v n : Nat) : ∀ x ∈ binB v n, x < 2 := by
  induction n with
  | zero => simp [binB]
  | succ n ih => intro x hx; rcases List.mem_cons.1 hx with rfl | hx
                 · omega
                 · exact ih x hx
/-- One more bit among bytes that hold i of them; the bits of the last byte stand to the left. -/
def pkStep (a : List Nat × Nat) (b : Nat) : List Nat × Nat := (if a.2 % 8 = 0 then a.1 ++ [b * 128] else a.1.set (a.2 / 8) (a.1.getD (a.2 / 8) 0 + b * 2 ^ (7 - a.2 % 8)), a.2 + 1)
def pk (l : List Nat) : List Nat := (l.foldl pkStep ([], 0)).1
theorem pk_snd (l : List Nat) (a : List Nat × Nat) : (l.foldl pkStep a).2 = a.2 + l.length := by
  induction l generalizing a with
  | nil => simp
  | cons x r ih => rw [List.foldl_cons, ih]; simp [pkStep]; omega
theorem pk_snoc (l : List Nat) (b : Nat) : pk (l ++ [b]) = if l.length % 8 = 0 then pk l ++ [b * 128] else (pk l).set (l.length / 8) ((pk l).getD (l.length / 8) 0 + b * 2 ^ (7 - l.length % 8)) := by
  have h := pk_snd l ([], 0)
  simp only [Nat.zero_add] at h
  unfold pk
  rw [List.foldl_append, List.foldl_cons, List.foldl_nil, pkStep, h]
theorem pk_len (l : List Nat) : (pk l).length = (l.length + 7) / 8 := by
  have : ∀ n (l : List Nat), l.length = n → (pk l).length = (n + 7) / 8 := by
    intro n
    induction n with
    | zero => intro l h; rw [List.length_eq_zero_iff.1 h]; rfl
    | succ n ih =>
      intro l hl
      have hne : l ≠ [] := by rintro rfl; simp at hl
      have hd : l.dropLast.length = n := by simp; omega
      rw [← List.dropLast_concat_getLast hne, pk_snoc, hd]
      have := ih l.dropLast hd
      split
      · rw [List.length_append, this]; simp; omega
      · rw [List.length_set, this]; omega
  exact this _ l rfl
/-- Ditto; the bits of the last byte stand to the right. -/
def prStep (a : List Nat × Nat) (b : Nat) : List Nat × Nat := (if a.2 % 8 = 0 then a.1 ++ [b] else a.1.set (a.2 / 8) (a.1.getD (a.2 / 8) 0 * 2 + b), a.2 + 1)
def pr (l : List Nat) : List Nat := (l.foldl prStep ([], 0)).1
theorem pr_snd (l : List Nat) (a : List Nat × Nat) : (l.foldl prStep a).2 = a.2 + l.length := by
  induction l generalizing a with
  | nil => simp
  | cons x r ih => rw [List.foldl_cons, ih]; simp [prStep]; omega
theorem pr_snoc (l : List Nat) (b : Nat) : pr (l ++ [b]) = if l.length % 8 = 0 then pr l ++ [b] else (pr l).set (l.length / 8) ((pr l).getD (l.length / 8) 0 * 2 + b) := by
  have h := pr_snd l ([], 0)
  simp only [Nat.zero_add] at h
  unfold pr
  rw [List.foldl_append, List.foldl_cons, List.foldl_nil, prStep, h]
theorem snoc_ind {p : List Nat → Prop} (h0 : p []) (h1 : ∀ l b, p l → p (l ++ [b])) (l : List Nat) : p l := by
  have : ∀ n (l : List Nat), l.length = n → p l := by
    intro n
    induction n with
    | zero => intro l h; rw [List.length_eq_zero_iff.1 h]; exact h0
    | succ n ih =>
      intro l hl
      have hne : l ≠ [] := by rintro rfl; simp at hl
      rw [← List.dropLast_concat_getLast hne]
      exact h1 _ _ (ih l.dropLast (by simp; omega))
  exact this _ l rfl
theorem pr_len (l : List Nat) : (pr l).length = (l.length + 7) / 8 := by
  induction l using snoc_ind with
  | h0 => rfl
  | h1 l b ih => rw [pr_snoc]; split
                 · rw [List.length_append, ih]; simp; omega
                 · rw [List.length_set, ih]; simp; omega
/-- The two of them. -/
theorem pr_pk (l : List Nat) : ∀ j, (pk l).getD j 0 = if j = l.length / 8 then (pr l).getD j 0 * 2 ^ ((8 - l.length % 8) % 8) else (pr l).getD j 0 := by
  induction l using snoc_ind with
  | h0 => intro j; simp [pk, pr]
  | h1 l b ih =>
    intro j
    have hk := pk_len l
    have hr := pr_len l
    rw [pk_snoc, pr_snoc, List.length_append, List.length_singleton]
    by_cases h8 : l.length % 8 = 0
    · rw [if_pos h8, if_pos h8]
      simp only [List.getD_eq_getElem?_getD, List.getElem?_append]
      have e : (l.length + 1) / 8 = l.length / 8 := by omega
      have e2 : (8 - (l.length + 1) % 8) % 8 = 7 := by omega
      rw [e, e2]
      have hih := ih j
      simp only [List.getD_eq_getElem?_getD] at hih
      by_cases hj : j < (pk l).length
      · rw [if_pos hj, if_neg (show ¬ j = l.length / 8 by omega), if_pos (show j < (pr l).length by omega), hih, if_neg (show ¬ j = l.length / 8 by omega)]
      · rw [if_neg hj, if_neg (show ¬ j < (pr l).length by omega)]
        by_cases hj2 : j = l.length / 8
        · rw [if_pos hj2]
          have : j - (pk l).length = 0 := by omega
          have h2 : j - (pr l).length = 0 := by omega
          rw [this, h2]
          simp
        · rw [if_neg hj2]
          have : j - (pk l).length = j - (pk l).length - 1 + 1 := by omega
          have h2 : j - (pr l).length = j - (pr l).length - 1 + 1 := by omega
          rw [this, h2]
          simp
    · rw [if_neg h8, if_neg h8]
      simp only [List.getD_eq_getElem?_getD, List.getElem?_set]
      have hlt : l.length / 8 < (pk l).length := by omega
      have hlt2 : l.length / 8 < (pr l).length := by omega
      have hih := ih j
      have hih2 := ih (l.length / 8)
      simp only [List.getD_eq_getElem?_getD, if_true] at hih hih2
      by_cases hj : l.length / 8 = j
      · subst hj
        simp only [if_true, hlt, hlt2, Option.getD_some]
        rw [hih2]
        generalize ((pr l)[l.length / 8]?).getD 0 = y
        have hc : l.length % 8 = 1 ∨ l.length % 8 = 2 ∨ l.length % 8 = 3 ∨ l.length % 8 = 4 ∨ l.length % 8 = 5 ∨ l.length % 8 = 6 ∨ l.length % 8 = 7 := by omega
        rcases hc with h | h | h | h | h | h | h
        all_goals
          first
            | (rw [if_pos (by omega), h, show (l.length + 1) % 8 = l.length % 8 + 1 by omega, h]; simp only [Nat.reduceSub, Nat.reduceMod, Nat.reducePow, Nat.reduceAdd]; omega)
            | (rw [if_neg (by omega), h]; simp only [Nat.reduceSub, Nat.reduceMod, Nat.reducePow]; omega)
      · rw [if_neg hj, if_neg hj, hih]
        rw [if_neg (fun h => hj h.symm)]
        by_cases hj2 : j = (l.length + 1) / 8
        · rw [if_pos hj2]
          have h9 : (l.length + 1) % 8 = 0 := by omega
          rw [h9]; simp
        · rw [if_neg hj2]
end Go.Ck
namespace Go.Ck
def bl8 (n : Nat) : Nat := if n < 1 then 0 else if n < 2 then 1 else if n < 4 then 2 else if n < 8 then 3 else if n < 16 then 4 else if n < 32 then 5 else if n < 64 then 6 else if n < 128 then 7 else 8
theorem blen_bl8 {n : Nat} (h : n < 256) : blen n = bl8 n := by
  have h0 := blen_le (v := n) (n := 0)
  have h1 := blen_le (v := n) (n := 1)
  have h2 := blen_le (v := n) (n := 2)
  have h3 := blen_le (v := n) (n := 3)
  have h4 := blen_le (v := n) (n := 4)
  have h5 := blen_le (v := n) (n := 5)
  have h6 := blen_le (v := n) (n := 6)
  have h7 := blen_le (v := n) (n := 7)
  have h8 := blen_le (v := n) (n := 8)
  simp only [Nat.reducePow] at h0 h1 h2 h3 h4 h5 h6 h7 h8
  unfold bl8
  repeat' split
  all_goals omega
theorem bl8_le (n : Nat) : bl8 n ≤ 8 := by
  unfold bl8
  repeat' split
  all_goals omega
end Go.Ck
namespace Go.Ck
theorem pr_lt (l : List Nat) (h : ∀ x ∈ l, x < 2) : (∀ j, (pr l).getD j 0 < 256) ∧ (pr l).getD (l.length / 8) 0 < 2 ^ (l.length % 8) := by
  induction l using snoc_ind with
  | h0 => simp [pr]
  | h1 l b ih =>
    obtain ⟨i1, i2⟩ := ih (fun x hx => h x (by simp [hx]))
    have hb : b < 2 := h b (by simp)
    have hr := pr_len l
    have hk : l.length % 8 < 8 := Nat.mod_lt _ (by omega)
    rw [pr_snoc, List.length_append, List.length_singleton]
    by_cases h8 : l.length % 8 = 0
    · rw [if_pos h8]
      have hj : ∀ j, (pr l ++ [b]).getD j 0 < 256 ∧ (j = l.length / 8 → (pr l ++ [b]).getD j 0 < 2) := by
        intro j
        have := i1 j
        simp only [List.getD_eq_getElem?_getD, List.getElem?_append] at this ⊢
        split
        · exact ⟨this, fun he => by omega⟩
        · rcases Nat.eq_zero_or_pos (j - (pr l).length) with h0 | h0
          · rw [h0]; simp; omega
          · rw [show j - (pr l).length = j - (pr l).length - 1 + 1 by omega]; simp
      refine ⟨fun j => (hj j).1, ?_⟩
      rw [show (l.length + 1) % 8 = 1 by omega, show (l.length + 1) / 8 = l.length / 8 by omega]
      exact (hj _).2 rfl
    · rw [if_neg h8]
      have hlt : l.length / 8 < (pr l).length := by omega
      have hp : 2 ^ (l.length % 8 + 1) = 2 ^ (l.length % 8) * 2 := Nat.pow_succ ..
      have hp8 : 2 ^ (l.length % 8 + 1) ≤ 2 ^ 8 := Nat.pow_le_pow_right (by omega) (by omega)
      have hj : ∀ j, ((pr l).set (l.length / 8) ((pr l).getD (l.length / 8) 0 * 2 + b)).getD j 0 = if j = l.length / 8 then (pr l).getD (l.length / 8) 0 * 2 + b else (pr l).getD j 0 := by
        intro j
        simp only [List.getD_eq_getElem?_getD, List.getElem?_set]
        by_cases hj : l.length / 8 = j
        · rw [if_pos hj, if_pos hj.symm, if_pos hlt]; rfl
        · rw [if_neg hj, if_neg (fun h => hj h.symm)]
      refine ⟨fun j => ?_, ?_⟩
      · rw [hj]
        split
        · omega
        · exact i1 j
      · rw [hj]
        by_cases h7 : l.length % 8 = 7
        · rw [show (l.length + 1) % 8 = 0 by omega, if_neg (by omega)]
          have : (pr l).length ≤ (l.length + 1) / 8 := by omega
          rw [List.getD_eq_getElem?_getD, List.getElem?_eq_none this]; simp
        · rw [show (l.length + 1) % 8 = l.length % 8 + 1 by omega, if_pos (by omega)]
          omega
/-- A byte more, where one begins. -/
def pkA (l : List Nat) : List Nat := if l.length % 8 = 0 then pk l ++ [0] else pk l
theorem pkA_spec (l : List Nat) (b : Nat) (h : ∀ x ∈ l, x < 2) (hb : b < 2) : l.length / 8 < (pkA l).length ∧ (pkA l).length ≤ l.length / 8 + 1 ∧ (pkA l).getD (l.length / 8) 0 < 256 ∧
    pk (l ++ [b]) = (pkA l).set (l.length / 8) ((pkA l).getD (l.length / 8) 0 + b * 2 ^ (7 - l.length % 8)) ∧
    (pkA l).getD (l.length / 8) 0 ||| b * 2 ^ (7 - l.length % 8) = (pkA l).getD (l.length / 8) 0 + b * 2 ^ (7 - l.length % 8) := by
  have hk := pk_len l
  have h2 := (pr_lt l h).2
  have hp := pr_pk l (l.length / 8)
  rw [if_pos rfl] at hp
  unfold pkA
  rw [pk_snoc]
  by_cases h8 : l.length % 8 = 0
  · simp only [if_pos h8]
    have e : l.length / 8 = (pk l).length := by omega
    rw [e, h8]
    refine ⟨by simp, by simp, by simp, by simp, by simp⟩
  · simp only [if_neg h8]
    rw [show (8 - l.length % 8) % 8 = 8 - l.length % 8 by omega] at hp
    refine ⟨by omega, by omega, ?_, trivial, ?_⟩
    · rw [hp]
      have hq : 2 ^ (l.length % 8) * 2 ^ (8 - l.length % 8) = 2 ^ 8 := by rw [← Nat.pow_add]; congr 1; omega
      have := Nat.mul_lt_mul_of_pos_right h2 (Nat.two_pow_pos (8 - l.length % 8))
      omega
    · rw [hp]
      have hlt : b * 2 ^ (7 - l.length % 8) < 2 ^ (8 - l.length % 8) := by
        have : 2 ^ (8 - l.length % 8) = 2 ^ (7 - l.length % 8) * 2 := by rw [← Nat.pow_succ]; congr 1; omega
        have := Nat.two_pow_pos (7 - l.length % 8)
        have : b * 2 ^ (7 - l.length % 8) ≤ 1 * 2 ^ (7 - l.length % 8) := Nat.mul_le_mul_right _ (by omega)
        omega
      have := Nat.two_pow_add_eq_or_of_lt hlt ((pr l).getD (l.length / 8) 0)
      rw [Nat.mul_comm, ← this]
theorem and_one {x : Nat} (h : x < 2 ^ 64) : ibits .and .u64 (x : Int) 1 = ((x % 2 : Nat) : Int) := by
  have := ibits_and64 h (b := 1) (by omega)
  rw [Nat.and_one_is_mod] at this
  exact this
theorem binB_succ (v n : Nat) : binB v (n + 1) = (v / 2 ^ n % 2) :: binB v n := rfl
end Go.Ck
namespace Go.Ck
theorem binB_get (v : Nat) : ∀ (n i : Nat), i < n → (binB v n)[i]? = some (v / 2 ^ (n - 1 - i) % 2)
  | 0, i, h => by omega
  | n + 1, 0, h => by simp [binB]
  | n + 1, i + 1, h => by
    rw [binB, List.getElem?_cons_succ, binB_get v n i (by omega)]
    congr 4; omega
/-- The bits of bytes. -/
def unb (l : List Nat) : List Nat := l.flatMap fun x => binB x 8
theorem unb_nil : unb [] = [] := rfl
theorem unb_cons (x : Nat) (l : List Nat) : unb (x :: l) = binB x 8 ++ unb l := by simp [unb]
theorem unb_append (l r : List Nat) : unb (l ++ r) = unb l ++ unb r := by simp [unb]
theorem unb_len (l : List Nat) : (unb l).length = 8 * l.length := by
  induction l with
  | nil => rfl
  | cons x r ih => rw [unb_cons, List.length_append, ih, binB_len]; simp; omega
theorem unb_get : ∀ (l : List Nat) (k : Nat) (h : k / 8 < l.length), (unb l)[k]? = some (l[k / 8] / 2 ^ (7 - k % 8) % 2)
  | [], k, h => by simp at h
  | x :: r, k, h => by
    rw [unb_cons]
    by_cases hk : k < 8
    · rw [List.getElem?_append_left (by rw [binB_len]; exact hk), binB_get x 8 k hk]
      have : k / 8 = 0 := by omega
      simp only [this, List.getElem_cons_zero]
      rw [show 8 - 1 - k = 7 - k % 8 by omega]
    · rw [List.getElem?_append_right (by rw [binB_len]; omega), binB_len]
      have h2 : (k - 8) / 8 < r.length := by simp at h; omega
      rw [unb_get r (k - 8) h2]
      have : k / 8 = (k - 8) / 8 + 1 := by omega
      simp only [this, List.getElem_cons_succ]
      rw [show (k - 8) % 8 = k % 8 by omega]
theorem unb_bit (l : List Nat) : ∀ x ∈ unb l, x < 2 := by
  intro x hx
  simp only [unb, List.mem_flatMap] at hx
  obtain ⟨y, _, hx⟩ := hx
  exact binB_bit y 8 x hx
/-- So many bits from a place on, as a number. -/
def getB (l : List Nat) (k n : Nat) : Nat := binN ((l.drop k).take n)
end Go.Ck
namespace Go.Ck
theorem getD_get {l : List Nat} {i : Nat} (h : i < l.length) : l[i] = l.getD i 0 := by rw [List.getD_eq_getElem?_getD, List.getElem?_eq_getElem h]; rfl
theorem ext_getD {l r : List Nat} (hl : l.length = r.length) (h : ∀ j, l.getD j 0 = r.getD j 0) : l = r := by
  apply List.ext_getElem hl
  intro i h1 h2
  rw [getD_get h1, getD_get h2, h]
theorem getD_set (l : List Nat) (i j v : Nat) : (l.set i v).getD j 0 = if i = j ∧ i < l.length then v else l.getD j 0 := by
  simp only [List.getD_eq_getElem?_getD, List.getElem?_set]
  by_cases h : i = j
  · subst h
    by_cases h2 : i < l.length
    · simp [h2]
    · simp [h2]
  · simp [h]
def prA (l : List Nat) : List Nat := if l.length % 8 = 0 then pr l ++ [0] else pr l
theorem prA_spec (l : List Nat) (b : Nat) (h : ∀ x ∈ l, x < 2) (hb : b < 2) : l.length / 8 < (prA l).length ∧ (prA l).length ≤ l.length / 8 + 1 ∧ (prA l).getD (l.length / 8) 0 * 2 + b < 256 ∧
    pr (l ++ [b]) = (prA l).set (l.length / 8) ((prA l).getD (l.length / 8) 0 * 2 + b) := by
  have hk := pr_len l
  have h2 := (pr_lt l h).2
  unfold prA
  rw [pr_snoc]
  by_cases h8 : l.length % 8 = 0
  · simp only [if_pos h8]
    have e : l.length / 8 = (pr l).length := by omega
    rw [e]
    refine ⟨by simp, by simp, by simp; omega, by simp⟩
  · simp only [if_neg h8]
    have hp8 : 2 ^ (l.length % 8) ≤ 2 ^ 7 := Nat.pow_le_pow_right (by omega) (by omega)
    refine ⟨by omega, by omega, by omega, trivial⟩
theorem pk_of_pr (l : List Nat) : pk l = (pr l).set (l.length / 8) ((pr l).getD (l.length / 8) 0 * 2 ^ ((8 - l.length % 8) % 8)) := by
  have hk := pr_len l
  have hk2 := pk_len l
  refine ext_getD (by rw [List.length_set]; omega) (fun j => ?_)
  rw [pr_pk, getD_set]
  by_cases hj : j = l.length / 8
  · subst hj
    rw [if_pos rfl]
    by_cases h8 : l.length / 8 < (pr l).length
    · rw [if_pos ⟨rfl, h8⟩]
    · rw [if_neg (fun h => h8 h.2), List.getD_eq_getElem?_getD, List.getElem?_eq_none (by omega)]; simp
  · rw [if_neg hj, if_neg (fun h => hj h.1.symm)]
end Go.Ck
namespace Go.Ck
theorem setSame (l : List Nat) (i : Nat) : l.set i (l.getD i 0) = l := by
  refine ext_getD (by simp) (fun j => ?_)
  rw [getD_set]
  split
  · rename_i h; rw [h.1]
  · rfl
end Go.Ck

set_option linter.unusedVariables false
set_option maxRecDepth 10000
namespace Go.Ck
open Go.Proofs

theorem fin_all {p : Nat → Prop} {u : Nat} (n : Nat) (h : ∀ i : Fin n, p i.val) (hu : u < n) : p u := h ⟨u, hu⟩
theorem wrong_fn (n : Nat) (hn : n ≤ 64) : Fn Try.prog 86 [] [.pv (.int .i64 n)] (fun rs H' => rs = [.pv (.bool false)] ∧ H' = []) := by
  refine Fn.of_body (fn := Try.f86) (n := 9) (res := [.tmp 2]) (by kernel_rfl) rfl rfl rfl rfl rfl (fun C => ?_)
  refine AW.gg ?_
  refine AW.finE (.pv _ .nil) ?_
  congr 3
  simp; omega

/-- What Len64's string tells. -/
theorem len64_fn (v : Nat) (hv : v < 2 ^ 64) : Fn Try.prog 95 [] [.pv (.int .u64 v)] (fun rs H' => rs = [.pv (.int .i64 (blen v : Nat))] ∧ H' = []) := by
  refine Fn.of_body (fn := Try.f95) (n := 25) (res := [.tmp 2]) (by kernel_rfl) rfl rfl rfl rfl rfl (fun C => ?_)
  have s32 : ∀ v : Nat, shrI .u64 (v : Int) 32 = ((v / 2 ^ 32 : Nat) : Int) := fun v => shrI_nat .u64 v 32 (by decide)
  have s16 : ∀ v : Nat, shrI .u64 (v : Int) 16 = ((v / 2 ^ 16 : Nat) : Int) := fun v => shrI_nat .u64 v 16 (by decide)
  have s8 : ∀ v : Nat, shrI .u64 (v : Int) 8 = ((v / 2 ^ 8 : Nat) : Int) := fun v => shrI_nat .u64 v 8 (by decide)
  refine AW.go ?_
  refine AW.joinS (fun a : Nat × Nat => ⟨25, [(0, .pv (.int .u64 a.1)), (2, .pv (.int .i64 a.2))], []⟩) (fun a => a.1 < 2 ^ 32 ∧ blen v = a.2 + blen a.1 ∧ a.2 ≤ 32) [0, 2] [] ?_ ?_
  · intro K hK
    refine AW.cond rfl (fun hc => ?_) (fun hc => ?_)
    · refine AW.go ?_
      refine AW.meet hK (v / 2 ^ 32, 32) ⟨by simp only; omega, ?_, by simp⟩ (by simp only [go_sem, ↓reduceIte]) (by simp only [go_sem, ↓reduceIte, s32] <;> rfl)
      exact blen_shift 32 (by simp at hc; omega)
    · refine AW.go ?_
      refine AW.meet hK (v, 0) ⟨by simp at hc; simp only; omega, by simp, by simp⟩
  rintro ⟨u, m⟩ ⟨hu, hm, hm2⟩
  simp only at hu hm hm2
  refine AW.go ?_
  refine AW.joinS (fun a : Nat × Nat => ⟨25, [(0, .pv (.int .u64 a.1)), (2, .pv (.int .i64 a.2))], []⟩) (fun a => a.1 < 2 ^ 16 ∧ blen v = a.2 + blen a.1 ∧ a.2 ≤ 48) [0, 2] [] ?_ ?_
  · intro K hK
    refine AW.cond rfl (fun hc => ?_) (fun hc => ?_)
    · have e : IntKind.i64.wrap ((m : Int) + 16) = ((m + 16 : Nat) : Int) := by rw [wrap_i64_of (by omega) (by omega)]; omega
      refine AW.go ?_
      refine AW.meet hK (u / 2 ^ 16, m + 16) ⟨by simp only; omega, ?_, by simp only; omega⟩ (by simp only [go_sem, ↓reduceIte]) (by simp only [go_sem, ↓reduceIte, s16, e] <;> rfl)
      have := blen_shift 16 (v := u) (by simp at hc; omega)
      simp only; omega
    · refine AW.go ?_
      refine AW.meet hK (u, m) ⟨by simp at hc; simp only; omega, hm, by simp only; omega⟩
  clear hu hm hm2
  rintro ⟨u, m⟩ ⟨hu, hm, hm2⟩
  simp only at hu hm hm2
  refine AW.go ?_
  refine AW.joinS (fun a : Nat × Nat => ⟨25, [(0, .pv (.int .u64 a.1)), (2, .pv (.int .i64 a.2))], []⟩) (fun a => a.1 < 2 ^ 8 ∧ blen v = a.2 + blen a.1 ∧ a.2 ≤ 56) [0, 2] [] ?_ ?_
  · intro K hK
    refine AW.cond rfl (fun hc => ?_) (fun hc => ?_)
    · have e : IntKind.i64.wrap ((m : Int) + 8) = ((m + 8 : Nat) : Int) := by rw [wrap_i64_of (by omega) (by omega)]; omega
      refine AW.go ?_
      refine AW.meet hK (u / 2 ^ 8, m + 8) ⟨by simp only; omega, ?_, by simp only; omega⟩ (by simp only [go_sem, ↓reduceIte]) (by simp only [go_sem, ↓reduceIte, s8, e] <;> rfl)
      have := blen_shift 8 (v := u) (by simp at hc; omega)
      simp only; omega
    · refine AW.go ?_
      refine AW.meet hK (u, m) ⟨by simp at hc; simp only; omega, hm, by simp only; omega⟩
  clear hu hm hm2
  rintro ⟨u, m⟩ ⟨hu, hm, hm2⟩
  simp only at hu hm hm2
  have e8 : IntKind.u8.wrap (u : Int) = (u : Int) := wrap_u8_lt hu
  refine AW.go ?_ (by simp only [go_sem, ↓reduceIte, e8] <;> rfl)
  refine AW.indexStr (UInt8.ofNat (bl8 u)) (ho := rfl) rfl rfl ?_ ?_
  · clear e8 hm
    revert u
    decide +kernel
  · have h8 := bl8_le u
    have ec : ((UInt8.ofNat (bl8 u)).toNat : Int) = (blen u : Nat) := by
      rw [UInt8.toNat_ofNat', Nat.mod_eq_of_lt (by omega), blen_bl8 hu]
    have hb8 := blen_le.2 hu
    have e1 : IntKind.i64.wrap ((blen u : Nat) : Int) = (blen u : Nat) := wrap_i64_nat (by omega)
    have e2 : IntKind.i64.wrap ((m : Int) + (blen u : Nat)) = ((blen v : Nat) : Int) := by rw [hm]; exact wrap_i64_nat (n := m + blen u) (by omega)
    refine AW.go ?_ (by simp only [go_sem, ↓reduceIte, ec, e1, e2] <;> rfl)
    refine AW.finE (.pv _ .nil) rfl
end Go.Ck

set_option linter.unusedVariables false
set_option maxRecDepth 10000
namespace Go.Ck
open Go.Proofs

theorem debr : ∀ t : Nat, t < 64 → debruijn[2 ^ t * 285870213051353865 % 2 ^ 64 / 2 ^ 58]? = some t := by decide +kernel
theorem width_fn (v : Nat) (hv : v < 2 ^ 64) : Fn Try.prog 85 [] [.pv (.int .u64 v)] (fun rs H' => rs = [.pv (.int .i64 (blen v : Nat))] ∧ H' = []) := by
  refine Fn.of_body (fn := Try.f85) (n := 5) (res := [.tmp 2]) (by kernel_rfl) rfl rfl rfl rfl rfl (fun C => ?_)
  refine AW.go ?_
  refine AW.callE (fun _ => 0) (len64_fn v hv) (.pv _ .nil) ?_
  refine AW.go ?_
  refine AW.finE (.pv _ .nil) rfl

theorem tz_spec {v : Nat} (h0 : v ≠ 0) (hv : v < 2 ^ 64) : ∃ p j : Nat, ibits .and .u64 (v : Int) (IntKind.u64.wrap (0 - (v : Int))) = (p : Int) ∧ shrI .u64 (IntKind.u64.wrap ((p : Int) * 285870213051353865)) 58 = (j : Int) ∧ j < 64 ∧ debruijn[j]? = some (tzn v) := by
  refine ⟨2 ^ tzn v, 2 ^ tzn v * 285870213051353865 % 2 ^ 64 / 2 ^ 58, ?_, ?_, by omega, debr _ (tzn_lt h0 hv)⟩
  · have : IntKind.u64.wrap (0 - (v : Int)) = ((2 ^ 64 - v : Nat) : Int) := by rw [IntKind.wrap_u64]; omega
    rw [this, ibits_and64 hv (by omega), land_neg h0 hv]
  · generalize 2 ^ tzn v = p
    have h1 : (p : Int) * 285870213051353865 = ((p * 285870213051353865 : Nat) : Int) := by omega
    rw [h1, wrap_u64]
    exact shrI_nat .u64 _ 58 (by decide)
end Go.Ck

set_option linter.unusedVariables false
set_option maxRecDepth 10000
namespace Go.Ck
open Go.Proofs

abbrev wrO (bs : List Nat) : List (Nat × HO) := [(1000, .cells 80 [.own 5 (bytes (pk bs)), .pv (.int .i64 bs.length)])]
attribute [go_sem] wrO

theorem wrBytes_fn (bs : List Nat) (hl : bs.length ≤ room) : Fn Try.prog 65 (wrO bs) [.ptr 1000 0] (fun rs H' => rs = [.own 5 (bytes (pk bs))] ∧ H' = wrO bs) := by
  refine Fn.of_body (fn := Try.f65) (n := 10) (res := [.tmp 2]) (by kernel_rfl) rfl rfl rfl rfl rfl (fun C => ?_)
  have hk := pk_len bs
  refine AW.go ?_
  refine AW.condF rfl ?_
  refine AW.go ?_
  refine AW.callE (fun _ => 0) (clone_bytes (pk bs) (by omega)) (.lend rfl co_5 .nil) ?_
  refine AW.go ?_
  refine AW.finE (.move rfl .nil) rfl

theorem wrPut_fn (bs : List Nat) (v n : Nat) (hb : ∀ x ∈ bs, x < 2) (hn : n ≤ 64) (hv : v < 2 ^ n) (hl : bs.length + n ≤ room) : Fn Try.prog 64 (wrO bs) [.ptr 1000 0, .pv (.int .u64 v), .pv (.int .i64 n)]
    (fun rs H' => rs = [.pv (.int .i64 0)] ∧ H' = wrO (bs ++ binB v n)) := by
  refine Fn.of_body (fn := Try.f64) (n := 77) (res := [.tmp 6]) (by kernel_rfl) rfl rfl rfl rfl rfl (fun C => ?_)
  have hr : room < 2 ^ 62 := by decide
  have hv64 : v < 2 ^ 64 := Nat.lt_of_lt_of_le hv (Nat.pow_le_pow_right (by omega) hn)
  have hbl := blen_le.2 hv
  refine AW.gg ?_
  refine AW.guardT rfl rfl ?_
  refine AW.callE (fun _ => 0) (wrong_fn n hn) (.pv _ .nil) ?_
  refine AW.gg ?_
  refine AW.guardT rfl rfl ?_
  refine AW.callE (fun _ => 0) (width_fn v hv64) (.pv _ .nil) ?_
  refine AW.gg ?_
  refine AW.condF (by simp only [go_sem, ↓reduceIte]; congr 3; simp; omega) ?_
  refine AW.go ?_
  refine AW.loopS (fun a : List Nat × Nat => ⟨77, [(22, .pv (.int .i64 a.2)), (21, .pv (.int .i64 n)), (0, .ptr 1000 0), (1, .pv (.int .u64 v)), (2, .pv (.int .i64 n))], wrO a.1⟩) (fun a => a.1 ++ binB v (n - a.2) = bs ++ binB v n ∧ a.2 ≤ n ∧ ∀ x ∈ a.1, x < 2) (fun a => n - a.2) [22, 21, 0, 1, 2] [1000] (bs, 0) ⟨rfl, Nat.zero_le _, hb⟩ ?_
  rintro ⟨o, i⟩ ⟨ho, hi, hob⟩ K hK
  simp only at ho hi hob
  have hol : o.length + (n - i) = bs.length + n := by have := congrArg List.length ho; simpa [binB_len] using this
  refine AW.go ?_
  refine AW.cond rfl (fun hc => ?_) (fun hc => ?_)
  · have hlt : i < n := by simpa using hc
    have hok := pk_len o
    have hsuc : n - i = (n - 1 - i) + 1 := by omega
    rw [hsuc, binB_succ] at ho
    obtain ⟨a1, a2, a3, a4, a5⟩ := pkA_spec o (v / 2 ^ (n - 1 - i) % 2) hob (by omega)
    have hbit : v / 2 ^ (n - 1 - i) % 2 < 2 := by omega
    generalize hbd : v / 2 ^ (n - 1 - i) % 2 = b at *
    have hm8 : Int.tmod ((o.length : Nat) : Int) 8 = ((o.length % 8 : Nat) : Int) := rfl
    refine AW.go ?_ (by simp only [go_sem, ↓reduceIte, hm8] <;> rfl)
    refine AW.joinS (fun _ : Unit => ⟨77, [(22, .pv (.int .i64 i)), (21, .pv (.int .i64 n)), (0, .ptr 1000 0), (1, .pv (.int .u64 v)), (2, .pv (.int .i64 n)), (7, .pv (.int .i64 i))], [(1000, .cells 80 [.own 5 (bytes (pkA o)), .pv (.int .i64 o.length)])]⟩) (fun _ => True) [22, 21, 0, 1, 2, 7] [1000] ?_ ?_
    · intro K hK
      refine AW.cond rfl (fun hc2 => ?_) (fun hc2 => ?_)
      · have h8 : o.length % 8 = 0 := by simp at hc2; omega
        have hle : (pk o).length + 1 ≤ room := by omega
        have b00 : [PV.int .u8 0] = bytes [0] := rfl
        refine AW.go ?_ (by simp only [go_sem, ↓reduceIte, hle] <;> rfl)
        refine AW.meet hK () trivial (by simp only [go_sem, ↓reduceIte]) (by simp only [go_sem, ↓reduceIte, pkA, h8, b00] <;> rfl)
      · have h8 : ¬ o.length % 8 = 0 := by simp at hc2; omega
        refine AW.go ?_
        refine AW.meet hK () trivial (by simp only [go_sem, ↓reduceIte]) (by simp only [go_sem, ↓reduceIte, pkA, h8] <;> rfl)
    rintro _ -
    have e1 : IntKind.i64.wrap (IntKind.i64.wrap ((n : Int) - 1) - (i : Int)) = ((n - 1 - i : Nat) : Int) := by
      rw [wrap_i64_of (n := (n : Int) - 1) (by omega) (by omega), wrap_i64_of (by omega) (by omega)]; omega
    have e2 : IntKind.u8.wrap (ibits .and .u64 (shrI .u64 (v : Int) ((n - 1 - i : Nat) : Int)) 1) = ((b : Nat) : Int) := by
      rw [shrI_nat .u64 v _ (by show n - 1 - i ≤ 64; omega), and_one (Nat.lt_of_le_of_lt (Nat.div_le_self _ _) hv64), hbd, wrap_u8_lt (by omega)]
    refine AW.go ?_ (by simp only [go_sem, ↓reduceIte, e1, e2] <;> rfl)
    have hget := bytes_get a1
    have hgD : (pkA o)[o.length / 8] = (pkA o).getD (o.length / 8) 0 := by rw [List.getD_eq_getElem?_getD, List.getElem?_eq_getElem a1]; rfl
    rw [hgD] at hget
    have d8 : IntKind.i64.wrap (Int.tdiv ((o.length : Nat) : Int) 8) = ((o.length / 8 : Nat) : Int) := by
      rw [show Int.tdiv ((o.length : Nat) : Int) 8 = ((o.length / 8 : Nat) : Int) from rfl]; exact wrap_i64_nat (by omega)
    have e7 : IntKind.i64.wrap (7 - ((o.length % 8 : Nat) : Int)) = ((7 - o.length % 8 : Nat) : Int) := by
      rw [wrap_i64_of (by omega) (by omega)]; omega
    have hp7 : 2 ^ (7 - o.length % 8) ≤ 2 ^ 7 := Nat.pow_le_pow_right (by omega) (by omega)
    have hbp : b * 2 ^ (7 - o.length % 8) ≤ 1 * 2 ^ (7 - o.length % 8) := Nat.mul_le_mul_right _ (by omega)
    have es : shlI .u8 ((b : Nat) : Int) ((7 - o.length % 8 : Nat) : Int) = ((b * 2 ^ (7 - o.length % 8) : Nat) : Int) := by
      rw [shlI_nat8 _ _ (by omega), Nat.mod_eq_of_lt (by omega)]
    have eo : ibits .or .u8 (((pkA o).getD (o.length / 8) 0 : Nat) : Int) ((b * 2 ^ (7 - o.length % 8) : Nat) : Int) = (((pkA o).getD (o.length / 8) 0 + b * 2 ^ (7 - o.length % 8) : Nat) : Int) := by
      rw [ibits_or8 (by omega) (by omega), a5]
    refine AW.srTail 20 mixed (by decide +kernel) ?_ (by simp only [go_sem, ↓reduceIte, hget, a1, hm8, d8, e7, es, eo] <;> rfl)
    have el : IntKind.i64.wrap (((o.length : Nat) : Int) + 1) = ((o.length + 1 : Nat) : Int) := wrap_i64_succ (by omega)
    have ei : IntKind.i64.wrap ((i : Int) + 1) = ((i + 1 : Nat) : Int) := wrap_i64_succ (by omega)
    refine AW.go ?_ (by simp only [go_sem, ↓reduceIte, hget, a1, d8, bytes_set, el, ei, ← a4] <;> rfl)
    refine AW.again hK (o ++ [b], i + 1) ⟨?_, hlt, ?_⟩ (by simp only; omega) (by simp only [go_sem, ↓reduceIte]) (by simp only [go_sem, ↓reduceIte, List.length_append, List.length_singleton] <;> rfl)
    · simp only
      rw [← ho, show n - (i + 1) = n - 1 - i by omega]; simp
    · intro x hx
      simp only [List.mem_append, List.mem_singleton] at hx
      rcases hx with hx | rfl
      · exact hob x hx
      · exact hbit
  · have hge : n - i = 0 := by simp at hc; omega
    rw [hge] at ho
    simp only [binB, List.append_nil] at ho
    refine AW.go ?_
    rw [ho]
    refine AW.finE (.pv _ .nil) rfl
end Go.Ck

set_option linter.unusedVariables false
set_option maxRecDepth 10000
namespace Go.Ck
open Go.Proofs

abbrev rdO (l : List Nat) (k : Nat) : List (Nat × HO) := [(1000, .cells 112 [.pv (.sl 1 (bytes l)), .pv (.int .i64 k)])]
attribute [go_sem] rdO

theorem rdNew_fn (l : List Nat) (hl : l.length ≤ room) : Fn Try.prog 88 [] [.pv (.sl 1 (bytes l))] (fun rs H' => rs = [.ptr 6 0] ∧ H' = [(6, .cells 112 [.pv (.sl 1 (bytes l)), .pv (.int .i64 0)])]) := by
  refine Fn.of_body (fn := Try.f88) (n := 7) (res := [.tmp 2]) (by kernel_rfl) rfl rfl rfl rfl rfl (fun C => ?_)
  refine AW.go ?_
  refine AW.callE (fun _ => 0) (clone_bytes l hl) (.pv _ .nil) ?_
  refine AW.go ?_
  refine AW.finE (.ptr rfl .nil) rfl

theorem rdLeft_fn (l : List Nat) (k : Nat) (hk : k ≤ 8 * l.length) (hl : 8 * l.length ≤ room) : Fn Try.prog 96 (rdO l k) [.ptr 1000 0] (fun rs H' => rs = [.pv (.int .i64 ((8 * l.length - k : Nat) : Int))] ∧ H' = rdO l k) := by
  refine Fn.of_body (fn := Try.f96) (n := 16) (res := [.tmp 2]) (by kernel_rfl) rfl rfl rfl rfl rfl (fun C => ?_)
  have hr : room < 2 ^ 62 := by decide
  refine AW.go ?_
  refine AW.condF rfl ?_
  refine AW.go ?_
  have e : IntKind.i64.wrap (IntKind.i64.wrap ((l.length : Int) * 8) - (k : Int)) = ((8 * l.length - k : Nat) : Int) := by
    rw [wrap_i64_of (n := (l.length : Int) * 8) (by omega) (by omega), wrap_i64_of (by omega) (by omega)]; omega
  refine AW.sr mixed (by decide +kernel) ?_ (by simp only [go_sem, ↓reduceIte, e] <;> rfl)
  refine AW.go ?_
  refine AW.finE (.pv _ .nil) rfl

theorem rdGet_fn (l : List Nat) (k n : Nat) (hn : n ≤ 64) (hk : k ≤ 8 * l.length) (hl : 8 * l.length ≤ room) (hb : ∀ x ∈ l, x < 256) : Fn Try.prog 89 (rdO l k) [.ptr 1000 0, .pv (.int .i64 n)]
    (fun rs H' => rs = [.pv (.int .u64 ((if k + n ≤ 8 * l.length then getB (unb l) k n else 0 : Nat) : Int)), .pv (.int .i64 (if k + n ≤ 8 * l.length then 0 else 2))] ∧ H' = rdO l (if k + n ≤ 8 * l.length then k + n else k)) := by
  refine Fn.of_body (fn := Try.f89) (n := 56) (res := [.tmp 4, .tmp 5]) (by kernel_rfl) rfl rfl rfl rfl rfl (fun C => ?_)
  have hr : room < 2 ^ 62 := by decide
  refine AW.gg ?_
  refine AW.guardT rfl rfl ?_
  refine AW.callE (fun _ => 0) (wrong_fn n hn) (.pv _ .nil) ?_
  refine AW.gg ?_
  refine AW.condF rfl ?_
  refine AW.go ?_
  refine AW.callE id (rdLeft_fn l k hk hl) (.ptr rfl .nil) ?_
  refine AW.go ?_
  refine AW.cond rfl (fun hc => ?_) (fun hc => ?_)
  · have hle : ¬ k + n ≤ 8 * l.length := by simp at hc; omega
    simp only [if_neg hle]
    refine AW.go ?_
    refine AW.finE (.pv _ (.pv _ .nil)) rfl
  have hle : k + n ≤ 8 * l.length := by simp at hc; omega
  simp only [if_pos hle]
  refine AW.go ?_
  refine AW.loopS (fun i : Nat => ⟨56, [(21, .pv (.int .i64 i)), (20, .pv (.int .i64 n)), (6, .pv (.int .u64 (getB (unb l) k i : Nat))), (0, .ptr 1000 0)], rdO l (k + i)⟩) (fun i => i ≤ n) (fun i => n - i) [21, 20, 6, 0] [1000] 0 (Nat.zero_le _) ?_
  rintro i hi K hK
  refine AW.go ?_
  refine AW.cond rfl (fun hc2 => ?_) (fun hc2 => ?_)
  · have hlt : i < n := by simpa using hc2
    refine AW.go ?_
    have a1 : (k + i) / 8 < l.length := by omega
    have hget := bytes_get a1
    have hx := hb _ (List.getElem_mem a1)
    have hu := unb_get l (k + i) a1
    generalize l[(k + i) / 8] = x at *
    have hm8 : Int.tmod ((k + i : Nat) : Int) 8 = (((k + i) % 8 : Nat) : Int) := rfl
    have d8 : IntKind.i64.wrap (Int.tdiv ((k + i : Nat) : Int) 8) = (((k + i) / 8 : Nat) : Int) := by
      rw [show Int.tdiv ((k + i : Nat) : Int) 8 = (((k + i) / 8 : Nat) : Int) from rfl]; exact wrap_i64_nat (by omega)
    have e7 : IntKind.i64.wrap (7 - (((k + i) % 8 : Nat) : Int)) = ((7 - (k + i) % 8 : Nat) : Int) := by
      rw [wrap_i64_of (by omega) (by omega)]; omega
    have es : shrI .u8 ((x : Nat) : Int) ((7 - (k + i) % 8 : Nat) : Int) = ((x / 2 ^ (7 - (k + i) % 8) : Nat) : Int) := shrI_nat .u8 x _ (by show 7 - (k + i) % 8 ≤ 8; omega)
    have ea : ibits .and .u8 ((x / 2 ^ (7 - (k + i) % 8) : Nat) : Int) 1 = ((x / 2 ^ (7 - (k + i) % 8) % 2 : Nat) : Int) := by
      have := ibits_and8 (a := x / 2 ^ (7 - (k + i) % 8)) (b := 1) (Nat.lt_of_le_of_lt (Nat.div_le_self _ _) hx) (by omega)
      rw [Nat.and_one_is_mod] at this
      exact this
    have hb2 : x / 2 ^ (7 - (k + i) % 8) % 2 < 2 := by omega
    refine AW.sr mixed (by decide +kernel) ?_ (by simp only [go_sem, ↓reduceIte, hget, a1, hm8, d8, e7, es, ea] <;> rfl)
    generalize x / 2 ^ (7 - (k + i) % 8) % 2 = b at *
    have hsn : getB (unb l) k (i + 1) = getB (unb l) k i * 2 + b := by
      unfold getB
      rw [← binN_snoc]
      congr 1
      have h1 : ((unb l).drop k)[i]? = some b := by rw [List.getElem?_drop]; exact hu
      rw [List.take_add_one, h1]; rfl
    have hlt2 : getB (unb l) k i < 2 ^ 63 := by
      have := binN_lt (((unb l).drop k).take i) (fun y hy => unb_bit l y (List.mem_of_mem_drop (List.mem_of_mem_take hy)))
      have h2 : 2 ^ (((unb l).drop k).take i).length ≤ 2 ^ 63 := Nat.pow_le_pow_right (by omega) (by simp; omega)
      unfold getB
      omega
    have es1 : shlI .u64 ((getB (unb l) k i : Nat) : Int) 1 = ((getB (unb l) k i * 2 : Nat) : Int) := by
      have := shlI_nat64 (getB (unb l) k i) 1 (by omega)
      rw [Nat.pow_one, Nat.mod_eq_of_lt (by omega)] at this
      exact this
    have eub : IntKind.u64.wrap ((b : Nat) : Int) = (b : Nat) := wrap_u64_lt (by omega)
    have eor : ibits .or .u64 ((getB (unb l) k i * 2 : Nat) : Int) ((b : Nat) : Int) = ((getB (unb l) k (i + 1) : Nat) : Int) := by
      rw [ibits_or64 (by omega) (by omega), hsn]
      have := Nat.two_pow_add_eq_or_of_lt (i := 1) (b := b) (by omega) (getB (unb l) k i)
      rw [Nat.pow_one] at this
      rw [Nat.mul_comm _ 2, ← this]
    have el : IntKind.i64.wrap (((k + i : Nat) : Int) + 1) = ((k + (i + 1) : Nat) : Int) := wrap_i64_succ (n := k + i) (by omega)
    have ei : IntKind.i64.wrap ((i : Int) + 1) = ((i + 1 : Nat) : Int) := wrap_i64_succ (by omega)
    refine AW.go ?_ (by simp only [go_sem, ↓reduceIte, es1, eub, eor, el, ei] <;> rfl)
    refine AW.again hK (i + 1) hlt (by omega)
  · have hge : i = n := by simp at hc2; omega
    subst hge
    refine AW.go ?_
    refine AW.finE (.pv _ (.pv _ .nil)) rfl
end Go.Ck

set_option linter.unusedVariables false
set_option maxRecDepth 10000
namespace Go.Ck
open Go.Proofs

theorem refWidth_fn (v : Nat) (hv : v < 2 ^ 64) : Fn Try.prog 69 [] [.pv (.int .u64 v)] (fun rs H' => rs = [.pv (.int .i64 (blen v : Nat))] ∧ H' = []) := by
  refine Fn.of_body (fn := Try.f69) (n := 11) (res := [.tmp 2]) (by kernel_rfl) rfl rfl rfl rfl rfl (fun C => ?_)
  have h64 := blen_le.2 hv
  refine AW.go ?_
  refine AW.loopS (fun a : Nat × Nat => ⟨11, [(0, .pv (.int .u64 a.1)), (3, .pv (.int .i64 a.2))], []⟩) (fun a => a.2 + blen a.1 = blen v) (fun a => a.1) [0, 3] [] (v, 0) (by simp) ?_
  rintro ⟨u, m⟩ h K hK
  simp only at h
  refine AW.go ?_
  refine AW.cond rfl (fun hc => ?_) (fun hc => ?_)
  · have h0 : u ≠ 0 := by simp at hc; omega
    rw [blen_pos h0] at h
    have e2 : Int.tdiv (u : Int) 2 = ((u / 2 : Nat) : Int) := rfl
    have hu : u < 2 ^ 64 ∨ ¬ u < 2 ^ 64 := by omega
    have e3 : IntKind.i64.wrap ((m : Int) + 1) = ((m + 1 : Nat) : Int) := wrap_i64_succ (by omega)
    have e4 : IntKind.u64.wrap ((u / 2 : Nat) : Int) = ((u / 2 : Nat) : Int) := by
      have := blen_le (v := u / 2) (n := 64)
      exact wrap_u64_lt (this.1 (by omega))
    refine AW.go ?_ (by simp only [go_sem, ↓reduceIte, e2, e3, e4] <;> rfl)
    refine AW.again hK (u / 2, m + 1) (by simp only; omega) (by simp only; omega)
  · have h0 : u = 0 := by simp at hc; omega
    subst h0
    rw [blen_zero, Nat.add_zero] at h
    subst h
    refine AW.go ?_
    refine AW.finE (.pv _ .nil) rfl

theorem refGet_fn (bs : List Nat) (n : Nat) (hn : n ≤ 64) (hb : ∀ x ∈ bs, x < 2) : Fn Try.prog 82 [] [.pv (.sl 1 (nis bs)), .pv (.int .i64 n)]
    (fun rs H' => rs = [.pv (.int .u64 ((if n ≤ bs.length then binN (bs.take n) else 0 : Nat) : Int)), .pv (.sl 1 (nis (if n ≤ bs.length then bs.drop n else bs))), .pv (.int .i64 (if n ≤ bs.length then 0 else 2))] ∧ H' = []) := by
  refine Fn.of_body (fn := Try.f82) (n := 38) (res := [.tmp 4, .tmp 5, .tmp 6]) (by kernel_rfl) rfl rfl rfl rfl rfl (fun C => ?_)
  have hg : decide ((n : Int) > 64) = false := by simp; omega
  refine AW.gg ?_ (by simp only [go_sem, ↓reduceIte, hg] <;> rfl)
  refine AW.condF rfl ?_
  refine AW.go ?_
  refine AW.cond rfl (fun hc => ?_) (fun hc => ?_)
  · have hle : ¬ n ≤ bs.length := by simp at hc; omega
    simp only [if_neg hle]
    refine AW.go ?_
    refine AW.finE (.pv _ (.pv _ (.pv _ .nil))) rfl
  have hle : n ≤ bs.length := by simp at hc; omega
  simp only [if_pos hle]
  refine AW.go ?_
  refine AW.loopS (fun i : Nat => ⟨38, [(8, .pv (.int .i64 i)), (7, .pv (.int .u64 (binN (bs.take i) : Nat))), (0, .pv (.sl 1 (nis bs))), (1, .pv (.int .i64 n))], []⟩) (fun i => i ≤ n) (fun i => n - i) [8, 7, 0, 1] [] 0 (Nat.zero_le _) ?_
  rintro i hi K hK
  refine AW.go ?_
  refine AW.cond rfl (fun hc2 => ?_) (fun hc2 => ?_)
  · have hlt : i < n := by simpa using hc2
    have a1 : i < bs.length := by omega
    have hget := nis_get a1
    have hx := hb _ (List.getElem_mem a1)
    have hti : bs.take (i + 1) = bs.take i ++ [bs[i]] := by simp
    generalize bs[i] = x at *
    have hbl := binN_lt (bs.take i) (fun x hx => hb x (List.mem_of_mem_take hx))
    have hp : 2 ^ (bs.take i).length ≤ 2 ^ 63 := Nat.pow_le_pow_right (by omega) (by simp; omega)
    have eu : IntKind.u64.wrap ((x : Nat) : Int) = (x : Nat) := wrap_u64_lt (by omega)
    have ei : IntKind.i64.wrap ((i : Int) + 1) = ((i + 1 : Nat) : Int) := wrap_i64_succ (by omega)
    have em : IntKind.u64.wrap (((binN (bs.take i) : Nat) : Int) * 2) = ((binN (bs.take i) * 2 : Nat) : Int) := wrap_u64_lt (n := binN (bs.take i) * 2) (by omega)
    have ea : IntKind.u64.wrap (((binN (bs.take i) * 2 : Nat) : Int) + (x : Nat)) = ((binN (bs.take (i + 1)) : Nat) : Int) := by
      rw [hti, binN_snoc]
      exact wrap_u64_lt (n := binN (bs.take i) * 2 + x) (by omega)
    refine AW.go ?_ (by simp only [go_sem, ↓reduceIte, hget, eu, em, ea, ei] <;> rfl)
    refine AW.again hK (i + 1) hlt (by omega)
  · have hge : i = n := by simp at hc2; omega
    subst hge
    refine AW.go ?_
    have e : (((bs.length : Int) - (i : Nat)).toNat) = bs.length - i := by omega
    have e2 : (nis (bs.drop i)).take (bs.length - i) = nis (bs.drop i) := List.take_of_length_le (by simp [nis])
    refine AW.sr mixed (by decide +kernel) ?_ (by simp only [go_sem, ↓reduceIte, hle, e]; rw [← nis_take, e2] <;> rfl)
    refine AW.go ?_
    refine AW.finE (.pv _ (.pv _ (.pv _ .nil))) rfl
end Go.Ck

set_option linter.unusedVariables false
set_option maxRecDepth 10000
namespace Go.Ck
open Go.Proofs

theorem refOf_fn (l : List Nat) (hl : l.length * 64 ≤ room) (hb : ∀ x ∈ l, x < 256) : Fn Try.prog 81 [] [.pv (.sl 1 (bytes l))] (fun rs H' => rs = [.own 3 (nis (unb l))] ∧ H' = []) := by
  refine Fn.of_body (fn := Try.f81) (n := 29) (res := [.tmp 2]) (by kernel_rfl) rfl rfl rfl rfl rfl (fun C => ?_)
  have hr : room < 2 ^ 62 := by decide
  refine AW.go ?_
  refine AW.loopS (fun i : Nat => ⟨29, [(4, .pv (.int .i64 i)), (3, .own 3 (nis (unb (l.take i)))), (0, .pv (.sl 1 (bytes l)))], []⟩) (fun i => i ≤ l.length) (fun i => l.length - i) [4, 3, 0] [] 0 (Nat.zero_le _) ?_
  rintro i hi K hK
  refine AW.go ?_
  refine AW.cond rfl (fun hc => ?_) (fun hc => ?_)
  · have hlt : i < l.length := by simpa using hc
    have hx := hb _ (List.getElem_mem hlt)
    have hget := bytes_get hlt
    have hti : l.take (i + 1) = l.take i ++ [l[i]] := by simp
    have hul := unb_len (l.take i)
    have htl : (l.take i).length = i := by simp; omega
    generalize l[i] = x at *
    have hun : unb (l.take (i + 1)) = unb (l.take i) ++ binB x 8 := by rw [hti, unb_append, unb_cons, unb_nil, List.append_nil]
    refine AW.go ?_
    refine AW.loopS (fun a : List Nat × Nat => ⟨29, [(4, .pv (.int .i64 i)), (3, .own 3 (nis a.1)), (0, .pv (.sl 1 (bytes l))), (5, .pv (.int .i64 ((a.2 : Int) - 1)))], []⟩) (fun a => a.1 ++ binB x a.2 = unb (l.take (i + 1)) ∧ a.2 ≤ 8) (fun a => a.2) [4, 3, 0, 5] [] (unb (l.take i), 8) ⟨hun.symm, by omega⟩ ?_
    rintro ⟨o, j⟩ ⟨ho, hj⟩ K' hK'
    simp only at ho hj
    have hol : o.length + j = 8 * (i + 1) := by
      have := congrArg List.length ho
      rw [List.length_append, binB_len, unb_len, List.length_take] at this
      omega
    refine AW.go ?_
    refine AW.cond rfl (fun hc2 => ?_) (fun hc2 => ?_)
    · cases j with
      | zero => simp at hc2
      | succ j =>
        have e0 : (((j + 1 : Nat) : Int) - 1) = (j : Nat) := by omega
        have e2 : IntKind.u64.wrap ((j : Nat) : Int) = (j : Nat) := wrap_u64_lt (by omega)
        have e4 : IntKind.i64.wrap ((j : Int) - 1) = (j : Int) - 1 := wrap_i64_of (by omega) (by omega)
        have e3 : IntKind.i64.wrap (ibits .and .u8 (shrI .u8 (x : Int) (j : Nat)) 1) = ((x / 2 ^ j % 2 : Nat) : Int) := by
          rw [shrI_nat .u8 x _ (by show j ≤ 8; omega)]
          have := ibits_and8 (a := x / 2 ^ j) (b := 1) (Nat.lt_of_le_of_lt (Nat.div_le_self _ _) hx) (by omega)
          rw [Nat.and_one_is_mod] at this
          rw [show (1 : Int) = ((1 : Nat) : Int) from rfl, this, wrap_i64_nat (by omega)]
        have h1 : (o.length + 1) * 8 ≤ room := by omega
        have h2 : o.length + 1 ≤ room := by omega
        refine AW.go ?_ (by simp only [go_sem, ↓reduceIte, hget, e0, e2, e3, e4, nis_one, h1, h2] <;> rfl)
        refine AW.again hK' (o ++ [x / 2 ^ j % 2], j) ⟨?_, by simp only; omega⟩ (by simp only; omega)
        rw [← ho, binB_succ]; simp
    · cases j with
      | zero =>
        simp only [binB, List.append_nil] at ho
        rw [ho]
        have ei : IntKind.i64.wrap ((i : Int) + 1) = ((i + 1 : Nat) : Int) := wrap_i64_succ (by omega)
        refine AW.go ?_ (by simp only [go_sem, ↓reduceIte, ei] <;> rfl)
        refine AW.again hK (i + 1) hlt (by omega)
      | succ j => exact absurd hc2 (by simp)
  · have hge : ¬ i < l.length := by simpa using hc
    rw [List.take_of_length_le (by omega)]
    refine AW.go ?_
    refine AW.finE (.move rfl .nil) rfl

theorem refBits_fn (l : List Nat) (hl : l.length ≤ room) (hb : ∀ x ∈ l, x < 2) : Fn Try.prog 70 [] [.pv (.sl 1 (nis l))] (fun rs H' => rs = [.own 5 (bytes (pk l))] ∧ H' = []) := by
  refine Fn.of_body (fn := Try.f70) (n := 54) (res := [.tmp 2]) (by kernel_rfl) rfl rfl rfl rfl rfl (fun C => ?_)
  have hr : room < 2 ^ 62 := by decide
  have d8 : ∀ n : Nat, n ≤ room → IntKind.i64.wrap (Int.tdiv (n : Int) 8) = ((n / 8 : Nat) : Int) := fun n hn => by
    rw [show Int.tdiv ((n : Nat) : Int) 8 = ((n / 8 : Nat) : Int) from rfl]; exact wrap_i64_nat (by omega)
  have hm8 : ∀ n : Nat, Int.tmod (n : Int) 8 = ((n % 8 : Nat) : Int) := fun n => rfl
  have b00 : [PV.int .u8 0] = bytes [0] := rfl
  refine AW.go ?_
  refine AW.loopS (fun i : Nat => ⟨54, [(4, .pv (.int .i64 i)), (3, .own 5 (bytes (pr (l.take i)))), (0, .pv (.sl 1 (nis l)))], []⟩) (fun i => i ≤ l.length) (fun i => l.length - i) [4, 3, 0] [] 0 (Nat.zero_le _) ?_
  rintro i hi K hK
  refine AW.go ?_
  refine AW.cond rfl (fun hc => ?_) (fun hc => ?_)
  · have hlt : i < l.length := by simpa using hc
    have hx := hb _ (List.getElem_mem hlt)
    have hgl := nis_get hlt
    have hti : l.take (i + 1) = l.take i ++ [l[i]] := by simp
    have htl : (l.take i).length = i := by simp; omega
    have hpl := pr_len (l.take i)
    generalize l[i] = b at *
    have hsp := prA_spec (l.take i) b (fun x hx => hb x (List.mem_of_mem_take hx)) hx
    rw [htl, ← hti] at hsp
    obtain ⟨a1, a2, a3, a4⟩ := hsp
    have hA : prA (l.take i) = if i % 8 = 0 then pr (l.take i) ++ [0] else pr (l.take i) := by unfold prA; rw [htl]
    refine AW.go ?_ (by simp only [go_sem, ↓reduceIte, hm8] <;> rfl)
    refine AW.joinS (fun _ : Unit => ⟨54, [(4, .pv (.int .i64 i)), (3, .own 5 (bytes (prA (l.take i)))), (0, .pv (.sl 1 (nis l)))], []⟩) (fun _ => True) [4, 3, 0] [] ?_ ?_
    · intro K hK
      refine AW.cond rfl (fun hc2 => ?_) (fun hc2 => ?_)
      · have h8 : i % 8 = 0 := by simp at hc2; omega
        have hle : (pr (l.take i)).length + 1 ≤ room := by omega
        refine AW.go ?_ (by simp only [go_sem, ↓reduceIte, hle] <;> rfl)
        refine AW.meet hK () trivial (by simp only [go_sem, ↓reduceIte]) (by simp only [go_sem, ↓reduceIte, hA, h8, b00] <;> rfl)
      · have h8 : ¬ i % 8 = 0 := by simp at hc2; omega
        refine AW.go ?_
        refine AW.meet hK () trivial (by simp only [go_sem, ↓reduceIte]) (by simp only [go_sem, ↓reduceIte, hA, h8] <;> rfl)
    rintro _ -
    have hget := bytes_get a1
    rw [getD_get] at hget
    generalize hy : (prA (l.take i)).getD (i / 8) 0 = y at *
    have hd := d8 i (by omega)
    have e1 : IntKind.u8.wrap (((y : Nat) : Int) * 2) = ((y * 2 : Nat) : Int) := wrap_u8_lt (n := y * 2) (by omega)
    have e2 : IntKind.u8.wrap ((b : Nat) : Int) = (b : Nat) := wrap_u8_lt (by omega)
    have e3 : IntKind.u8.wrap (((y * 2 : Nat) : Int) + (b : Nat)) = ((y * 2 + b : Nat) : Int) := wrap_u8_lt (n := y * 2 + b) (by omega)
    have ei : IntKind.i64.wrap ((i : Int) + 1) = ((i + 1 : Nat) : Int) := wrap_i64_succ (by omega)
    refine AW.go ?_
    refine AW.srTail 15 mixed (by decide +kernel) ?_ (by simp only [go_sem, ↓reduceIte, hget, hgl, a1, hd, e1, e2, e3] <;> rfl)
    refine AW.go ?_ (by simp only [go_sem, ↓reduceIte, hget, a1, hd, bytes_set, ei, ← a4] <;> rfl)
    refine AW.again hK (i + 1) hlt (by omega)
  · have hge : ¬ i < l.length := by simpa using hc
    rw [List.take_of_length_le (by omega)]
    have hpl := pr_len l
    have hp2 := pr_lt l hb
    have hkp := pk_of_pr l
    refine AW.go ?_
    refine AW.loopS (fun m : Nat => ⟨54, [(5, .pv (.int .i64 m)), (3, .own 5 (bytes ((pr l).set (l.length / 8) ((pr l).getD (l.length / 8) 0 * 2 ^ (m - l.length)))))], []⟩) (fun m => l.length ≤ m ∧ m ≤ l.length + (8 - l.length % 8) % 8) (fun m => l.length + 8 - m) [5, 3] [] l.length ⟨Nat.le_refl _, by omega⟩ ?_ (by simp only [go_sem, ↓reduceIte]) (by simp only [go_sem, ↓reduceIte, Nat.sub_self, Nat.pow_zero, Nat.mul_one, setSame] <;> rfl)
    rintro m ⟨hm1, hm2⟩ K' hK'
    refine AW.go ?_ (by simp only [go_sem, ↓reduceIte, hm8] <;> rfl)
    refine AW.cond rfl (fun hc2 => ?_) (fun hc2 => ?_)
    · have h8 : m % 8 ≠ 0 := by simp at hc2; omega
      generalize hz : (pr l).getD (l.length / 8) 0 = z at *
      have hlt8 : m - l.length + 1 ≤ 8 - l.length % 8 := by omega
      have hz2 : z * 2 ^ (m - l.length + 1) < 256 := by
        have hq : 2 ^ (l.length % 8) * 2 ^ (m - l.length + 1) ≤ 2 ^ 8 := by rw [← Nat.pow_add]; exact Nat.pow_le_pow_right (by omega) (by omega)
        have := Nat.mul_lt_mul_of_pos_right hp2.2 (Nat.two_pow_pos (m - l.length + 1))
        omega
      rw [Nat.pow_succ, ← Nat.mul_assoc] at hz2
      have hset : ((pr l).set (l.length / 8) (z * 2 ^ (m - l.length))).length = (pr l).length := by simp
      have hin : l.length / 8 < (pr l).length := by omega
      have e1 : IntKind.i64.wrap (((pr l).length : Int) - 1) = ((l.length / 8 : Nat) : Int) := by rw [wrap_i64_of (by omega) (by omega)]; omega
      have hget : (bytes ((pr l).set (l.length / 8) (z * 2 ^ (m - l.length))))[l.length / 8]? = some (.int .u8 ((z * 2 ^ (m - l.length) : Nat) : Int)) := by simp [bytes, hin]
      have e2 : IntKind.u8.wrap (((z * 2 ^ (m - l.length) : Nat) : Int) * 2) = ((z * 2 ^ (m - l.length) * 2 : Nat) : Int) := wrap_u8_lt (n := z * 2 ^ (m - l.length) * 2) hz2
      have ei : IntKind.i64.wrap ((m : Int) + 1) = ((m + 1 : Nat) : Int) := wrap_i64_succ (by omega)
      generalize hw : z * 2 ^ (m - l.length) = w at *
      refine AW.go ?_ (by simp only [go_sem, ↓reduceIte, hset, e1, hin, hget, e2, bytes_set, ei] <;> rfl)
      refine AW.again hK' (m + 1) ⟨by omega, by omega⟩ (by omega) (by simp only [go_sem, ↓reduceIte]) (by simp only [go_sem, ↓reduceIte, List.set_set]; rw [show m + 1 - l.length = m - l.length + 1 by omega, Nat.pow_succ, ← Nat.mul_assoc, hw] <;> rfl)
    · have h8 : m % 8 = 0 := by simp at hc2; omega
      have : m - l.length = (8 - l.length % 8) % 8 := by omega
      rw [this, ← hkp]
      refine AW.go ?_
      refine AW.finE (.move rfl .nil) rfl
end Go.Ck

set_option linter.unusedVariables false
/-! Places in a list; a dictionary. -/
namespace Go.Ck
def plc (v : Nat) : List Nat → Nat → Int
  | [], _ => -1
  | x :: r, i => if x = v then (i : Int) else plc v r (i + 1)
theorem plc_not {v : Nat} : ∀ {l : List Nat} {i : Nat}, v ∉ l → plc v l i = -1
  | [], _, _ => rfl
  | x :: r, i, h => by
    simp only [List.mem_cons, not_or] at h
    rw [plc, if_neg (fun e => h.1 e.symm), plc_not h.2]
theorem plc_mem {v : Nat} : ∀ {l : List Nat} {i : Nat}, v ∈ l → ∃ k, plc v l i = ((i + k : Nat) : Int) ∧ k < l.length ∧ l[k]? = some v
  | [], _, h => by simp at h
  | x :: r, i, h => by
    rw [plc]
    by_cases e : x = v
    · exact ⟨0, by rw [if_pos e]; simp, by simp, by simp [e]⟩
    · rw [if_neg e]
      obtain ⟨k, h1, h2, h3⟩ := plc_mem (i := i + 1) (List.mem_of_ne_of_mem (fun h => e h.symm) h)
      exact ⟨k + 1, by rw [h1]; congr 1; omega, by simp; omega, by simpa using h3⟩
theorem plc_neg {v : Nat} {l : List Nat} {i : Nat} : plc v l i < 0 ↔ v ∉ l := by
  by_cases h : v ∈ l
  · obtain ⟨k, h1, _⟩ := plc_mem (i := i) h
    rw [h1]
    exact ⟨fun h2 => by omega, fun h2 => absurd h h2⟩
  · rw [plc_not h]; exact ⟨fun _ => h, fun _ => by omega⟩
/-- The patterns that there are, as they come. -/
def ddS (d : List Nat) (x : Nat) : List Nat := if plc x d 0 < 0 then d ++ [x] else d
def dd (xs : List Nat) : List Nat := xs.foldl ddS []
theorem dd_snoc (xs : List Nat) (x : Nat) : dd (xs ++ [x]) = ddS (dd xs) x := by simp [dd]
theorem dd_mem (xs : List Nat) (y : Nat) : y ∈ dd xs ↔ y ∈ xs := by
  induction xs using snoc_ind with
  | h0 => simp [dd]
  | h1 l b ih =>
    rw [dd_snoc, ddS]
    simp only [plc_neg, List.mem_append, List.mem_singleton]
    split
    · simp only [List.mem_append, List.mem_singleton, ih]
    · rename_i h
      rw [ih]
      constructor
      · exact .inl
      · rintro (h2 | rfl)
        · exact h2
        · exact ih.1 (Classical.not_not.1 h)
theorem dd_len (xs : List Nat) : (dd xs).length ≤ xs.length := by
  induction xs using snoc_ind with
  | h0 => simp [dd]
  | h1 l b ih => rw [dd_snoc, ddS]; split <;> simp <;> omega
/-- How wide a place is. -/
def wd (n : Nat) : Nat := blen (n - 1)
theorem wd_le {n : Nat} (h : n ≤ 2 ^ 16) : wd n ≤ 16 := by unfold wd; rw [blen_le]; omega
theorem wd_lt {k n : Nat} (h : k < n) : k < 2 ^ wd n := by
  unfold wd
  have := @blen_lt (n - 1)
  omega
def bits10 (d xs : List Nat) : List Nat := xs.flatMap fun x => binB (plc x d 0).toNat (wd d.length)
def head10 (d : List Nat) : List Nat := leb d.length ++ d.flatMap fun x => beB x 8
def enc10 (xs : List Nat) : List Nat := head10 (dd xs) ++ pk (bits10 (dd xs) xs)
theorem bits10_len (d xs : List Nat) : (bits10 d xs).length = wd d.length * xs.length := by
  induction xs with
  | nil => rfl
  | cons x r ih => simp only [bits10, List.flatMap_cons, List.length_append, binB_len, List.length_cons] at ih ⊢; rw [ih, Nat.mul_succ]; omega
theorem be8_len (d : List Nat) : (d.flatMap fun x => beB x 8).length = 8 * d.length := by
  induction d with
  | nil => rfl
  | cons x r ih => simp only [List.flatMap_cons, List.length_append, beB_len, List.length_cons] at ih ⊢; rw [ih]; omega
theorem bits10_bit (d xs : List Nat) : ∀ x ∈ bits10 d xs, x < 2 := by
  intro x hx
  simp only [bits10, List.mem_flatMap] at hx
  obtain ⟨y, _, hx⟩ := hx
  exact binB_bit _ _ x hx
end Go.Ck

set_option linter.unusedVariables false
set_option maxRecDepth 10000
namespace Go.Ck
open Go.Proofs

end Go.Ck

set_option linter.unusedVariables false
set_option maxRecDepth 10000
namespace Go.Ck
open Go.Proofs

end Go.Ck

set_option linter.unusedVariables false
set_option maxRecDepth 10000
namespace Go.Ck
open Go.Proofs

theorem numsOf_bytes (l : List Nat) : numsOf (bytes l) = some (l.map fun (n : Nat) => (n : Int)) := by
  induction l with
  | nil => rfl
  | cons a r ih => simp only [bytes, List.map_cons, numsOf] at ih ⊢; rw [ih]
theorem ofNums_eq {a b : List Nat} (ha : ∀ x ∈ a, x < 256) (hb : ∀ x ∈ b, x < 256) : (ofNums (a.map fun (n : Nat) => (n : Int)) == ofNums (b.map fun (n : Nat) => (n : Int))) = decide (a = b) := by
  rw [Bool.eq_iff_iff]
  simp only [beq_iff_eq, decide_eq_true_eq]
  constructor
  · intro h
    have h2 := congrArg (fun l : List UInt8 => l.map UInt8.toNat) h
    simp only [ofNums, List.map_map] at h2
    have e : ∀ l : List Nat, (∀ x ∈ l, x < 256) → l.map (UInt8.toNat ∘ (fun n : Int => UInt8.ofNat n.toNat) ∘ fun (n : Nat) => (n : Int)) = l := by
      intro l hl
      conv => rhs; rw [← List.map_id l]
      apply List.map_congr_left
      intro x hx
      have := hl x hx
      simp [UInt8.toNat_ofNat']
      omega
    rwa [e a ha, e b hb] at h2
  · rintro rfl; rfl

theorem bytesEqual_fn (a b : List Nat) (ha : ∀ x ∈ a, x < 256) (hb : ∀ x ∈ b, x < 256) : Fn Try.prog 36 [] [.pv (.sl 1 (bytes a)), .pv (.sl 1 (bytes b))] (fun rs H' => rs = [.pv (.bool (decide (a = b)))] ∧ H' = []) := by
  refine Fn.of_body (fn := Try.f36) (n := 10) (res := [.tmp 4]) (by kernel_rfl) rfl rfl rfl rfl rfl (fun C => ?_)
  have e := ofNums_eq ha hb
  refine AW.go ?_ (by simp only [go_sem, ↓reduceIte, numsOf_bytes, e] <;> rfl)
  refine AW.finE (.pv _ .nil) ?_
  rfl

theorem ref01Same_fn (a b : List Nat) (hl : a.length ≤ room) : Fn Try.prog 13 [] [.pv (.sl 1 (bytes a)), .pv (.sl 1 (bytes b))] (fun rs H' => rs = [.pv (.bool (decide (a = b)))] ∧ H' = []) := by
  refine Fn.of_body (fn := Try.f13) (n := 26) (res := [.tmp 4]) (by kernel_rfl) rfl rfl rfl rfl rfl (fun C => ?_)
  have hr : room < 2 ^ 62 := by decide
  refine AW.go ?_
  refine AW.cond rfl (fun hc => ?_) (fun hc => ?_)
  · have hne : a ≠ b := by rintro rfl; simp at hc
    refine AW.go ?_
    refine AW.finE (.pv _ .nil) ?_
    rw [decide_eq_false hne]
  have hlen : a.length = b.length := by simp at hc; omega
  refine AW.go ?_
  refine AW.loopS (fun i : Nat => ⟨26, [(5, .pv (.int .i64 i)), (0, .pv (.sl 1 (bytes a))), (1, .pv (.sl 1 (bytes b)))], []⟩) (fun i => i ≤ a.length ∧ a.take i = b.take i) (fun i => a.length - i) [5, 0, 1] [] 0 ⟨Nat.zero_le _, rfl⟩ ?_
  rintro i ⟨hi, ht⟩ K hK
  refine AW.go ?_
  refine AW.cond rfl (fun hc => ?_) (fun hc => ?_)
  · have hlt : i < a.length := by simpa using hc
    have hlt2 : i < b.length := by omega
    have h1 := bytes_get hlt
    have h2 := bytes_get hlt2
    have ei : IntKind.i64.wrap ((i : Int) + 1) = ((i + 1 : Nat) : Int) := wrap_i64_succ (by omega)
    refine AW.go ?_
    refine AW.sr mixed (by decide +kernel) ?_ (by simp only [go_sem, ↓reduceIte, h1, h2] <;> rfl)
    refine AW.go ?_
    refine AW.cond rfl (fun hc => ?_) (fun hc => ?_)
    · have hne : a ≠ b := by rintro rfl; simp at hc
      refine AW.go ?_
      refine AW.finE (.pv _ .nil) ?_
      rw [decide_eq_false hne]
    · have he : a[i] = b[i] := by simp at hc; omega
      refine AW.go ?_ (by simp only [go_sem, ↓reduceIte, ei] <;> rfl)
      refine AW.again hK (i + 1) ⟨hlt, ?_⟩ (by omega)
      rw [List.take_succ_eq_append_getElem hlt, List.take_succ_eq_append_getElem hlt2, ht, he]
  · have hge : ¬ i < a.length := by simpa using hc
    rw [List.take_of_length_le (by omega), List.take_of_length_le (by omega)] at ht
    refine AW.go ?_
    refine AW.finE (.pv _ .nil) ?_
    rw [decide_eq_true ht]

end Go.Ck

set_option linter.unusedVariables false
/-! A dictionary, read. -/
namespace Go.Ck
def dic (r : List Nat) (u : Nat) : List Nat := (List.range u).map fun i => beN ((r.drop (8 * i)).take 8)
theorem dic_len (r : List Nat) (u : Nat) : (dic r u).length = u := by simp [dic]
theorem dic_succ (r : List Nat) (u : Nat) : dic r (u + 1) = dic r u ++ [beN ((r.drop (8 * u)).take 8)] := by simp [dic, List.range_succ]
theorem be8_lt (l : List Nat) (h : ∀ x ∈ l, x < 256) : beN (l.take 8) < 2 ^ 64 := by
  have := beN_lt (l.take 8) (fun x hx => h x (List.mem_of_mem_take hx))
  have h2 : 256 ^ (l.take 8).length ≤ 256 ^ 8 := Nat.pow_le_pow_right (by omega) (by simp; omega)
  omega
theorem dic_lt (r : List Nat) (u : Nat) (h : ∀ x ∈ r, x < 256) : ∀ y ∈ dic r u, y < 2 ^ 64 := by
  intro y hy
  simp only [dic, List.mem_map, List.mem_range] at hy
  obtain ⟨i, _, rfl⟩ := hy
  exact be8_lt _ (fun x hx => h x (List.mem_of_mem_drop hx))
/-- The place that is written i-th. -/
def ixs (r : List Nat) (u i : Nat) : Nat := getB (unb (r.drop (8 * u))) (i * wd u) (wd u)
def pats (r : List Nat) (u n : Nat) : List Nat := (List.range n).map fun i => (dic r u).getD (ixs r u i) 0
theorem pats_len (r : List Nat) (u n : Nat) : (pats r u n).length = n := by simp [pats]
theorem pats_succ (r : List Nat) (u n : Nat) : pats r u (n + 1) = pats r u n ++ [(dic r u).getD (ixs r u n) 0] := by simp [pats, List.range_succ]
theorem pats_lt (r : List Nat) (u n : Nat) (h : ∀ x ∈ r, x < 256) : ∀ y ∈ pats r u n, y < 2 ^ 64 := by
  intro y hy
  simp only [pats, List.mem_map, List.mem_range] at hy
  obtain ⟨i, _, rfl⟩ := hy
  rw [List.getD_eq_getElem?_getD]
  cases hg : (dic r u)[ixs r u i]? with
  | none => simp
  | some z => exact dic_lt r u h z (List.mem_of_getElem? hg)
def fit10 (r : List Nat) (u n : Nat) : Bool := (List.range n).all fun i => decide (ixs r u i < u)
theorem fit10_succ (r : List Nat) (u n : Nat) : fit10 r u (n + 1) = (fit10 r u n && decide (ixs r u n < u)) := by simp [fit10, List.range_succ]
theorem fit10_false {r : List Nat} {u n i : Nat} (hi : i < n) (h : ¬ ixs r u i < u) : fit10 r u n = false := by
  rw [fit10, List.all_eq_false]
  exact ⟨i, by simpa using hi, by simpa using h⟩
def dec10b (l r : List Nat) (u n : Nat) : List Nat × Int :=
  if r.length < 8 * u then ([], 2) else if 8 * (r.length - 8 * u) < n * wd u then ([], 2) else if fit10 r u n = false then ([], 3)
  else if enc10 (pats r u n) = l then (pats r u n, 0) else ([], 3)
def dec10 (l : List Nat) (n : Nat) : List Nat × Int :=
  if (readV l).2.2 ≠ 0 then ([], (readV l).2.2) else if n < (readV l).1 then ([], 3) else dec10b l (l.drop (readV l).2.1) (readV l).1 n
theorem bytesOf_leb (n : Nat) : ∀ x ∈ leb n, x < 256 := leb_byte n
end Go.Ck

set_option linter.unusedVariables false
/-! A map from patterns to places. -/
namespace Go.Ck
def ents : List Nat → Nat → List (PV × PV)
  | [], _ => []
  | x :: r, i => (.int .u64 (x : Int), .int .i64 (i : Int)) :: ents r (i + 1)
theorem ents_len : ∀ (d : List Nat) (i : Nat), (ents d i).length = d.length
  | [], _ => rfl
  | x :: r, i => by simp [ents, ents_len r]
theorem ents_snoc : ∀ (d : List Nat) (i x : Nat), ents (d ++ [x]) i = ents d i ++ [(.int .u64 (x : Int), .int .i64 ((i + d.length : Nat) : Int))]
  | [], i, x => by simp [ents]
  | y :: r, i, x => by
    simp only [List.cons_append, ents, ents_snoc r (i + 1) x, List.length_cons]
    rw [show i + 1 + r.length = i + (r.length + 1) by omega]
theorem mlook_ents (x : Nat) : ∀ (d : List Nat) (i : Nat), mlook (.int .u64 (x : Int)) (ents d i) = some (if x ∈ d then some (.int .i64 (plc x d i)) else none)
  | [], i => rfl
  | y :: r, i => by
    by_cases h : y = x
    · have e : ((x : Int) == (y : Int)) = true := by simp [h]
      simp only [ents, mlook, keyEq, if_true, e]
      rw [plc, if_pos h, if_pos (by simp [h])]
    · have e : ((x : Int) == (y : Int)) = false := by simp; omega
      simp only [ents, mlook, keyEq, if_true, e]
      rw [mlook_ents x r (i + 1), plc, if_neg h]
      have : (x ∈ y :: r) ↔ x ∈ r := by simp only [List.mem_cons]; exact ⟨fun h2 => h2.resolve_left (fun h3 => h h3.symm), .inr⟩
      simp only [this]
theorem mset_ents (x : Nat) (v : PV) : ∀ (d : List Nat) (i : Nat), x ∉ d → mset (.int .u64 (x : Int)) v (ents d i) = some (ents d i ++ [(.int .u64 (x : Int), v)])
  | [], i, _ => rfl
  | y :: r, i, h => by
    simp only [List.mem_cons, not_or] at h
    have e : ((x : Int) == (y : Int)) = false := by simp; omega
    simp only [ents, mset, keyEq, if_true, e]
    rw [mset_ents x v r (i + 1) h.2]
    rfl
end Go.Ck

namespace Go.Ck
theorem mem_getD {l : List Nat} {x : Nat} (h : x ∈ l) : ∃ j, l.getD j 0 = x := by
  obtain ⟨j, hj, rfl⟩ := List.mem_iff_getElem.1 h
  exact ⟨j, (getD_get hj).symm⟩
theorem pk_byte (l : List Nat) (h : ∀ x ∈ l, x < 2) : ∀ x ∈ pk l, x < 256 := by
  intro x hx
  obtain ⟨j, rfl⟩ := mem_getD hx
  rw [pr_pk]
  split
  · rename_i hj
    subst hj
    by_cases h8 : l.length % 8 = 0
    · rw [h8]; simpa using (pr_lt l h).1 (l.length / 8)
    · rw [show (8 - l.length % 8) % 8 = 8 - l.length % 8 by omega]
      have h2 := (pr_lt l h).2
      have hq : 2 ^ (l.length % 8) * 2 ^ (8 - l.length % 8) = 2 ^ 8 := by rw [← Nat.pow_add]; congr 1; omega
      have := Nat.mul_lt_mul_of_pos_right h2 (Nat.two_pow_pos (8 - l.length % 8))
      omega
  · exact (pr_lt l h).1 j
theorem enc10_byte (xs : List Nat) : ∀ x ∈ enc10 xs, x < 256 := by
  intro x hx
  simp only [enc10, head10, List.mem_append, List.mem_flatMap] at hx
  rcases hx with (hx | ⟨y, _, hx⟩) | hx
  · exact leb_byte _ x hx
  · exact beB_byte _ _ x hx
  · exact pk_byte _ (bits10_bit _ _) x hx
end Go.Ck

set_option linter.unusedVariables false
/-! Patterns against the one ahead. -/
namespace Go.Ck
def fitsW : Option (Nat × Nat) → Nat → Bool
  | none, _ => false
  | some (l, t), v => decide (l ≤ 64 - blen v) && decide (t ≤ tzn v)
/-- The window of a difference. -/
def newW (x : Nat) : Nat × Nat := (min (64 - blen x) 31, tzn x)
def winOK (w : Option (Nat × Nat)) : Prop := ∀ l t, w = some (l, t) → l + t ≤ 63 ∧ l ≤ 31
theorem tzn_blen {x : Nat} (h : x ≠ 0) : tzn x < blen x := tzn_lt h blen_lt
theorem newW_ok {x : Nat} (h : x ≠ 0) (hx : x < 2 ^ 64) : (newW x).1 + (newW x).2 ≤ 63 ∧ (newW x).1 ≤ 31 := by
  have := tzn_blen h
  have := blen_le.2 hx
  unfold newW
  simp only
  omega
theorem newW_fits {x : Nat} : (newW x).1 ≤ 64 - blen x ∧ (newW x).2 ≤ tzn x := by
  unfold newW
  simp only
  omega
theorem fit_lt {x l t : Nat} (hx : x < 2 ^ 64) (hl : l ≤ 64 - blen x) (hl2 : l + t ≤ 63) : x / 2 ^ t < 2 ^ (64 - l - t) := by
  rw [Nat.div_lt_iff_lt_mul (Nat.two_pow_pos t), ← Nat.pow_add]
  have hb := blen_le.2 hx
  have := @blen_lt x
  exact Nat.lt_of_lt_of_le this (Nat.pow_le_pow_right (by omega) (by omega))
/-- The bits of a difference, and the window behind it. -/
def gStep (w : Option (Nat × Nat)) (x : Nat) : List Nat × Option (Nat × Nat) :=
  if x = 0 then ([0], w) else match fitsW w x, w with
  | true, some (l, t) => ([1, 0] ++ binB (x / 2 ^ t) (64 - l - t), w)
  | _, _ => ([1, 1] ++ binB (newW x).1 5 ++ binB (63 - (newW x).1 - (newW x).2) 6 ++ binB (x / 2 ^ (newW x).2) (64 - (newW x).1 - (newW x).2), some (newW x))
def gS (a : List Nat × Option (Nat × Nat) × Option Nat) (v : Nat) : List Nat × Option (Nat × Nat) × Option Nat := match a.2.2 with
  | none => (binB v 64, a.2.1, some v)
  | some p => (a.1 ++ (gStep a.2.1 (v ^^^ p)).1, (gStep a.2.1 (v ^^^ p)).2, some v)
def gF (xs : List Nat) : List Nat × Option (Nat × Nat) × Option Nat := xs.foldl gS ([], none, none)
theorem gF_snoc (xs : List Nat) (v : Nat) : gF (xs ++ [v]) = gS (gF xs) v := by simp [gF]
theorem gF_last (xs : List Nat) : (gF xs).2.2 = xs.getLast? := by
  induction xs using snoc_ind with
  | h0 => rfl
  | h1 l b ih => rw [gF_snoc, gS]; cases (gF l).2.2 <;> simp
theorem gStep_zero (w : Option (Nat × Nat)) : gStep w 0 = ([0], w) := by simp [gStep]
theorem gStep_fits {l t x : Nat} (h0 : x ≠ 0) (h : fitsW (some (l, t)) x = true) : gStep (some (l, t)) x = ([1, 0] ++ binB (x / 2 ^ t) (64 - l - t), some (l, t)) := by
  simp [gStep, h0, h]
theorem gStep_new {w : Option (Nat × Nat)} {x : Nat} (h0 : x ≠ 0) (h : fitsW w x = false) : gStep w x = ([1, 1] ++ binB (newW x).1 5 ++ binB (63 - (newW x).1 - (newW x).2) 6 ++ binB (x / 2 ^ (newW x).2) (64 - (newW x).1 - (newW x).2), some (newW x)) := by
  unfold gStep
  rw [if_neg h0]
  split
  · rename_i h2; rw [h] at h2; cases h2
  · rfl
theorem gStep_ok {w : Option (Nat × Nat)} {x : Nat} (hw : winOK w) (hx : x < 2 ^ 64) : winOK (gStep w x).2 := by
  by_cases h0 : x = 0
  · subst h0; rw [gStep_zero]; exact hw
  · cases hf : fitsW w x with
    | true =>
      rcases w with _ | ⟨l, t⟩
      · simp [fitsW] at hf
      · rw [gStep_fits h0 hf]; exact hw
    | false =>
      rw [gStep_new h0 hf]
      intro l t h
      have := newW_ok h0 hx
      cases h
      exact this
theorem gStep_len {w : Option (Nat × Nat)} {x : Nat} : (gStep w x).1.length ≤ 77 := by
  by_cases h0 : x = 0
  · subst h0; rw [gStep_zero]; simp
  · cases hf : fitsW w x with
    | true =>
      rcases w with _ | ⟨l, t⟩
      · simp [fitsW] at hf
      · rw [gStep_fits h0 hf]; simp [binB_len]; omega
    | false => rw [gStep_new h0 hf]; simp [binB_len]; omega
theorem gF_ok (xs : List Nat) : (∀ x ∈ xs, x < 2 ^ 64) → winOK (gF xs).2.1 := by
  induction xs using snoc_ind with
  | h0 => intro _ l t h; cases h
  | h1 l b ih =>
    intro hx
    have ih := ih (fun x h => hx x (by simp [h]))
    have hl := gF_last l
    rw [gF_snoc, gS]
    cases hp : (gF l).2.2 with
    | none => exact ih
    | some p =>
      rw [hp] at hl
      have hpm : p ∈ l := List.mem_of_getLast? hl.symm
      exact gStep_ok ih (Nat.xor_lt_two_pow (hx b (by simp)) (hx p (by simp [hpm])))
theorem gF_len (xs : List Nat) : (gF xs).1.length ≤ 77 * xs.length := by
  induction xs using snoc_ind with
  | h0 => simp [gF]
  | h1 l b ih =>
    rw [gF_snoc, gS, List.length_append, List.length_singleton]
    cases (gF l).2.2 with
    | none => simp only [binB_len]; omega
    | some p => have := @gStep_len (gF l).2.1 (b ^^^ p); simp only [List.length_append]; omega
theorem gStep_bit {w : Option (Nat × Nat)} {x : Nat} : ∀ y ∈ (gStep w x).1, y < 2 := by
  by_cases h0 : x = 0
  · subst h0; rw [gStep_zero]; simp
  · cases hf : fitsW w x with
    | true =>
      rcases w with _ | ⟨l, t⟩
      · simp [fitsW] at hf
      · rw [gStep_fits h0 hf]
        intro y hy
        simp only [List.mem_append, List.mem_cons, List.not_mem_nil, or_false] at hy
        rcases hy with (rfl | rfl) | hy
        · omega
        · omega
        · exact binB_bit _ _ y hy
    | false =>
      rw [gStep_new h0 hf]
      intro y hy
      simp only [List.mem_append, List.mem_cons, List.not_mem_nil, or_false] at hy
      rcases hy with (((rfl | rfl) | hy) | hy) | hy
      · omega
      · omega
      all_goals exact binB_bit _ _ y hy
theorem gF_bit (xs : List Nat) : ∀ y ∈ (gF xs).1, y < 2 := by
  induction xs using snoc_ind with
  | h0 => simp [gF]
  | h1 l b ih =>
    rw [gF_snoc, gS]
    cases (gF l).2.2 with
    | none => exact binB_bit _ _
    | some p =>
      intro y hy
      simp only [List.mem_append] at hy
      rcases hy with hy | hy
      · exact ih y hy
      · exact gStep_bit y hy
def enc09 (xs : List Nat) : List Nat := pk (gF xs).1
end Go.Ck

set_option linter.unusedVariables false
/-! Four ways. -/
namespace Go.Ck
def encP (xs : List Nat) : List Nat := xs.flatMap fun x => beB x 8
theorem encP_len (xs : List Nat) : (encP xs).length = 8 * xs.length := be8_len xs
def oneV (xs : List Nat) : Bool := xs.all fun x => x == xs.getD 0 0
def wayS (xs : List Nat) (w : Int) : List Nat × Int :=
  if w < 0 ∨ 4 ≤ w then ([], 1) else if 65536 < xs.length then ([], 4) else if w = 2 then (enc10 xs, 0) else if w = 3 then (enc09 xs, 0) else if w = 0 then (encP xs, 0)
  else if oneV xs = false ∨ xs = [] then ([], 1) else (encP (xs.take 1), 0)
end Go.Ck

set_option linter.unusedVariables false
/-! The shortest way. -/
namespace Go.Ck
def stepB (xs : List Nat) (b : Nat × List Nat) (w : Nat) : Nat × List Nat := if (wayS xs w).2 = 0 ∧ (wayS xs w).1.length < b.2.length then (w, (wayS xs w).1) else b
def bestB (xs : List Nat) (n : Nat) : Nat × List Nat := (List.range n).foldl (fun b w => stepB xs b (w + 1)) (0, encP xs)
theorem bestB_zero (xs : List Nat) : bestB xs 0 = (0, encP xs) := rfl
theorem bestB_succ (xs : List Nat) (n : Nat) : bestB xs (n + 1) = stepB xs (bestB xs n) (n + 1) := by simp [bestB, List.range_succ]
def encV (xs : List Nat) : List Nat × Int := if 65536 < xs.length then ([], 4) else ((bestB xs 3).1 :: (bestB xs 3).2, 0)
theorem wayS_zero {xs : List Nat} (h : ¬ 65536 < xs.length) : wayS xs 0 = (encP xs, 0) := by
  rw [wayS, if_neg (by omega), if_neg h]; rfl
theorem bestB_le (xs : List Nat) (n : Nat) : (bestB xs n).2.length ≤ 8 * xs.length := by
  induction n with
  | zero => rw [bestB_zero]; simp only [encP_len]; omega
  | succ n ih =>
    rw [bestB_succ, stepB]
    split
    · rename_i h; simp only; omega
    · exact ih
theorem bestB_tag (xs : List Nat) (n : Nat) : (bestB xs n).1 ≤ n := by
  induction n with
  | zero => simp [bestB_zero]
  | succ n ih =>
    rw [bestB_succ, stepB]
    split
    · simp
    · omega
end Go.Ck
namespace Go.Ck
theorem filt_get (p : Nat → Bool) : ∀ (n w : Nat), w < n → p w = true → ((List.range n).filter p)[((List.range w).filter p).length]? = some w
  | 0, w, h, _ => by omega
  | n + 1, w, h, hp => by
    rw [List.range_succ, List.filter_append]
    by_cases hw : w < n
    · have ih := filt_get p n w hw hp
      obtain ⟨hlt, _⟩ := List.getElem?_eq_some_iff.1 ih
      rw [List.getElem?_append_left hlt]; exact ih
    · have : w = n := by omega
      subst this
      rw [List.getElem?_append_right (Nat.le_refl _), Nat.sub_self]
      simp [hp]
def okB' (xs : List Nat) (w : Nat) : Bool := decide ((wayS xs (w : Int)).2 = 0)
def okTo (xs : List Nat) (w : Nat) : Nat := ((List.range w).filter (okB' xs)).length
theorem okTo_succ (xs : List Nat) (w : Nat) : okTo xs (w + 1) = okTo xs w + (if okB' xs w = true then 1 else 0) := by
  rw [okTo, okTo, List.range_succ, List.filter_append, List.length_append]
  cases h : okB' xs w <;> simp [h]
/-- What is handed out, as it comes. -/
def outs (xs : List Nat) (i : Nat) : Option (List PV) := (((List.range 4).filter (okB' xs))[i]?).map fun (w : Nat) => [PV.int .i64 (w : Int), .sl 1 (bytes (wayS xs (w : Int)).1)]
theorem outs_at {xs : List Nat} {w : Nat} (hw : w < 4) (h : okB' xs w = true) : outs xs (okTo xs w) = some [.int .i64 (w : Int), .sl 1 (bytes (wayS xs (w : Int)).1)] := by
  rw [outs, okTo, filt_get _ 4 w hw h]; rfl
theorem outs_end (xs : List Nat) : outs xs (okTo xs 4) = none := by
  rw [outs, okTo, List.getElem?_eq_none (Nat.le_refl _)]; rfl
end Go.Ck
namespace Go.Ck
/-- The best so far, as the program keeps it. -/
def stepC (xs : List Nat) (b : Nat × List Nat) (w : Nat) : Nat × List Nat := if b.1 = 4 ∨ (wayS xs w).1.length < b.2.length then (w, (wayS xs w).1) else b
def okL (xs : List Nat) : List Nat := (List.range 4).filter (okB' xs)
def bestC (xs : List Nat) (i : Nat) : Nat × List Nat := ((okL xs).take i).foldl (stepC xs) (4, [])
theorem bestC_succ {xs : List Nat} {i w : Nat} (h : (okL xs)[i]? = some w) : bestC xs (i + 1) = stepC xs (bestC xs i) w := by
  rw [bestC, List.take_add_one, h]
  simp [bestC]
theorem bestC_all {xs : List Nat} (h : ¬ 65536 < xs.length) : bestC xs (okL xs).length = bestB xs 3 := by
  have h0 := wayS_zero h
  have hr : List.range 4 = [0, 1, 2, 3] := rfl
  have k0 : okB' xs 0 = true := by
    unfold okB'
    have : wayS xs ((0 : Nat) : Int) = (encP xs, 0) := h0
    rw [this]; rfl
  rw [bestC, List.take_length, okL, hr, bestB_succ, bestB_succ, bestB_succ, bestB_zero]
  have s0 : stepC xs (4, []) 0 = (0, encP xs) := by
    have : wayS xs ((0 : Nat) : Int) = (encP xs, 0) := h0
    rw [stepC, if_pos (.inl rfl), this]
  have st : ∀ (b : Nat × List Nat) (w : Nat), b.1 ≠ 4 → (if okB' xs w = true then stepC xs b w else b) = stepB xs b w := by
    intro b w hb
    unfold stepC stepB okB'
    by_cases h1 : (wayS xs (w : Int)).2 = 0
    · simp [h1, hb]
    · simp [h1]
  have ne : ∀ (b : Nat × List Nat) (w : Nat), w ≠ 4 → b.1 ≠ 4 → (stepB xs b w).1 ≠ 4 := by
    intro b w hw hb
    unfold stepB
    split
    · exact hw
    · exact hb
  have fo : ∀ (l : List Nat) (b : Nat × List Nat), (∀ w ∈ l, w ≠ 4) → b.1 ≠ 4 → (l.filter (okB' xs)).foldl (stepC xs) b = l.foldl (stepB xs) b := by
    intro l
    induction l with
    | nil => intro b _ _; rfl
    | cons w r ih =>
      intro b hw hb
      have hst := st b w hb
      rw [List.filter_cons]
      by_cases hk : okB' xs w = true
      · rw [if_pos hk] at hst ⊢
        rw [List.foldl_cons, List.foldl_cons, hst]
        exact ih _ (fun y hy => hw y (by simp [hy])) (ne b w (hw w (by simp)) hb)
      · rw [if_neg hk] at hst ⊢
        rw [List.foldl_cons, ← hst]
        exact ih _ (fun y hy => hw y (by simp [hy])) hb
  rw [List.filter_cons, if_pos k0, List.foldl_cons, s0, fo [1, 2, 3] (0, encP xs) (by simp) (by simp)]
  rfl
theorem bestC_len {xs : List Nat} (i : Nat) : (bestC xs i).1 ≤ 4 := by
  induction i with
  | zero => simp [bestC]
  | succ i ih =>
    cases hk : (okL xs)[i]? with
    | none =>
      have : (okL xs).length ≤ i := by simpa using hk
      rw [bestC, List.take_of_length_le (by omega)]
      rw [bestC, List.take_of_length_le this] at ih
      exact ih
    | some w =>
      rw [bestC_succ hk, stepC]
      split
      · have : w ∈ okL xs := List.mem_of_getElem? hk
        simp [okL] at this
        omega
      · exact ih
theorem outs_eq (xs : List Nat) (i : Nat) : outs xs i = ((okL xs)[i]?).map fun (w : Nat) => [PV.int .i64 (w : Int), .sl 1 (bytes (wayS xs (w : Int)).1)] := rfl
end Go.Ck

set_option linter.unusedVariables false
/-! Patterns, read against the one ahead. -/
namespace Go.Ck
/-- What differs, or why that is not told; the place behind it; the window behind it. -/
structure GN where
  x : Nat
  e : Int
  k : Nat
  a : Int
  z : Int
def gNy (bs : List Nat) (k : Nat) (a z : Int) : GN :=
  if (a = -1 ∧ z = 0) ∨ z < 0 then ⟨0, 3, k, a, z⟩
  else if k + (64 - a - z).toNat ≤ bs.length then ⟨getB bs k (64 - a - z).toNat * 2 ^ z.toNat % 2 ^ 64, 0, k + (64 - a - z).toNat, a, z⟩ else ⟨0, 2, k, a, z⟩
def gNx (bs : List Nat) (k : Nat) (a z : Int) : GN :=
  if bs.length < k + 1 then ⟨0, 2, k, a, z⟩
  else if getB bs k 1 = 0 then ⟨0, 0, k + 1, a, z⟩
  else if bs.length < k + 2 then ⟨0, 2, k + 1, a, z⟩
  else if getB bs (k + 1) 1 = 1 then
    if bs.length < k + 7 then ⟨0, 2, k + 2, a, z⟩
    else if bs.length < k + 13 then ⟨0, 2, k + 7, a, z⟩
    else gNy bs (k + 13) (getB bs (k + 2) 5 : Nat) (63 - (getB bs (k + 2) 5 : Nat) - (getB bs (k + 7) 6 : Nat))
  else gNy bs (k + 2) a z
/-- A window that may be. -/
def wOK (a z : Int) : Prop := (a = -1 ∧ z = 0) ∨ (0 ≤ a ∧ a ≤ 31 ∧ 0 ≤ z ∧ a + z ≤ 63)
theorem getB_lt {bs : List Nat} (hb : ∀ x ∈ bs, x < 2) (k n : Nat) : getB bs k n < 2 ^ n := by
  have := binN_lt ((bs.drop k).take n) (fun x hx => hb x (List.mem_of_mem_drop (List.mem_of_mem_take hx)))
  exact Nat.lt_of_lt_of_le this (Nat.pow_le_pow_right (by omega) (by simp; omega))
/-- A window as it is read, or the one that was. -/
def wRd (a z : Int) : Prop := (a = -1 ∧ z = 0) ∨ (0 ≤ a ∧ a ≤ 31 ∧ a + z ≤ 63 ∧ -63 ≤ z)
theorem wOK.rd {a z : Int} (h : wOK a z) : wRd a z := by unfold wOK at h; unfold wRd; omega
theorem gNy_ok {bs : List Nat} {k : Nat} {a z : Int} (hw : wRd a z) (hk : k ≤ bs.length) : (gNy bs k a z).k ≤ bs.length ∧ (gNy bs k a z).x < 2 ^ 64 ∧ ((gNy bs k a z).e = 0 → wOK (gNy bs k a z).a (gNy bs k a z).z) := by
  unfold gNy
  split
  · exact ⟨hk, by simp, fun h => by simp at h⟩
  · rename_i h
    split
    · rename_i h2
      exact ⟨h2, Nat.mod_lt _ (by omega), fun _ => by simp only; unfold wRd at hw; unfold wOK; omega⟩
    · exact ⟨hk, by simp, fun h => by simp at h⟩
theorem gNx_ok {bs : List Nat} {k : Nat} {a z : Int} (hb : ∀ x ∈ bs, x < 2) (hw : wOK a z) (hk : k ≤ bs.length) : (gNx bs k a z).k ≤ bs.length ∧ (gNx bs k a z).x < 2 ^ 64 ∧ ((gNx bs k a z).e = 0 → wOK (gNx bs k a z).a (gNx bs k a z).z) := by
  unfold gNx
  split
  · exact ⟨hk, by simp, fun h => by simp at h⟩
  split
  · exact ⟨by simp only; omega, by simp, fun _ => hw⟩
  split
  · exact ⟨by simp only; omega, by simp, fun h => by simp at h⟩
  split
  · split
    · exact ⟨by simp only; omega, by simp, fun h => by simp at h⟩
    split
    · exact ⟨by simp only; omega, by simp, fun h => by simp at h⟩
    · have h5 := getB_lt hb (k + 2) 5
      have h6 := getB_lt hb (k + 7) 6
      exact gNy_ok (by unfold wRd; omega) (by omega)
  · exact gNy_ok hw.rd (by omega)
/-- So many patterns: those so far, why there are no more, the place, the window. -/
structure GS where
  o : List Nat
  e : Int
  k : Nat
  a : Int
  z : Int
def gRs (bs : List Nat) (r : GS) : GS :=
  if r.e ≠ 0 then r
  else if r.o.length = 0 then (if r.k + 64 ≤ bs.length then ⟨[getB bs r.k 64], 0, r.k + 64, r.a, r.z⟩ else ⟨[], 2, r.k, r.a, r.z⟩)
  else ⟨if (gNx bs r.k r.a r.z).e = 0 then r.o ++ [(gNx bs r.k r.a r.z).x ^^^ r.o.getD (r.o.length - 1) 0] else r.o, (gNx bs r.k r.a r.z).e, (gNx bs r.k r.a r.z).k, (gNx bs r.k r.a r.z).a, (gNx bs r.k r.a r.z).z⟩
def gR (bs : List Nat) : Nat → GS
  | 0 => ⟨[], 0, 0, -1, 0⟩
  | n + 1 => gRs bs (gR bs n)
theorem gR_stop {bs : List Nat} {i n : Nat} (hi : i ≤ n) (h : (gR bs i).e ≠ 0) : gR bs n = gR bs i := by
  induction n with
  | zero => rw [show i = 0 by omega]
  | succ n ih =>
    by_cases h1 : i = n + 1
    · rw [h1]
    · rw [gR, ih (by omega), gRs, if_pos h]
structure gOK (bs : List Nat) (n : Nat) : Prop where
  len : (gR bs n).o.length = n
  k : (gR bs n).k ≤ bs.length
  w : wOK (gR bs n).a (gR bs n).z
  lt : ∀ x ∈ (gR bs n).o, x < 2 ^ 64
theorem getD_lt {l : List Nat} {b : Nat} (h : ∀ x ∈ l, x < b) (hb : 0 < b) (i : Nat) : l.getD i 0 < b := by
  rw [List.getD_eq_getElem?_getD]
  cases hg : l[i]? with
  | none => exact hb
  | some z => exact h z (List.mem_of_getElem? hg)
theorem gR_ok {bs : List Nat} (hb : ∀ x ∈ bs, x < 2) : ∀ n, (gR bs n).e = 0 → gOK bs n
  | 0, _ => ⟨rfl, Nat.zero_le _, .inl ⟨rfl, rfl⟩, by simp [gR]⟩
  | n + 1, h => by
    by_cases h0 : (gR bs n).e = 0
    · obtain ⟨h1, h2, h3, h4⟩ := gR_ok hb n h0
      have hg := gNx_ok hb h3 h2
      have hlast : (gR bs n).o.getD ((gR bs n).o.length - 1) 0 < 2 ^ 64 := getD_lt h4 (by omega) _
      have hdef : gR bs (n + 1) = gRs bs (gR bs n) := rfl
      constructor <;> rw [hdef] at h ⊢ <;> generalize gR bs n = r at * <;> unfold gRs at h ⊢ <;> rw [if_neg (by simpa using h0)] at h ⊢
      · split
        · rename_i hl
          rw [if_pos hl] at h
          split
          · simp; omega
          · rename_i h6; rw [if_neg h6] at h; simp at h
        · rename_i hl
          rw [if_neg hl] at h
          simp only at h
          simp only [if_pos h, List.length_append, List.length_singleton]
          omega
      · split
        · split
          · assumption
          · exact h2
        · exact hg.1
      · split
        · split <;> exact h3
        · rename_i hl
          rw [if_neg hl] at h
          exact hg.2.2 h
      · split
        · split
          · intro x hx
            simp at hx
            subst hx
            exact getB_lt hb _ _
          · simp
        · rename_i hl
          rw [if_neg hl] at h
          simp only at h
          intro x hx
          simp only [if_pos h, List.mem_append, List.mem_singleton] at hx
          rcases hx with hx | rfl
          · exact h4 x hx
          · exact Nat.xor_lt_two_pow hg.2.1 hlast
    · have : gR bs (n + 1) = gR bs n := gR_stop (by omega) h0
      rw [this] at h
      exact absurd h h0
def dec09 (l : List Nat) (n : Nat) : List Nat × Int :=
  if (gR (unb l) n).e ≠ 0 then ([], (gR (unb l) n).e) else if enc09 (gR (unb l) n).o = l then ((gR (unb l) n).o, 0) else ([], 3)
theorem enc09_byte (xs : List Nat) : ∀ x ∈ enc09 xs, x < 256 := pk_byte _ (gF_bit xs)
end Go.Ck

set_option linter.unusedVariables false
/-! Any way, read. -/
namespace Go.Ck
def zr (a z : Int) : Int := if a = -1 then -1 else z
/-- The reference's reading, between two rounds. -/
structure RQ where
  i : Nat
  o : List Nat
  rest : List Nat
  bad : Int
  a : Int
  z : Int
def RQ.ok (bs : List Nat) (n : Nat) (q : RQ) : Prop := q.i ≤ n ∧ q.o.length = q.i ∧ (∀ x ∈ q.o, x < 2 ^ 64) ∧ (gR bs q.i).e = q.bad ∧
  (q.bad = 0 → q.o = (gR bs q.i).o ∧ q.rest = bs.drop (gR bs q.i).k ∧ q.a = (gR bs q.i).a ∧ q.z = zr (gR bs q.i).a (gR bs q.i).z)
theorem zr_neg {a z : Int} (h : wRd a z) : ((a = -1 ∧ z = 0) ∨ z < 0) ↔ (a < 0 ∨ zr a z < 0) := by
  unfold wRd at h; unfold zr; split <;> omega
theorem zr_pos {a z : Int} (h : 0 ≤ a) : zr a z = z := by unfold zr; rw [if_neg (by omega)]
theorem getB_drop (bs : List Nat) (k n : Nat) : binN ((bs.drop k).take n) = getB bs k n := rfl
/-- n patterns out of bytes, some way. -/
def rd11 (l : List Nat) (n t : Nat) : List Nat × Int :=
  if t = 2 then dec10 l n else if t = 3 then dec09 l n
  else if l.length < 8 * (if t = 1 then 1 else n) then ([], 2) else if l.length ≠ 8 * (if t = 1 then 1 else n) then ([], 3)
  else (if t = 1 then List.replicate n (beN (l.take 8)) else dic l n, 0)
def dec11 (l : List Nat) (n : Int) : List Nat × Int :=
  if n < 0 ∨ 65536 < n then ([], 1) else if l = [] then ([], 2) else if 4 ≤ l.headD 0 then ([], 3)
  else if (rd11 l.tail n.toNat (l.headD 0)).2 ≠ 0 then ([], (rd11 l.tail n.toNat (l.headD 0)).2)
  else if (encV (rd11 l.tail n.toNat (l.headD 0)).1).1 = l then ((rd11 l.tail n.toNat (l.headD 0)).1, 0) else ([], 3)
/-- What fixed reads: the patterns, why not, what is left. -/
def fx (l : List Nat) (n : Nat) : List Nat × Int × List Nat :=
  if 8 * n ≤ l.length then (dic l n, if l.drop (8 * n) = [] then 0 else 3, l.drop (8 * n)) else ([], 2, l.drop (8 * (l.length / 8)))
def vR (l : List Nat) (n t : Nat) : List Nat × Int × List Nat :=
  if t = 0 then fx l n
  else if t = 1 then (if (fx l 1).2.1 ≠ 0 then ([], (fx l 1).2.1, (fx l 1).2.2) else (List.replicate n (beN (l.take 8)), 0, (fx l 1).2.2))
  else if t = 2 then ((dec10 l n).1, (dec10 l n).2, []) else ((dec09 l n).1, (dec09 l n).2, [])
theorem fx_err (l : List Nat) (n : Nat) : (fx l n).2.1 = if l.length < 8 * n then 2 else if l.length ≠ 8 * n then 3 else 0 := by
  unfold fx
  by_cases h : 8 * n ≤ l.length
  · rw [if_pos h]
    have h1 : ¬ l.length < 8 * n := by omega
    by_cases h2 : l.length ≤ 8 * n
    · have h3 : ¬ l.length ≠ 8 * n := by omega
      simp only [List.drop_eq_nil_iff, if_pos h2, if_neg h1, if_neg h3]
    · have h3 : l.length ≠ 8 * n := by omega
      simp only [List.drop_eq_nil_iff, if_neg h2, if_neg h1, if_pos h3]
  · rw [if_neg h, if_pos (by omega)]
theorem vR_rd {l : List Nat} {n t : Nat} (ht : t < 4) : (vR l n t).2.1 = (rd11 l n t).2 ∧ ((rd11 l n t).2 = 0 → (vR l n t).1 = (rd11 l n t).1) := by
  have hc : t = 0 ∨ t = 1 ∨ t = 2 ∨ t = 3 := by omega
  rcases hc with rfl | rfl | rfl | rfl
  · have e := fx_err l n
    simp only [vR, rd11, if_true, Nat.reduceEqDiff, if_false] at *
    constructor
    · rw [e]; split
      · rfl
      · split <;> rfl
    · split
      · intro h; simp at h
      · split
        · intro h; simp at h
        · intro _; unfold fx; rw [if_pos (by omega)]
  · have e := fx_err l 1
    simp only [vR, rd11, if_true, Nat.reduceEqDiff, if_false, Nat.one_ne_zero] at *
    rw [e]
    split
    · simp
    · split <;> simp
  · simp [vR, rd11]
  · simp [vR, rd11]
theorem dec10_lt {l : List Nat} (hb : ∀ x ∈ l, x < 256) (n : Nat) : ∀ x ∈ (dec10 l n).1, x < 2 ^ 64 := by
  unfold dec10 dec10b
  split
  · simp
  split
  · simp
  split
  · simp
  split
  · simp
  split
  · simp
  split
  · exact pats_lt _ _ _ (fun x hx => hb x (List.mem_of_mem_drop hx))
  · simp
theorem dec09_lt (l : List Nat) (n : Nat) : ∀ x ∈ (dec09 l n).1, x < 2 ^ 64 := by
  unfold dec09
  split
  · simp
  · rename_i h
    split
    · exact (gR_ok (unb_bit l) n (by simpa using h)).lt
    · simp
theorem beN8_lt {l : List Nat} (h : ∀ x ∈ l, x < 256) : beN (l.take 8) < 2 ^ 64 := be8_lt l h
theorem rd11_lt {l : List Nat} (hb : ∀ x ∈ l, x < 256) (n t : Nat) : ∀ x ∈ (rd11 l n t).1, x < 2 ^ 64 := by
  unfold rd11
  by_cases h2 : t = 2
  · rw [if_pos h2]; exact dec10_lt hb n
  rw [if_neg h2]
  by_cases h3 : t = 3
  · rw [if_pos h3]; exact dec09_lt l n
  rw [if_neg h3]
  generalize 8 * (if t = 1 then 1 else n) = m
  by_cases h4 : l.length < m
  · rw [if_pos h4]; intro x hx; cases hx
  rw [if_neg h4]
  by_cases h5 : l.length ≠ m
  · rw [if_pos h5]; intro x hx; cases hx
  rw [if_neg h5]
  by_cases h1 : t = 1
  · rw [if_pos h1]
    intro x hx
    rw [List.eq_of_mem_replicate hx]
    exact be8_lt l hb
  · rw [if_neg h1]
    exact dic_lt l n hb
theorem encP_byte (xs : List Nat) : ∀ x ∈ encP xs, x < 256 := by
  intro x hx
  simp only [encP, List.mem_flatMap] at hx
  obtain ⟨y, _, hx⟩ := hx
  exact beB_byte _ _ x hx
theorem wayS_byte (xs : List Nat) (w : Int) : ∀ x ∈ (wayS xs w).1, x < 256 := by
  unfold wayS
  split
  · simp
  split
  · simp
  split
  · exact enc10_byte xs
  split
  · exact enc09_byte xs
  split
  · exact encP_byte xs
  split
  · simp
  · exact encP_byte _
theorem bestB_byte (xs : List Nat) (n : Nat) : ∀ x ∈ (bestB xs n).2, x < 256 := by
  induction n with
  | zero => rw [bestB_zero]; exact encP_byte xs
  | succ n ih =>
    rw [bestB_succ, stepB]
    split
    · exact wayS_byte xs _
    · exact ih
theorem encV_byte (xs : List Nat) : ∀ x ∈ (encV xs).1, x < 256 := by
  unfold encV
  split
  · simp
  · intro x hx
    rcases List.mem_cons.1 hx with rfl | hx
    · have := bestB_tag xs 3; omega
    · exact bestB_byte xs 3 x hx
theorem dec11_arg {l : List Nat} {n : Int} (h : n < 0 ∨ 65536 < n) : dec11 l n = ([], 1) := by rw [dec11, if_pos h]
theorem dec11_nil {n : Int} (h : ¬ (n < 0 ∨ 65536 < n)) : dec11 [] n = ([], 2) := by rw [dec11, if_neg h]; rfl
theorem dec11_cons (t : Nat) (r : List Nat) {n : Nat} (h : ¬ ((n : Int) < 0 ∨ 65536 < (n : Int))) : dec11 (t :: r) n = if 4 ≤ t then ([], 3) else if (rd11 r n t).2 ≠ 0 then ([], (rd11 r n t).2)
    else if (encV (rd11 r n t).1).1 = t :: r then ((rd11 r n t).1, 0) else ([], 3) := by
  rw [dec11, if_neg h, if_neg (by simp)]; rfl
theorem encV_len (xs : List Nat) : (encV xs).1.length ≤ 8 * xs.length + 1 := by
  unfold encV
  split
  · simp
  · have := bestB_le xs 3; simp only [List.length_cons]; omega
theorem encV_room (xs : List Nat) : (encV xs).1.length ≤ room := by
  unfold encV
  split
  · simp
  · rename_i h
    have := bestB_le xs 3; have : room = 140737488355328 := rfl; simp only [List.length_cons]; omega
end Go.Ck

set_option linter.unusedVariables false
/-! How long the ways are. -/
namespace Go.Ck
theorem awake_enc : encV [5, 5, 5] = ([1, 0, 0, 0, 0, 0, 0, 0, 5], 0) := by decide +kernel
theorem awake_dec : dec11 [1, 0, 0, 0, 0, 0, 0, 0, 5] 3 = ([5, 5, 5], 0) := by decide +kernel
theorem enc10_len (xs : List Nat) : (enc10 xs).length = (leb (dd xs).length).length + 8 * (dd xs).length + (wd (dd xs).length * xs.length + 7) / 8 := by
  rw [enc10, head10, List.length_append, List.length_append, be8_len, pk_len, bits10_len]
theorem enc09_len (xs : List Nat) : (enc09 xs).length = ((gF xs).1.length + 7) / 8 := pk_len _
theorem wayS_room (xs : List Nat) (w : Int) : (wayS xs w).1.length ≤ room := by
  have hr : room = 140737488355328 := rfl
  unfold wayS
  split
  · simp
  split
  · simp
  rename_i hl
  have hd := dd_len xs
  split
  · simp only
    rw [enc10_len]
    have h1 := leb_len10 (v := (dd xs).length) (by omega)
    have h2 := wd_le (n := (dd xs).length) (by omega)
    have h3 : wd (dd xs).length * xs.length ≤ 16 * 65536 := Nat.mul_le_mul h2 (by omega)
    omega
  split
  · simp only
    rw [enc09_len]
    have := gF_len xs
    omega
  split
  · simp only
    rw [encP_len]; omega
  split
  · simp
  · simp only
    rw [encP_len]; simp; omega
/-- As many as asked for. -/
theorem dec10_n (l : List Nat) (n : Nat) (h : (dec10 l n).2 = 0) : (dec10 l n).1.length = n := by
  unfold dec10 dec10b at *
  split at h <;> rename_i h1
  · exact absurd h h1
  rw [if_neg h1]
  split at h <;> rename_i h2
  · cases h
  rw [if_neg h2]
  split at h <;> rename_i h3
  · cases h
  rw [if_neg h3]
  split at h <;> rename_i h4
  · cases h
  rw [if_neg h4]
  split at h <;> rename_i h5
  · cases h
  rw [if_neg h5]
  split at h <;> rename_i h6
  · rw [if_pos h6]; exact pats_len _ _ _
  · cases h
theorem dec09_n (l : List Nat) (n : Nat) (h : (dec09 l n).2 = 0) : (dec09 l n).1.length = n := by
  unfold dec09 at *
  split at h <;> rename_i h1
  · exact absurd h h1
  rw [if_neg h1]
  split at h <;> rename_i h2
  · rw [if_pos h2]; exact (gR_ok (unb_bit l) n (by simpa using h1)).len
  · cases h
theorem rd11_n (l : List Nat) (n t : Nat) (h : (rd11 l n t).2 = 0) : (rd11 l n t).1.length = n := by
  unfold rd11 at *
  by_cases h2 : t = 2
  · rw [if_pos h2] at h ⊢; exact dec10_n l n h
  rw [if_neg h2] at h ⊢
  by_cases h3 : t = 3
  · rw [if_pos h3] at h ⊢; exact dec09_n l n h
  rw [if_neg h3] at h ⊢
  generalize 8 * (if t = 1 then 1 else n) = m at *
  by_cases h4 : l.length < m
  · rw [if_pos h4] at h; cases h
  rw [if_neg h4] at h ⊢
  by_cases h5 : l.length ≠ m
  · rw [if_pos h5] at h; cases h
  rw [if_neg h5]
  by_cases h1 : t = 1
  · simp [h1]
  · simp [h1, dic_len]
/-- What a decoding that went well tells. -/
theorem dec11_ok {l : List Nat} {n : Int} (h : (dec11 l n).2 = 0) : 0 ≤ n ∧ n ≤ 65536 ∧ ∃ t r, l = t :: r ∧ t < 4 ∧ (rd11 r n.toNat t).2 = 0 ∧ (dec11 l n).1 = (rd11 r n.toNat t).1 ∧ (encV (dec11 l n).1).1 = l := by
  by_cases hn : n < 0 ∨ 65536 < n
  · rw [dec11_arg hn] at h; cases h
  refine ⟨by omega, by omega, ?_⟩
  obtain ⟨n, rfl⟩ : ∃ m : Nat, n = m := ⟨n.toNat, by omega⟩
  cases l with
  | nil => rw [dec11_nil hn] at h; cases h
  | cons t r =>
    rw [dec11_cons t r hn] at h ⊢
    rw [Int.toNat_natCast]
    split at h <;> rename_i h1
    · cases h
    rw [if_neg h1]
    split at h <;> rename_i h2
    · exact absurd h h2
    rw [if_neg h2]
    split at h <;> rename_i h3
    · rw [if_pos h3]
      exact ⟨t, r, rfl, by omega, by simpa using h2, rfl, h3⟩
    · cases h
theorem dec11_n {l : List Nat} {n : Int} (h : (dec11 l n).2 = 0) : (dec11 l n).1.length = n.toNat := by
  obtain ⟨_, _, t, r, rfl, _, h1, h2, _⟩ := dec11_ok h
  rw [h2, rd11_n r _ t h1]
theorem dec11_bad {l : List Nat} {n : Int} (h : (dec11 l n).2 ≠ 0) : (dec11 l n).1 = [] := by
  by_cases hn : n < 0 ∨ 65536 < n
  · rw [dec11_arg hn]
  obtain ⟨n, rfl⟩ : ∃ m : Nat, n = m := ⟨n.toNat, by omega⟩
  cases l with
  | nil => rw [dec11_nil hn]
  | cons t r =>
    rw [dec11_cons t r hn] at h ⊢
    split at h <;> rename_i h1
    · rw [if_pos h1]
    rw [if_neg h1]
    split at h <;> rename_i h2
    · rw [if_pos h2]
    rw [if_neg h2]
    split at h <;> rename_i h3
    · exact absurd rfl h
    · rw [if_neg h3]
theorem dec11_room (l : List Nat) (n : Int) : (dec11 l n).1.length ≤ room := by
  have hr : room = 140737488355328 := rfl
  by_cases h : (dec11 l n).2 = 0
  · have := dec11_n h
    have := dec11_ok h
    omega
  · rw [dec11_bad h]; simp
end Go.Ck
