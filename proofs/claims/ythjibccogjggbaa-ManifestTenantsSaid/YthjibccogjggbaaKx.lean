/- What is proved here: parts of the proofs of this seat's statements (a verified evaluator for calls over pure values, its laws, and contracts of functions). No condition. -/
import Derived.Test.YthjibccogjggbaaKw
import Derived.Test.YthjibccogjggbaaKt
import Derived.Test.YthjibccogjggbaaKm
set_option linter.all false
set_option linter.unusedVariables false
set_option maxRecDepth 100000
set_option maxHeartbeats 400000
namespace Go.Ck
open Go.Proofs
theorem clone_fn (l : List Nat) (h0 : 0 < l.length) (hl : l.length ≤ room) : Fn Try.prog 48 [] [.pv (.sl 1 (bytes l))] (fun rs H' => rs = [.own 5 (bytes l)] ∧ H' = []) := by
  refine Fn.of_body (fn := Try.f48) (n := 8) (res := [.tmp 2]) (by kernel_rfl) rfl rfl rfl rfl rfl (fun C => ?_)
  refine AW.go ?_
  refine AW.eqNil (.inl rfl) rfl rfl rfl tk_23 rfl rfl rfl rfl (fun b hb => ?_)
  cases b with
  | true =>
    have : bytes l = [] := hb rfl
    have h2 : (bytes l).length = 0 := by rw [this]; rfl
    rw [bytes_length] at h2
    omega
  | false =>
    have r1 : (l.length ≤ room) = True := eq_true hl
    refine AW.go ?_
    refine AW.condF rfl ?_
    refine AW.go ?_ (by simp only [go_sem, ↓reduceIte, List.length_nil, Nat.zero_add, List.nil_append, r1] <;> rfl)
    exact AW.finE (.move rfl .nil) rfl
theorem sign_fn (key : List Nat) (m : Man) (hv : m.v < 2 ^ 64) (hl : m.es.length < 2 ^ 29) (hkb : ∀ x ∈ key, x < 256) (hkl : key.length < 2 ^ 50) : Fn Try.prog 17 [] [.pv (.sl 1 (bytes key)), .pv (manP m)] (fun rs H' => rs = [.own 5 (bytes (signM key m).1), .pv (.int .i64 (signM key m).2)] ∧ H' = []) := by
  refine Fn.of_body (fn := Try.f17) (n := 31) (res := [.tmp 4, .tmp 5]) (by kernel_rfl) rfl rfl rfl rfl rfl (fun C => ?_)
  have hroom : room = 140737488355328 := rfl
  have hm : manP m = .agg [.int .u64 (m.v : Int), .sl 1 (bytes m.prev), .sl 2 (entsP m.es), .sl 1 (bytes m.root)] := rfl
  have hef := manEnc_fn m hv hl
  have hel := encM_len m hv
  have hep := encM_pos m hv
  have hkb2 := dk_lt key 4 []
  have hkl2 := dk_len key 4 []
  rw [hm] at hef ⊢
  unfold signM
  generalize encM m = E at *
  obtain ⟨en, ee⟩ := E
  simp only at hef hel hep
  refine AW.go ?_
  refine AW.callE (fun _ => 0) (keyM_fn key hkb hkl) (.pv _ .nil) ?_
  generalize dk key 4 [] = D at *
  obtain ⟨k, ke⟩ := D
  simp only at hkb2 hkl2
  simp only
  refine AW.go ?_
  refine AW.cond rfl (fun hc => ?_) (fun hc => ?_)
  · have hk0 : ke ≠ 0 := by rintro rfl; exact absurd hc (by decide)
    rw [if_pos hk0]
    refine AW.go ?_
    refine AW.finE (.move rfl (.pv _ .nil)) rfl
  have hk0 : ke = 0 := by
    have h2 : ((ke : Int) == 0) = true := by simpa [bne] using hc
    have := eq_of_beq h2
    omega
  rw [if_neg (by simp [hk0])]
  refine AW.go ?_
  refine AW.callE (fun _ => 0) hef (.pv _ .nil) ?_
  refine AW.go ?_
  refine AW.cond rfl (fun hc => ?_) (fun hc => ?_)
  · have he0 : ee ≠ 0 := by rintro rfl; exact absurd hc (by decide)
    rw [if_pos he0]
    refine AW.go ?_
    refine AW.finE (.move rfl (.pv _ .nil)) rfl
  have he0 : ee = 0 := by
    have h2 : ((ee : Int) == 0) = true := by simpa [bne] using hc
    have := eq_of_beq h2
    omega
  rw [if_neg (by simp [he0])]
  have hpos := hep he0
  refine AW.freeze (p := .slot 8) (by simp only [go_sem, ↓reduceIte, freeze, freezeO] <;> rfl) ?_
  refine AW.go ?_
  refine AW.callE (fun _ => 0) (clone_fn en hpos (by omega)) (.pv _ .nil) ?_
  refine AW.go ?_
  refine AW.callE (fun _ => 0) (mac_fn k en hkb2 (by omega) (by omega)) (.pv _ (.pv _ .nil)) ?_
  have hml := hmac_len k en
  have r1 : (en.length + (hmac k en).length ≤ room) = True := eq_true (by omega)
  refine AW.go ?_ (by simp only [go_sem, ↓reduceIte, r1] <;> rfl)
  refine AW.finE (.move rfl (.pv _ .nil)) rfl
end Go.Ck

set_option linter.unusedVariables false
namespace Go.Ck
def z32 : List Nat := List.replicate 32 0
theorem z32_byte : ∀ x ∈ z32, x < 256 := by decide
def awM : Man := ⟨1, z32, [], z32⟩
theorem dirS_nil : dirS [] = [] := by simp [dirS, nmS, sortS]
theorem awM_wrong : wrongM awM = 0 := by decide
theorem awM_body : bodyM awM = [67, 83, 75, 49] ++ beB 1 8 ++ z32 ++ [0] ++ [0] ++ z32 := by
  unfold bodyM headM awM
  have h0 : leb ([] : List Ent).length = [0] := by show leb 0 = [0]; rw [leb]; simp
  have h1 : leb ([] : List (List UInt8)).length = [0] := by show leb 0 = [0]; rw [leb]; simp
  simp only [dirS_nil]
  rw [h0, h1]
  rfl
theorem awM_enc : encM awM = ([67, 83, 75, 49] ++ beB 1 8 ++ z32 ++ [0] ++ [0] ++ z32, 0) := by
  unfold encM; rw [if_neg (by rw [awM_wrong]; simp), awM_body]
theorem awM_dec : decM ([67, 83, 75, 49] ++ beB 1 8 ++ z32 ++ [0] ++ [0] ++ z32) = (awM, 0) := by
  have e1 : decM ([67, 83, 75, 49] ++ beB 1 8 ++ z32 ++ [0] ++ [0] ++ z32) = decM1 (beB 1 8 ++ z32 ++ [0] ++ [0] ++ z32) := rfl
  have e2 : decM1 (beB 1 8 ++ z32 ++ [0] ++ [0] ++ z32) = decM2 1 (z32 ++ [0] ++ [0] ++ z32) := rfl
  have e3 : decM2 1 (z32 ++ [0] ++ [0] ++ z32) = decM3 1 z32 ([0] ++ [0] ++ z32) := rfl
  have e4 : decM3 1 z32 ([0] ++ [0] ++ z32) = decM4 1 z32 [] ([0] ++ z32) := rfl
  have e5 : decM4 1 z32 [] ([0] ++ z32) = decM5 1 z32 [] [] z32 := rfl
  rw [e1, e2, e3, e4, e5]
  unfold decM5
  rw [dirS_nil]
  rfl
theorem awM_sign : (signM z32 awM).2 = 0 ∧ (signM z32 awM).1.length = 110 := by
  have h : (dk z32 4 []).2 = 0 := rfl
  unfold signM
  rw [h, awM_enc]
  simp only [ne_eq, not_true_eq_false, if_false]
  refine ⟨trivial, ?_⟩
  rw [List.length_append, hmac_len]
  rfl
/-- What the laws look at. -/
def fewM (m : Man) : Bool := decide (m.es.length ≤ 100 ∧ m.prev.length ≤ 300 ∧ m.root.length ≤ 300 ∧ ∀ e ∈ m.es, e.1.length ≤ 200)
end Go.Ck

set_option linter.unusedVariables false
set_option maxRecDepth 100000
set_option maxHeartbeats 400000
namespace Go.Ck
open Go.Proofs
theorem few_fn (m : Man) (hl : m.es.length < 2 ^ 63) : Fn Try.prog 10 [] [.pv (manP m)] (fun rs H' => rs = [.pv (.bool (fewM m))] ∧ H' = []) := by
  refine Fn.of_body (fn := Try.f10) (n := 35) (res := [.tmp 2]) (by kernel_rfl) rfl rfl rfl rfl rfl (fun C => ?_)
  obtain ⟨v, prev, es, root⟩ := m
  have hm : manP ⟨v, prev, es, root⟩ = .agg [.int .u64 (v : Int), .sl 1 (bytes prev), .sl 2 (entsP es), .sl 1 (bytes root)] := rfl
  rw [hm]
  unfold fewM
  simp only at *
  obtain ⟨b1, hb1⟩ : ∃ b, b = decide (100 < es.length) := ⟨_, rfl⟩
  obtain ⟨b2, hb2⟩ : ∃ b, b = decide (300 < prev.length) := ⟨_, rfl⟩
  obtain ⟨b3, hb3⟩ : ∃ b, b = decide (300 < root.length) := ⟨_, rfl⟩
  have d1 : decide ((es.length : Int) > 100) = b1 := by rw [hb1, Bool.eq_iff_iff]; simp; omega
  have d2 : decide ((prev.length : Int) > 300) = b2 := by rw [hb2, Bool.eq_iff_iff]; simp; omega
  have d3 : decide ((root.length : Int) > 300) = b3 := by rw [hb3, Bool.eq_iff_iff]; simp; omega
  have d1' := hb1.symm
  have d2' := hb2.symm
  have d3' := hb3.symm
  by_cases hB : (b1 || (b2 || b3)) = true
  · have hno : ¬ (es.length ≤ 100 ∧ prev.length ≤ 300 ∧ root.length ≤ 300 ∧ ∀ e ∈ es, e.1.length ≤ 200) := by
      rintro ⟨h1, h2, h3, _⟩
      rw [hb1, hb2, hb3] at hB
      simp at hB
      omega
    rw [decide_eq_false hno]
    clear hb1 hb2 hb3 hno
    cases b1 with
    | true =>
      refine AW.gg ?_ (by simp only [go_sem, ↓reduceIte, d1, d2, d3, d1', d2', d3'] <;> rfl)
      refine AW.condT rfl ?_
      refine AW.go ?_
      exact AW.finE (.pv _ .nil) rfl
    | false =>
      cases b2 with
      | true =>
        refine AW.gg ?_ (by simp only [go_sem, ↓reduceIte, d1, d2, d3, d1', d2', d3'] <;> rfl)
        refine AW.condT rfl ?_
        refine AW.go ?_
        exact AW.finE (.pv _ .nil) rfl
      | false =>
        cases b3 with
        | true =>
          refine AW.gg ?_ (by simp only [go_sem, ↓reduceIte, d1, d2, d3, d1', d2', d3'] <;> rfl)
          refine AW.condT rfl ?_
          refine AW.go ?_
          exact AW.finE (.pv _ .nil) rfl
        | false => cases hB
  have hB2 : (b1 || (b2 || b3)) = false := by simpa only [Bool.not_eq_true] using hB
  rw [Bool.or_eq_false_iff, Bool.or_eq_false_iff] at hB2
  obtain ⟨hc1, hc2, hc3⟩ := hB2
  rw [hc1] at d1 d1' hb1
  rw [hc2] at d2 d2' hb2
  rw [hc3] at d3 d3' hb3
  have f1 := of_decide_eq_false d1'
  have f2 := of_decide_eq_false d2'
  have f3 := of_decide_eq_false d3'
  refine AW.gg ?_ (by simp only [go_sem, ↓reduceIte, d1, d2, d3, d1', d2', d3'] <;> rfl)
  refine AW.condF rfl ?_
  refine AW.go ?_
  refine AW.loopS (fun i : Nat => ⟨35, [(3, .pv (.int .i64 i)), (1, .ptr 1 0)], [(1, .cells 26 [.pv (.int .u64 (v : Int)), .pv (.sl 1 (bytes prev)), .pv (.sl 2 (entsP es)), .pv (.sl 1 (bytes root))])]⟩) (fun i => i ≤ es.length ∧ ∀ e ∈ es.take i, e.1.length ≤ 200) (fun i => es.length - i) [3, 1] [1] 0 ⟨Nat.zero_le _, by simp⟩ ?_
  rintro i ⟨hi, hn⟩ K hK
  refine AW.go ?_
  refine AW.cond rfl (fun hc => ?_) (fun hc => ?_)
  · have hlt : i < es.length := by have := of_decide_eq_true hc; omega
    obtain ⟨e, he⟩ : ∃ e, es[i]? = some e := ⟨es[i], List.getElem?_eq_getElem hlt⟩
    have hg := entsP_get he
    have e1 : IntKind.i64.wrap ((i : Int) + 1) = ((i + 1 : Nat) : Int) := wrap_i64_succ (by omega)
    by_cases hL : 200 < e.1.length
    · have d7 : decide (200 < e.1.length) = true := decide_eq_true hL
      have d7' : decide ((e.1.length : Int) > 200) = true := decide_eq_true (by omega)
      rw [decide_eq_false (fun h => by have := h.2.2.2 e (List.mem_of_getElem? he); omega)]
      refine AW.gg ?_ (by simp only [go_sem, ↓reduceIte, hg, d7, d7'] <;> rfl)
      refine AW.condT rfl ?_
      refine AW.go ?_
      exact AW.finE (.pv _ .nil) rfl
    · have d7 : decide (200 < e.1.length) = false := decide_eq_false hL
      have d7' : decide ((e.1.length : Int) > 200) = false := decide_eq_false (by omega)
      refine AW.gg ?_ (by simp only [go_sem, ↓reduceIte, hg, d7, d7'] <;> rfl)
      refine AW.condF rfl ?_
      refine AW.go ?_ (by simp only [go_sem, ↓reduceIte, e1] <;> rfl)
      exact AW.again hK (i + 1) (by exact ⟨by omega, by rw [List.take_add_one, he]; intro x hx; rcases List.mem_append.1 hx with hx | hx; exact hn x hx; simp at hx; subst hx; omega⟩) (by omega)
  have hge : i = es.length := by have := of_decide_eq_false hc; omega
  subst hge
  rw [List.take_length] at hn
  rw [decide_eq_true ⟨by omega, by omega, by omega, hn⟩]
  refine AW.go ?_
  exact AW.finE (.pv _ .nil) rfl
theorem awake_fn : Fn Try.prog 9 [] [] (fun rs H' => rs = [.pv (.bool true)] ∧ H' = []) := by
  refine Fn.of_body (fn := Try.f9) (n := 64) (res := [.tmp 0]) (by kernel_rfl) rfl rfl rfl rfl rfl (fun C => ?_)
  have m32 : (32 ≤ maxLen) = True := eq_true (le_maxLen 32)
  refine AW.go ?_
  refine AW.any0 mixed ?_
  refine via (T := ?Tend) (fun hT => ?_) ?_; rotate_left
  · skip
    refine AW.branch (fuel := 4) (rs := [0, 1, 3]) ?_ (by decide +kernel) (by simp)
    intro j hj
    simp only [List.mem_cons, List.not_mem_nil, or_false] at hj
    rcases hj with rfl | rfl | rfl
    · skip
      refine AW.gg ?_ (by simp only [go_sem, ↓reduceIte, m32] <;> rfl)
      refine AW.branch (fuel := 3) (rs := [1, 3]) ?_ (by decide +kernel) (by simp)
      intro j hj
      simp only [List.mem_cons, List.not_mem_nil, or_false] at hj
      rcases hj with rfl | rfl
      · skip
        refine AW.gg ?_ (by simp only [go_sem, ↓reduceIte, m32] <;> rfl)
        refine AW.branch (fuel := 2) (rs := [2, 3]) ?_ (by decide +kernel) (by simp)
        intro j hj
        simp only [List.mem_cons, List.not_mem_nil, or_false] at hj
        rcases hj with rfl | rfl
        · skip
          refine AW.gg ?_ (by simp only [go_sem, ↓reduceIte, m32] <;> rfl)
          refine AW.seqs (fuel := 0) (listed' := #[true, true, true, true, true]) [3, 4] ?_ (by decide +kernel)
          refine AW.gg ?_ (by simp only [go_sem, ↓reduceIte, m32] <;> rfl)
          refine AW.anyDone (by decide +kernel) ?_
          refine AW.keepB [1] [1] (s' := ⟨64, [(1, .ptr 1 0)], [(1, .cells 26 [.pv (.int .u64 1), .pv (.sl 1 (bytes z32)), .nils, .pv (.sl 1 (bytes z32))])]⟩) (by simp only [go_sem, ↓reduceIte]) (by simp only [go_sem, ↓reduceIte] <;> rfl) ?_
          exact hT ()
        · skip
          refine AW.gg ?_ (by simp only [go_sem, ↓reduceIte, m32] <;> rfl)
          refine AW.seqs (fuel := 0) (listed' := #[true, true, true, true, true]) [2, 4] ?_ (by decide +kernel)
          refine AW.gg ?_ (by simp only [go_sem, ↓reduceIte, m32] <;> rfl)
          refine AW.anyDone (by decide +kernel) ?_
          refine AW.keepB [1] [1] (s' := ⟨64, [(1, .ptr 1 0)], [(1, .cells 26 [.pv (.int .u64 1), .pv (.sl 1 (bytes z32)), .nils, .pv (.sl 1 (bytes z32))])]⟩) (by simp only [go_sem, ↓reduceIte]) (by simp only [go_sem, ↓reduceIte] <;> rfl) ?_
          exact hT ()
      · skip
        refine AW.gg ?_ (by simp only [go_sem, ↓reduceIte, m32] <;> rfl)
        refine AW.seqs (fuel := 0) (listed' := #[true, true, true, true, true]) [1, 2, 4] ?_ (by decide +kernel)
        refine AW.gg ?_ (by simp only [go_sem, ↓reduceIte, m32] <;> rfl)
        refine AW.anyDone (by decide +kernel) ?_
        refine AW.keepB [1] [1] (s' := ⟨64, [(1, .ptr 1 0)], [(1, .cells 26 [.pv (.int .u64 1), .pv (.sl 1 (bytes z32)), .nils, .pv (.sl 1 (bytes z32))])]⟩) (by simp only [go_sem, ↓reduceIte]) (by simp only [go_sem, ↓reduceIte] <;> rfl) ?_
        exact hT ()
    · skip
      refine AW.gg ?_ (by simp only [go_sem, ↓reduceIte, m32] <;> rfl)
      refine AW.branch (fuel := 3) (rs := [0, 3]) ?_ (by decide +kernel) (by simp)
      intro j hj
      simp only [List.mem_cons, List.not_mem_nil, or_false] at hj
      rcases hj with rfl | rfl
      · skip
        refine AW.gg ?_ (by simp only [go_sem, ↓reduceIte, m32] <;> rfl)
        refine AW.branch (fuel := 2) (rs := [2, 3]) ?_ (by decide +kernel) (by simp)
        intro j hj
        simp only [List.mem_cons, List.not_mem_nil, or_false] at hj
        rcases hj with rfl | rfl
        · skip
          refine AW.gg ?_ (by simp only [go_sem, ↓reduceIte, m32] <;> rfl)
          refine AW.seqs (fuel := 0) (listed' := #[true, true, true, true, true]) [3, 4] ?_ (by decide +kernel)
          refine AW.gg ?_ (by simp only [go_sem, ↓reduceIte, m32] <;> rfl)
          refine AW.anyDone (by decide +kernel) ?_
          refine AW.keepB [1] [1] (s' := ⟨64, [(1, .ptr 1 0)], [(1, .cells 26 [.pv (.int .u64 1), .pv (.sl 1 (bytes z32)), .nils, .pv (.sl 1 (bytes z32))])]⟩) (by simp only [go_sem, ↓reduceIte]) (by simp only [go_sem, ↓reduceIte] <;> rfl) ?_
          exact hT ()
        · skip
          refine AW.gg ?_ (by simp only [go_sem, ↓reduceIte, m32] <;> rfl)
          refine AW.seqs (fuel := 0) (listed' := #[true, true, true, true, true]) [2, 4] ?_ (by decide +kernel)
          refine AW.gg ?_ (by simp only [go_sem, ↓reduceIte, m32] <;> rfl)
          refine AW.anyDone (by decide +kernel) ?_
          refine AW.keepB [1] [1] (s' := ⟨64, [(1, .ptr 1 0)], [(1, .cells 26 [.pv (.int .u64 1), .pv (.sl 1 (bytes z32)), .nils, .pv (.sl 1 (bytes z32))])]⟩) (by simp only [go_sem, ↓reduceIte]) (by simp only [go_sem, ↓reduceIte] <;> rfl) ?_
          exact hT ()
      · skip
        refine AW.gg ?_ (by simp only [go_sem, ↓reduceIte, m32] <;> rfl)
        refine AW.seqs (fuel := 0) (listed' := #[true, true, true, true, true]) [0, 2, 4] ?_ (by decide +kernel)
        refine AW.gg ?_ (by simp only [go_sem, ↓reduceIte, m32] <;> rfl)
        refine AW.anyDone (by decide +kernel) ?_
        refine AW.keepB [1] [1] (s' := ⟨64, [(1, .ptr 1 0)], [(1, .cells 26 [.pv (.int .u64 1), .pv (.sl 1 (bytes z32)), .nils, .pv (.sl 1 (bytes z32))])]⟩) (by simp only [go_sem, ↓reduceIte]) (by simp only [go_sem, ↓reduceIte] <;> rfl) ?_
        exact hT ()
    · skip
      refine AW.gg ?_ (by simp only [go_sem, ↓reduceIte, m32] <;> rfl)
      refine AW.branch (fuel := 3) (rs := [0, 1]) ?_ (by decide +kernel) (by simp)
      intro j hj
      simp only [List.mem_cons, List.not_mem_nil, or_false] at hj
      rcases hj with rfl | rfl
      · skip
        refine AW.gg ?_ (by simp only [go_sem, ↓reduceIte, m32] <;> rfl)
        refine AW.seqs (fuel := 0) (listed' := #[true, true, true, true, true]) [1, 2, 4] ?_ (by decide +kernel)
        refine AW.gg ?_ (by simp only [go_sem, ↓reduceIte, m32] <;> rfl)
        refine AW.anyDone (by decide +kernel) ?_
        refine AW.keepB [1] [1] (s' := ⟨64, [(1, .ptr 1 0)], [(1, .cells 26 [.pv (.int .u64 1), .pv (.sl 1 (bytes z32)), .nils, .pv (.sl 1 (bytes z32))])]⟩) (by simp only [go_sem, ↓reduceIte]) (by simp only [go_sem, ↓reduceIte] <;> rfl) ?_
        exact hT ()
      · skip
        refine AW.gg ?_ (by simp only [go_sem, ↓reduceIte, m32] <;> rfl)
        refine AW.seqs (fuel := 0) (listed' := #[true, true, true, true, true]) [0, 2, 4] ?_ (by decide +kernel)
        refine AW.gg ?_ (by simp only [go_sem, ↓reduceIte, m32] <;> rfl)
        refine AW.anyDone (by decide +kernel) ?_
        refine AW.keepB [1] [1] (s' := ⟨64, [(1, .ptr 1 0)], [(1, .cells 26 [.pv (.int .u64 1), .pv (.sl 1 (bytes z32)), .nils, .pv (.sl 1 (bytes z32))])]⟩) (by simp only [go_sem, ↓reduceIte]) (by simp only [go_sem, ↓reduceIte] <;> rfl) ?_
        exact hT ()
  have hM : manP awM = .agg [.int .u64 1, .sl 1 (bytes z32), .sl 2 [], .sl 1 (bytes z32)] := rfl
  have hef := manEnc_fn awM (by decide) (by decide)
  have hE1 := awM_enc
  have hE2 := awM_dec
  obtain ⟨hS1, hS2⟩ := awM_sign
  have hsf := sign_fn z32 awM (by decide) (by decide) z32_byte (by decide)
  have hE3 : ([67, 83, 75, 49] ++ beB 1 8 ++ z32 ++ [0] ++ [0] ++ z32 : List Nat).length = 78 := rfl
  have hE4 : (bytes ([67, 83, 75, 49] ++ beB 1 8 ++ z32 ++ [0] ++ [0] ++ z32))[0]? = some (.int .u8 67) := rfl
  have hE5 : (bytes ([67, 83, 75, 49] ++ beB 1 8 ++ z32 ++ [0] ++ [0] ++ z32))[11]? = some (.int .u8 1) := rfl
  have hE6 : ∀ x ∈ ([67, 83, 75, 49] ++ beB 1 8 ++ z32 ++ [0] ++ [0] ++ z32 : List Nat), x < 256 := by decide
  generalize [67, 83, 75, 49] ++ beB 1 8 ++ z32 ++ [0] ++ [0] ++ z32 = E at *
  have hdf := manDec_fn E (by omega) hE6
  rw [hE2, hM] at hdf
  rw [hE1, hM] at hef
  rw [hS1, hM] at hsf
  generalize (signM z32 awM).1 = S at *
  have hss := lawMSame_fn awM awM (by decide) (by decide) (by decide)
  rw [hM, sameM_self] at hss
  simp only [show ((0 : Nat) : Int) = 0 from rfl] at hdf hef
  refine AW.nilsOwnAt (.cell 1 2) 38 ?_
  refine AW.freeze (p := .cell 1 2) (by simp only [go_sem, ↓reduceIte, freeze, freezeO] <;> rfl) ?_
  refine AW.go ?_
  refine AW.callE (fun _ => 0) hef (.pv _ .nil) ?_
  refine AW.goM 9 ?_
  refine AW.freeze (p := .slot 14) (by simp only [go_sem, ↓reduceIte, freeze, freezeO] <;> rfl) ?_
  refine AW.go ?_
  refine AW.callE (fun _ => 0) hdf (.pv _ .nil) ?_
  refine AW.go ?_
  refine AW.any0 mixed ?_
  refine via (T := ?Tend2) (fun hT => ?_) ?_; rotate_left
  · skip
    refine AW.branch (fuel := 7) (rs := [0, 1]) ?_ (by decide +kernel) (by simp)
    intro j hj
    simp only [List.mem_cons, List.not_mem_nil, or_false] at hj
    rcases hj with rfl | rfl
    · skip
      refine AW.gg ?_ (by simp only [go_sem, ↓reduceIte, m32] <;> rfl)
      refine AW.seqs (fuel := 4) (listed' := #[true, true, true, true, false, false, false, false]) [1, 2, 3] ?_ (by decide +kernel)
      refine AW.gg ?_ (by simp only [go_sem, ↓reduceIte, m32] <;> rfl)
      refine AW.freeze (p := .slot 22) (by simp only [go_sem, ↓reduceIte, freeze, freezeO] <;> rfl) ?_
      refine AW.callE (fun _ => 0) hsf (.pv _ (.pv _ .nil)) ?_
      refine AW.gg ?_
      refine AW.takes (fuel := 0) [4, 5, 6, 7] ?_ (by simp only [go_sem, ↓reduceIte, m32] <;> rfl) Ends.noPanic (listed' := #[true, true, true, true, true, true, true, true]) (by decide +kernel) (by decide +kernel)
      refine AW.anyDone (by decide +kernel) ?_
      refine AW.keepB [1, 2, 3, 4, 5, 6, 7] [1, 4] (s' := ⟨64, [(1, .ptr 1 0), (2, .pv (.sl 1 (bytes E))), (3, .pv (.int .i64 0)), (4, .ptr 4 0), (5, .pv (.int .i64 0)), (6, .own 5 (bytes S)), (7, .pv (.int .i64 0))], [(1, .cells 26 [.pv (.int .u64 1), .pv (.sl 1 (bytes z32)), .pv (.sl 2 []), .pv (.sl 1 (bytes z32))]), (4, .cells 26 [.pv (.int .u64 1), .pv (.sl 1 (bytes z32)), .pv (.sl 2 []), .pv (.sl 1 (bytes z32))])]⟩) (by simp only [go_sem, ↓reduceIte]) (by simp only [go_sem, ↓reduceIte] <;> rfl) ?_
      exact hT ()
    · skip
      refine AW.gg ?_ (by simp only [go_sem, ↓reduceIte, m32] <;> rfl)
      refine AW.seqs (fuel := 4) (listed' := #[true, true, true, true, false, false, false, false]) [0, 2, 3] ?_ (by decide +kernel)
      refine AW.gg ?_ (by simp only [go_sem, ↓reduceIte, m32] <;> rfl)
      refine AW.freeze (p := .slot 22) (by simp only [go_sem, ↓reduceIte, freeze, freezeO] <;> rfl) ?_
      refine AW.callE (fun _ => 0) hsf (.pv _ (.pv _ .nil)) ?_
      refine AW.gg ?_
      refine AW.takes (fuel := 0) [4, 5, 6, 7] ?_ (by simp only [go_sem, ↓reduceIte, m32] <;> rfl) Ends.noPanic (listed' := #[true, true, true, true, true, true, true, true]) (by decide +kernel) (by decide +kernel)
      refine AW.anyDone (by decide +kernel) ?_
      refine AW.keepB [1, 2, 3, 4, 5, 6, 7] [1, 4] (s' := ⟨64, [(1, .ptr 1 0), (2, .pv (.sl 1 (bytes E))), (3, .pv (.int .i64 0)), (4, .ptr 4 0), (5, .pv (.int .i64 0)), (6, .own 5 (bytes S)), (7, .pv (.int .i64 0))], [(1, .cells 26 [.pv (.int .u64 1), .pv (.sl 1 (bytes z32)), .pv (.sl 2 []), .pv (.sl 1 (bytes z32))]), (4, .cells 26 [.pv (.int .u64 1), .pv (.sl 1 (bytes z32)), .pv (.sl 2 []), .pv (.sl 1 (bytes z32))])]⟩) (by simp only [go_sem, ↓reduceIte]) (by simp only [go_sem, ↓reduceIte] <;> rfl) ?_
      exact hT ()
  have d78 : ((E.length : Int) == 78) = true := by rw [hE3]; rfl
  have d110 : ((S.length : Int) == 110) = true := by rw [hS2]; rfl
  have l0 : (0 < E.length) = True := eq_true (by omega)
  have l11 : (11 < E.length) = True := eq_true (by omega)
  have g67 : ((67 : Int) == 67) = true := rfl
  have g1 : ((1 : Int) == 1) = true := rfl
  have g0 : ((0 : Int) == 0) = true := rfl
  refine AW.gg ?_ (by simp only [go_sem, ↓reduceIte, d78, d110, hE4, hE5, l0, l11, g67, g1, g0] <;> rfl)
  refine AW.guardT rfl rfl ?_
  refine AW.callE (fun _ => 0) hss (.pv _ (.pv _ .nil)) ?_
  refine AW.gg ?_ (by simp only [go_sem, ↓reduceIte, d110, g0] <;> rfl)
  refine AW.go ?_
  exact AW.finE (.pv _ .nil) rfl
end Go.Ck

set_option linter.unusedVariables false
set_option maxRecDepth 100000
set_option maxHeartbeats 400000
namespace Go.Ck
open Go.Proofs
theorem law21encodes_fn (m : Man) (hv : m.v < 2 ^ 64) (hl : m.es.length < 2 ^ 63) : Fn Try.prog 3 [] [.pv (manP m)] (fun rs H' => rs = [.pv (.bool true)] ∧ H' = []) := by
  refine Fn.of_body (fn := Try.f3) (n := 34) (res := [.tmp 2]) (by kernel_rfl) rfl rfl rfl rfl rfl (fun C => ?_)
  have hroom : room = 140737488355328 := rfl
  have hff := few_fn m hl
  have hE := encM_len m hv
  have hm : manP m = .agg [.int .u64 (m.v : Int), .sl 1 (bytes m.prev), .sl 2 (entsP m.es), .sl 1 (bytes m.root)] := rfl
  have hfw : fewM m = true → m.es.length ≤ 100 := fun h => by unfold fewM at h; exact (of_decide_eq_true h).1
  have hef := fun (h : fewM m = true) => manEnc_fn m hv (by have := hfw h; omega)
  have hrf := fun (h : fewM m = true) => ref21Enc_fn m hv (by have := hfw h; omega)
  rw [hm] at hff hef hrf ⊢
  generalize encM m = E at *
  obtain ⟨en, ee⟩ := E
  simp only at hE hef hrf
  refine AW.go ?_
  refine AW.callE (fun _ => 0) awake_fn .nil ?_
  refine AW.go ?_
  refine AW.callE (fun _ => 0) hff (.pv _ .nil) ?_
  cases hfb : fewM m with
  | false =>
    refine AW.go ?_
    refine AW.condT rfl ?_
    refine AW.go ?_
    exact AW.finE (.pv _ .nil) rfl
  | true =>
    refine AW.go ?_
    refine AW.condF rfl ?_
    refine AW.go ?_
    refine AW.callE (fun _ => 0) (hef hfb) (.pv _ .nil) ?_
    refine AW.go ?_
    refine AW.callE (fun _ => 0) (hrf hfb) (.pv _ .nil) ?_
    have hee : ((ee : Int) == (ee : Int)) = true := by simp
    refine AW.gg ?_ (by simp only [go_sem, ↓reduceIte, hee] <;> rfl)
    refine AW.guardT rfl rfl ?_
    refine AW.callE (fun _ => 0) (ref01Same_fn en en (by omega)) (.lend rfl co_5 (.lend rfl co_5 .nil)) ?_
    try rw [decide_eq_true (rfl : en = en)]
    refine AW.gg ?_
    refine AW.go ?_
    exact AW.finE (.pv _ .nil) rfl
end Go.Ck

set_option linter.unusedVariables false
namespace Go.Ck
def stTypes (P : Program) (t : TypeId) : Option (List TypeId) := match P.underlying t with
  | some (.struct fs) => some (fs.toList.map (·.type))
  | _ => none
section
variable {P : Program} {n : Nat} {t : TypeId} {p : PV}
theorem PT_st2 {a b : TypeId} (hu : stTypes P t = some [a, b]) (h : PT P (n + 1) t p.cells) (h1 : p.one = !isAggT P t) : ∃ ps qs, p = .agg (ps ++ qs) ∧ PT P n a ps ∧ PT P n b qs := by
  unfold stTypes at hu
  unfold isAggT at h1
  unfold PT at h
  split at hu
  · rename_i fs hus
    rw [hus] at h1 h
    simp only [Option.some.injEq] at hu
    obtain ⟨pss, e1, e2, e3⟩ := h
    have hl : fs.toList.length = 2 := by have := congrArg List.length hu; simpa using this
    match hfl : fs.toList, hl with
    | [f, g], _ =>
      rw [hfl] at hu
      simp only [List.map_cons, List.map_nil, List.cons.injEq, and_true] at hu
      have hsz : fs.size = 2 := by rw [← Array.length_toList, hfl]; rfl
      have hf : fs[0]? = some f := by rw [← Array.getElem?_toList, hfl]; rfl
      have hg : fs[1]? = some g := by rw [← Array.getElem?_toList, hfl]; rfl
      match pss, (by rw [e2, hsz] : pss.length = 2) with
      | [ps, qs], _ =>
        have k1 := (e3 0 f ps hf rfl).1
        have k2 := (e3 1 g qs hg rfl).1
        rw [hu.1] at k1
        rw [hu.2] at k2
        refine ⟨ps, qs, ?_, k1, k2⟩
        simp only [List.flatten_cons, List.flatten_nil, List.append_nil] at e1
        cases p <;> simp [PV.one] at h1
        simp only [PV.cells] at e1
        rw [e1]
  · cases hu
theorem PTc_int {k : IntKind} {ps : List PV} (hu : P.underlying t = some (.int k)) (h : PT P (n + 1) t ps) : ∃ m, ps = [.int k m] ∧ (Lit.int k m).wf = true := by
  unfold PT at h
  rw [hu] at h
  exact h
theorem PTc_u64 {ps : List PV} (hu : P.underlying t = some (.int .u64)) (h : PT P (n + 1) t ps) : ∃ v : Nat, ps = [.int .u64 v] ∧ v < 2 ^ 64 := by
  obtain ⟨m, rfl, hm⟩ := PTc_int hu h
  obtain ⟨r, hr, h4⟩ := nats_of (k := .u64) rfl [m] (by simpa using hm)
  match r, hr with
  | [a], hr => simp at hr; subst hr; exact ⟨a, rfl, h4 a (by simp)⟩
theorem PTc_str {ps : List PV} (hu : P.underlying t = some .string) (h : PT P (n + 1) t ps) : ∃ s, ps = [.str s] ∧ s.length ≤ maxLen := by
  unfold PT at h
  rw [hu] at h
  exact h
theorem PTc_slice {e : TypeId} {ps : List PV} (hu : P.underlying t = some (.slice e)) (h : PT P (n + 1) t ps) : ∃ xs, ps = [.sl (P.cellsOf e) xs] ∧ xs.length ≤ maxLen ∧ ∀ x ∈ xs, PT P n e x.cells ∧ x.one = !isAggT P e := by
  unfold PT at h
  rw [hu] at h
  exact h
theorem sms_of {a b e : TypeId} (hu : stTypes P e = some [a, b]) (ha : P.underlying a = some (.int .i64)) (hb : P.underlying b = some (.int .u64)) : ∀ xs : List PV, (∀ x ∈ xs, PT P (n + 2) e x.cells ∧ x.one = !isAggT P e) → ∃ l : List Sm, xs = sms l ∧ smOK l
  | [], _ => ⟨[], rfl, by intro x hx; cases hx⟩
  | x :: r, h => by
    obtain ⟨ps, qs, rfl, k1, k2⟩ := PT_st2 (n := n + 1) hu (h x (by simp)).1 (h x (by simp)).2
    obtain ⟨m, rfl, hm⟩ := PTc_int ha k1
    obtain ⟨v, rfl, hv⟩ := PTc_u64 hb k2
    obtain ⟨l, rfl, hl⟩ := sms_of hu ha hb r (fun y hy => h y (by simp [hy]))
    refine ⟨(m, v) :: l, rfl, fun y hy => ?_⟩
    rcases List.mem_cons.1 hy with rfl | hy
    · exact ⟨wf_i64 hm, hv⟩
    · exact hl y hy
theorem PT_chunk {s l e a b : TypeId} (hu : stTypes P t = some [s, l]) (hs : P.underlying s = some .string) (hl : P.underlying l = some (.slice e)) (hc : P.cellsOf e = 2) (he : stTypes P e = some [a, b]) (ha : P.underlying a = some (.int .i64)) (hb : P.underlying b = some (.int .u64))
    (h : PT P (n + 4) t p.cells) (h1 : p.one = !isAggT P t) : ∃ (c : List UInt8) (xs : List Sm), p = chP (c, xs) ∧ c.length ≤ maxLen ∧ smOK xs := by
  obtain ⟨ps, qs, rfl, k1, k2⟩ := PT_st2 (n := n + 3) hu h h1
  obtain ⟨c, rfl, hcl⟩ := PTc_str hs k1
  obtain ⟨xs, rfl, _, hx⟩ := PTc_slice hl k2
  obtain ⟨r, rfl, hr⟩ := sms_of he ha hb xs hx
  exact ⟨c, r, by rw [hc]; rfl, hcl, hr⟩
end
end Go.Ck

set_option linter.unusedVariables false
namespace Go.Ck
section
variable {P : Program} {n : Nat} {t : TypeId} {p : PV}
theorem PT_st {ts : List TypeId} (hu : stTypes P t = some ts) (h : PT P (n + 1) t p.cells) (h1 : p.one = !isAggT P t) : ∃ pss : List (List PV), p = .agg pss.flatten ∧ pss.length = ts.length ∧ ∀ (i : Nat) (a : TypeId) (ps : List PV), ts[i]? = some a → pss[i]? = some ps → PT P n a ps := by
  unfold stTypes at hu
  unfold isAggT at h1
  unfold PT at h
  split at hu
  · rename_i fs hus
    rw [hus] at h1 h
    simp only [Option.some.injEq] at hu
    obtain ⟨pss, e1, e2, e3⟩ := h
    refine ⟨pss, ?_, by rw [e2, ← hu]; simp, fun i a ps hi hp => ?_⟩
    · cases p <;> simp [PV.one] at h1
      simp only [PV.cells] at e1
      rw [e1]
    · rw [← hu, List.getElem?_map] at hi
      cases hf : fs.toList[i]? with
      | none => rw [hf] at hi; cases hi
      | some f =>
        rw [hf] at hi
        cases hi
        exact (e3 i f ps (by rw [← Array.getElem?_toList, hf]) hp).1
  · cases hu
theorem ents_of {a b e : TypeId} (hu : stTypes P e = some [a, b]) (ha : P.underlying a = some .string) (hb : P.underlying b = some (.int .i64)) : ∀ xs : List PV, (∀ x ∈ xs, PT P (n + 2) e x.cells ∧ x.one = !isAggT P e) → ∃ l : List Ent, xs = entsP l
  | [], _ => ⟨[], rfl⟩
  | x :: r, h => by
    obtain ⟨ps, qs, rfl, k1, k2⟩ := PT_st2 (n := n + 1) hu (h x (by simp)).1 (h x (by simp)).2
    obtain ⟨s, rfl, _⟩ := PTc_str ha k1
    obtain ⟨m, rfl, _⟩ := PTc_int hb k2
    obtain ⟨l, rfl⟩ := ents_of hu ha hb r (fun y hy => h y (by simp [hy]))
    exact ⟨(s, m) :: l, rfl⟩
theorem PTc_bytes {u : TypeId} {ps : List PV} {e : TypeId} (hu : P.underlying u = some (.slice e)) (he : P.underlying e = some (.int .u8)) (hc : P.cellsOf e = 1) (ha : isAggT P u = false) (h : PT P (n + 3) u ps) : ∃ l : List Nat, ps = [.sl 1 (bytes l)] ∧ l.length ≤ maxLen ∧ ∀ x ∈ l, x < 256 := by
  obtain ⟨xs, rfl, h2, h3⟩ := PTc_slice hu h
  obtain ⟨l, e1, e2, e3⟩ := PT_bytes (n := n + 1) (p := .sl (P.cellsOf e) xs) hu he hc h (by rw [ha]; rfl)
  rw [e1]
  exact ⟨l, rfl, e2, e3⟩
theorem PT_man {u b l e s i : TypeId} (hu : stTypes P t = some [u, b, l, b]) (h64 : P.underlying u = some (.int .u64)) (hb : P.underlying b = some (.slice e)) (he : P.underlying e = some (.int .u8)) (hc : P.cellsOf e = 1) (hab : isAggT P b = false)
    {en : TypeId} (hl : P.underlying l = some (.slice en)) (hce : P.cellsOf en = 2) (hen : stTypes P en = some [s, i]) (hs : P.underlying s = some .string) (hi : P.underlying i = some (.int .i64))
    (h : PT P (n + 4) t p.cells) (h1 : p.one = !isAggT P t) : ∃ m : Man, p = manP m ∧ m.v < 2 ^ 64 ∧ m.es.length ≤ maxLen ∧ m.prev.length ≤ maxLen ∧ m.root.length ≤ maxLen ∧ (∀ x ∈ m.prev, x < 256) ∧ (∀ x ∈ m.root, x < 256) := by
  obtain ⟨pss, rfl, e2, e3⟩ := PT_st (n := n + 3) hu h h1
  match pss, e2 with
  | [p1, p2, p3, p4], _ =>
    obtain ⟨v, rfl, hv⟩ := PTc_u64 h64 (e3 0 u p1 rfl rfl)
    obtain ⟨pv, rfl, hp1, hp2⟩ := PTc_bytes (n := n) hb he hc hab (e3 1 b p2 rfl rfl)
    obtain ⟨xs, rfl, hx1, hx2⟩ := PTc_slice hl (e3 2 l p3 rfl rfl)
    obtain ⟨rt, rfl, hr1, hr2⟩ := PTc_bytes (n := n) hb he hc hab (e3 3 b p4 rfl rfl)
    obtain ⟨es, rfl⟩ := ents_of hen hs hi xs hx2
    refine ⟨⟨v, pv, es, rt⟩, ?_, hv, by simpa [entsP_len] using hx1, hp1, hr1, hp2, hr2⟩
    rw [hce]; rfl
end
end Go.Ck

set_option linter.unusedVariables false
namespace Go.Ck
theorem beN_initM : ∀ (l : List Nat) (a : Nat), l.foldl (fun a x => a * 256 + x) a = a * 256 ^ l.length + beN l
  | [], a => by simp [beN]
  | x :: r, a => by
    have h1 := beN_initM r (a * 256 + x)
    have h2 := beN_initM r (0 * 256 + x)
    have e : beN (x :: r) = r.foldl (fun a x => a * 256 + x) (0 * 256 + x) := rfl
    rw [List.foldl_cons, h1, e, h2, List.length_cons, Nat.pow_succ, Nat.add_mul, Nat.zero_mul, Nat.zero_add, Nat.mul_assoc, Nat.mul_comm (256 ^ r.length) 256, Nat.add_assoc]
theorem beN_consM (x : Nat) (r : List Nat) : beN (x :: r) = x * 256 ^ r.length + beN r := by
  have := beN_initM r (0 * 256 + x)
  have e : beN (x :: r) = r.foldl (fun a x => a * 256 + x) (0 * 256 + x) := rfl
  rw [e, this, Nat.zero_mul, Nat.zero_add]
theorem beB_addM : ∀ (j n k v : Nat), j ≤ n → beB (k * 256 ^ n + v) j = beB v j
  | 0, n, k, v, h => rfl
  | j + 1, n, k, v, h => by
    rw [beB_succ, beB_succ, beB_addM j n k v (by omega)]
    congr 1
    obtain ⟨d, rfl⟩ : ∃ d, n = j + 1 + d := ⟨n - (j + 1), by omega⟩
    have e : k * 256 ^ (j + 1 + d) = 256 ^ j * (256 * (k * 256 ^ d)) := by
      rw [Nat.pow_add, Nat.pow_succ]
      ac_rfl
    rw [e, Nat.mul_add_div (Nat.pow_pos (by decide)), Nat.mul_add_mod]
theorem beB_beNM : ∀ (l : List Nat), (∀ x ∈ l, x < 256) → beB (beN l) l.length = l
  | [], _ => rfl
  | x :: r, h => by
    have hx := h x (by simp)
    have hr : ∀ y ∈ r, y < 256 := fun y hy => h y (by simp [hy])
    have hlt := beN_lt r hr
    rw [List.length_cons, beB_succ, beN_consM, beB_addM _ _ _ _ (Nat.le_refl _), beB_beNM r hr]
    congr 1
    rw [Nat.mul_comm, Nat.mul_add_div (Nat.pow_pos (by decide)), Nat.div_eq_of_lt hlt, Nat.add_zero, Nat.mod_eq_of_lt hx]
theorem okT_pair {acc : List (List UInt8)} {t : List UInt8} (h : acc.Pairwise (· < ·)) (ho : okT acc t = true) : (acc ++ [t]).Pairwise (· < ·) := by
  rw [List.pairwise_append]
  refine ⟨h, by simp, fun a ha b hb => ?_⟩
  have hbt : b = t := by simpa using hb
  subst hbt
  have hne : acc ≠ [] := by rintro rfl; cases ha
  have hl : acc.getLast? = some (acc.getLast hne) := List.getLast?_eq_some_getLast hne
  rw [okT_last b hl] at ho
  have ho := of_decide_eq_true ho
  have e := List.dropLast_concat_getLast hne
  rw [← e] at ha h
  rcases List.mem_append.1 ha with ha | ha
  · exact List.lt_trans ((List.pairwise_append.1 h).2.2 a ha _ (by simp)) ho
  · have : a = acc.getLast hne := by simpa using ha
    rw [this]; exact ho
theorem cntD_inv {q : List Nat} (hb : ∀ x ∈ q, x < 256) (h : (cntD q).2.1 = 0) : q = leb (cntD q).1 ++ (cntD q).2.2 := by
  unfold cntD at h ⊢
  split at h
  · rename_i h1; exact absurd h h1
  · rename_i h1
    rw [if_neg h1]
    split at h
    · cases h
    · rename_i h2
      rw [if_neg h2]
      exact (readV_canon2 hb (by simpa using h1)).1
theorem tnD_inv : ∀ (n : Nat) (acc : List (List UInt8)) (q : List Nat), (∀ x ∈ q, x < 256) → acc.Pairwise (· < ·) → (∀ s ∈ acc, s.length ≤ 64) → (tnD n acc q).2.1 = 0 →
    ∃ ss, (tnD n acc q).1 = acc ++ ss ∧ ss.length = n ∧ q = ss.flatMap blkS ++ (tnD n acc q).2.2 ∧ (acc ++ ss).Pairwise (· < ·) ∧ ∀ s ∈ acc ++ ss, s.length ≤ 64
  | 0, acc, q, hb, hp, hl, h => ⟨[], by simp [tnD], rfl, rfl, by simpa using hp, by simpa using hl⟩
  | n + 1, acc, q, hb, hp, hl, h => by
    obtain ⟨b1, b2, b3, b4⟩ := blk_byte (m := 64) hb
    rw [tnD] at h ⊢
    by_cases h1 : (blk q 64).2.1 = 0
    · rw [if_neg (by simpa using h1)] at h ⊢
      by_cases h2 : okT acc (ub (blk q 64).1) = true
      · rw [if_pos h2] at h ⊢
        obtain ⟨c1, c2⟩ := blk_canon hb h1
        have hul : (ub (blk q 64).1).length ≤ 64 := by rw [ub_len]; exact c2
        obtain ⟨ss, e1, e2, e3, e4, e5⟩ := tnD_inv n (acc ++ [ub (blk q 64).1]) (blk q 64).2.2 b2 (okT_pair hp h2) (fun s hs => by
          rcases List.mem_append.1 hs with hs | hs
          · exact hl s hs
          · have : s = ub (blk q 64).1 := by simpa using hs
            rw [this]; exact hul) h
        refine ⟨ub (blk q 64).1 :: ss, by rw [e1]; simp, by simp [e2], ?_, by simpa using e4, by simpa using e5⟩
        rw [List.flatMap_cons, List.append_assoc, ← e3, blkS, ub_len, nb_ub b1]
        exact c1
      · rw [if_neg h2] at h; cases h
    · rw [if_pos h1] at h; exact absurd h h1
theorem tensD_inv {q : List Nat} (hb : ∀ x ∈ q, x < 256) (h : (tensD q).2.1 = 0) : q = leb (tensD q).1.length ++ (tensD q).1.flatMap blkS ++ (tensD q).2.2 ∧ (tensD q).1.Pairwise (· < ·) ∧ ∀ s ∈ (tensD q).1, s.length ≤ 64 := by
  unfold tensD at h ⊢
  by_cases h1 : (cntD q).2.1 = 0
  · rw [if_neg (by simpa using h1)] at h ⊢
    have hc := cntD_inv hb h1
    obtain ⟨ss, e1, e2, e3, e4, e5⟩ := tnD_inv (cntD q).1 [] (cntD q).2.2 (cntD_byte hb) (by simp) (by simp) h
    rw [List.nil_append] at e1 e4 e5
    rw [e1, e2, List.append_assoc, ← e3]
    exact ⟨hc, e4, e5⟩
  · rw [if_pos h1] at h; exact absurd h h1
theorem enD_inv {ts : List (List UInt8)} (hn : ts.Nodup) : ∀ (n : Nat) (acc : List Ent) (q : List Nat), (∀ x ∈ q, x < 256) → (enD ts n acc q).2.1 = 0 →
    ∃ es, (enD ts n acc q).1 = acc ++ es ∧ es.length = n ∧ q = es.flatMap (entB ts) ++ (enD ts n acc q).2.2 ∧ ∀ e ∈ es, e.1 ∈ ts ∧ 0 ≤ e.2 ∧ e.2 ≤ 8
  | 0, acc, q, hb, h => ⟨[], by simp [enD], rfl, rfl, by simp⟩
  | n + 1, acc, q, hb, h => by
    have hb2 : ∀ x ∈ q.drop (readV q).2.1, x < 256 := fun x hx => hb x (List.mem_of_mem_drop hx)
    rw [enD] at h ⊢
    by_cases h1 : (readV q).2.2 = 0
    · rw [if_neg (by simpa using h1)] at h ⊢
      have hc := (readV_canon2 hb h1).1
      generalize q.drop (readV q).2.1 = q2 at *
      generalize (readV q).1 = v at *
      by_cases h2 : ts.length ≤ v
      · rw [if_pos h2] at h; cases h
      · rw [if_neg h2] at h ⊢
        by_cases h3 : q2.length < 1
        · rw [if_pos h3] at h; cases h
        · rw [if_neg h3] at h ⊢
          by_cases h4 : 8 < q2.headD 0
          · rw [if_pos h4] at h; cases h
          · rw [if_neg h4] at h ⊢
            obtain ⟨x, q3, rfl⟩ : ∃ x r, q2 = x :: r := by
              cases q2 with
              | nil => simp at h3
              | cons x r => exact ⟨x, r, rfl⟩
            have t2 : (x :: q3).drop 1 = q3 := rfl
            have t3 : (x :: q3).headD 0 = x := rfl
            rw [t2, t3] at h ⊢
            rw [t3] at h4
            obtain ⟨es, e1, e2, e3, e4⟩ := enD_inv hn n _ q3 (fun y hy => hb2 y (by simp [hy])) h
            have hvl : v < ts.length := by omega
            have hg : ts.getD v [] = ts[v] := by rw [List.getD_eq_getElem?_getD, List.getElem?_eq_getElem hvl]; rfl
            refine ⟨entD (ts.getD v []) x :: es, by rw [e1]; simp, by simp [e2], ?_, ?_⟩
            · rw [List.flatMap_cons, List.append_assoc, ← e3]
              have : entB ts (entD (ts.getD v []) x) = leb v ++ [x] := by
                unfold entB entD
                simp only [Int.toNat_natCast]
                rw [hg, List.Nodup.idxOf_getElem hn v hvl]
              rw [this, List.append_assoc]
              exact hc
            · intro e he
              rcases List.mem_cons.1 he with rfl | he
              · refine ⟨?_, by simp only [entD]; omega, by simp only [entD]; omega⟩
                simp only [entD]
                rw [hg]; exact List.getElem_mem hvl
              · exact e4 e he
    · rw [if_pos h1] at h; exact absurd h h1
theorem entsD_inv {ts : List (List UInt8)} (hn : ts.Nodup) {q : List Nat} (hb : ∀ x ∈ q, x < 256) (h : (entsD ts q).2.1 = 0) : q = leb (entsD ts q).1.length ++ (entsD ts q).1.flatMap (entB ts) ++ (entsD ts q).2.2 ∧ ∀ e ∈ (entsD ts q).1, e.1 ∈ ts ∧ 0 ≤ e.2 ∧ e.2 ≤ 8 := by
  unfold entsD at h ⊢
  by_cases h1 : (cntD q).2.1 = 0
  · rw [if_neg (by simpa using h1)] at h ⊢
    have hc := cntD_inv hb h1
    obtain ⟨es, e1, e2, e3, e4⟩ := enD_inv hn (cntD q).1 [] (cntD q).2.2 (cntD_byte hb) h
    rw [List.nil_append] at e1
    rw [e1, e2, List.append_assoc, ← e3]
    exact ⟨hc, e4⟩
  · rw [if_pos h1] at h; exact absurd h h1
theorem pw_nodup {l : List (List UInt8)} (h : l.Pairwise (· < ·)) : l.Nodup := h.imp (fun {a b} h e => by subst e; exact List.lt_irrefl a h)
/-- All the names of a directory are told. -/
theorem dirS_all {es : List Ent} {ts : List (List UInt8)} (hs : ts.Pairwise (· < ·)) (he : ∀ e ∈ es, e.1 ∈ ts) (hl : (dirS es).length = ts.length) : dirS es = ts := by
  have hsub : ∀ s ∈ dirS es, s ∈ ts := by
    intro s hm
    obtain ⟨e, h1, rfl⟩ := (dirS_mem es s).1 hm
    exact he e h1
  refine sorted_ext (dirS_sorted es) hs (fun x => ⟨hsub x, fun hx => ?_⟩)
  refine Classical.byContradiction (fun hn => ?_)
  have h1 : (x :: dirS es).Nodup := List.nodup_cons.2 ⟨hn, dirS_nodup es⟩
  have h2 := h1.length_le_of_subset (l₂ := ts) (fun s hs' => by
    rcases List.mem_cons.1 hs' with rfl | h3
    · exact hx
    · exact hsub s h3)
  simp only [List.length_cons] at h2
  omega
theorem decM_inv {b : List Nat} (hb : ∀ x ∈ b, x < 256) (h : (decM b).2 = 0) : encM (decM b).1 = (b, 0) ∧ (decM b).1.v < 2 ^ 64 := by
  unfold decM at h ⊢
  split at h
  · cases h
  rename_i h1
  rw [if_neg h1]
  split at h
  · cases h
  rename_i h2
  rw [if_neg h2]
  have h2' : b.take 4 = [67, 83, 75, 49] := by simpa using h2
  have eb : b = [67, 83, 75, 49] ++ b.drop 4 := by rw [← h2', List.take_append_drop]
  have hb1 : ∀ x ∈ b.drop 4, x < 256 := fun x hx => hb x (List.mem_of_mem_drop hx)
  generalize b.drop 4 = q1 at *
  subst eb
  clear h1 h2 h2' hb
  unfold decM1 at h ⊢
  split at h
  · cases h
  rename_i h1
  rw [if_neg h1]
  split at h
  · cases h
  rename_i h2
  rw [if_neg h2]
  have hb8 : ∀ x ∈ q1.take 8, x < 256 := fun x hx => hb1 x (List.mem_of_mem_take hx)
  have hl8 : (q1.take 8).length = 8 := by rw [List.length_take]; omega
  have hv := beB_beNM (q1.take 8) hb8
  have hvl := beN_lt (q1.take 8) hb8
  rw [hl8] at hv hvl
  have eq1 : q1 = q1.take 8 ++ q1.drop 8 := (List.take_append_drop 8 q1).symm
  rw [← hv] at eq1
  have hb2 : ∀ x ∈ q1.drop 8, x < 256 := fun x hx => hb1 x (List.mem_of_mem_drop hx)
  generalize beN (q1.take 8) = v at *
  generalize q1.drop 8 = q2 at *
  rw [eq1]
  clear eq1 h1 hb8 hl8 hv hb1
  unfold decM2 at h ⊢
  split at h
  · cases h
  rename_i h1
  rw [if_neg h1]
  have hp : (q2.take 32).length = 32 := by rw [List.length_take]; omega
  have eq2 : q2 = q2.take 32 ++ q2.drop 32 := (List.take_append_drop 32 q2).symm
  have hb3 : ∀ x ∈ q2.drop 32, x < 256 := fun x hx => hb2 x (List.mem_of_mem_drop hx)
  generalize q2.take 32 = prev at *
  generalize q2.drop 32 = q3 at *
  subst eq2
  clear h1 hb2
  unfold decM3 at h ⊢
  split at h
  · rename_i h3; exact absurd h h3
  rename_i h3
  rw [if_neg h3]
  obtain ⟨i1, i2, i3⟩ := tensD_inv hb3 (by simpa using h3)
  have hb4 := tensD_byte hb3
  generalize (tensD q3).1 = ts at *
  generalize (tensD q3).2.2 = q4 at *
  rw [i1]
  clear i1 h3 hb3
  have hnd := pw_nodup i2
  unfold decM4 at h ⊢
  split at h
  · rename_i h3; exact absurd h h3
  rename_i h3
  rw [if_neg h3]
  obtain ⟨j1, j2⟩ := entsD_inv hnd hb4 (by simpa using h3)
  have hel := entsD_n ts q4
  generalize (entsD ts q4).1 = es at *
  generalize (entsD ts q4).2.2 = q5 at *
  rw [j1]
  clear j1 h3 hb4
  unfold decM5 at h ⊢
  split at h
  · cases h
  rename_i h4
  rw [if_neg h4]
  split at h
  · cases h
  rename_i h5
  rw [if_neg h5]
  split at h
  · cases h
  rename_i h6
  rw [if_neg h6]
  have hd : dirS es = ts := dirS_all i2 (fun e he => (j2 e he).1) (by simpa using h6)
  have hq5 : q5 = q5.take 32 := by
    have := List.take_append_drop 32 q5
    rw [show q5.drop 32 = [] by simpa using h5, List.append_nil] at this
    exact this.symm
  have hr : (q5.take 32).length = 32 := by rw [List.length_take]; omega
  have hw : wrongM ⟨v, prev, es, q5.take 32⟩ = 0 := by
    unfold wrongM
    simp only
    rw [if_neg (by rintro (h | h | h); exact h2 h; exact h hp; exact h hr), if_neg, if_neg]
    · rintro (h | h)
      · omega
      · obtain ⟨e, he, h7⟩ := List.any_eq_true.1 h
        have := i3 e.1 (j2 e he).1
        unfold longB at h7
        have := of_decide_eq_true h7
        omega
    · intro h
      obtain ⟨e, he, h7⟩ := List.any_eq_true.1 h
      have := j2 e he
      unfold badB at h7
      have h8 : padSz e.2 = 0 := by simpa using h7
      rw [padSz_zero] at h8
      exact h8 ⟨this.2.1, this.2.2⟩
  refine ⟨?_, hvl⟩
  unfold encM
  rw [if_neg (by rw [hw]; simp)]
  have : bodyM ⟨v, prev, es, q5.take 32⟩ = [67, 83, 75, 49] ++ (beB v 8 ++ (prev ++ (leb ts.length ++ ts.flatMap blkS ++ (leb es.length ++ es.flatMap (entB ts) ++ q5)))) := by
    unfold bodyM headM
    simp only [hd, ← hq5]
    simp only [List.append_assoc]
  rw [this]
theorem decM_bad {b : List Nat} (h : (decM b).2 ≠ 0) : (decM b).1 = ⟨0, [], [], []⟩ := by
  unfold decM at h ⊢
  split
  · rfl
  split
  · rfl
  rename_i h1 h2
  rw [if_neg h1, if_neg h2] at h
  unfold decM1 at h ⊢
  split
  · rfl
  split
  · rfl
  rename_i h1 h2
  rw [if_neg h1, if_neg h2] at h
  unfold decM2 at h ⊢
  split
  · rfl
  rename_i h1
  rw [if_neg h1] at h
  unfold decM3 at h ⊢
  split
  · rfl
  rename_i h1
  rw [if_neg h1] at h
  unfold decM4 at h ⊢
  split
  · rfl
  rename_i h1
  rw [if_neg h1] at h
  unfold decM5 at h ⊢
  split
  · rfl
  split
  · rfl
  split
  · rfl
  rename_i h1 h2 h3
  rw [if_neg h1, if_neg h2, if_neg h3] at h
  exact absurd rfl h
end Go.Ck

set_option linter.unusedVariables false
set_option maxRecDepth 100000
set_option maxHeartbeats 400000
namespace Go.Ck
open Go.Proofs
theorem manP_mk (v : Nat) (p : List Nat) (es : List Ent) (r : List Nat) : manP ⟨v, p, es, r⟩ = .agg [.int .u64 (v : Int), .sl 1 (bytes p), .sl 2 (entsP es), .sl 1 (bytes r)] := rfl
theorem law21only_fn (b : List Nat) (hl : b.length ≤ maxLen) (hb : ∀ x ∈ b, x < 256) : Fn Try.prog 5 [] [.pv (.sl 1 (bytes b))] (fun rs H' => rs = [.pv (.bool true)] ∧ H' = []) := by
  refine Fn.of_body (fn := Try.f5) (n := 53) (res := [.tmp 2]) (by kernel_rfl) rfl rfl rfl rfl rfl (fun C => ?_)
  have hroom : room = 140737488355328 := rfl
  refine AW.go ?_
  refine AW.callE (fun _ => 0) awake_fn .nil ?_
  by_cases hL : 1000 < b.length
  · have d1 : decide ((b.length : Int) > 1000) = true := decide_eq_true (by omega)
    have d1' : decide (1000 < b.length) = true := decide_eq_true hL
    refine AW.go ?_ (by simp only [go_sem, ↓reduceIte, d1, d1'] <;> rfl)
    refine AW.condT rfl ?_
    refine AW.go ?_
    exact AW.finE (.pv _ .nil) rfl
  have d1 : decide ((b.length : Int) > 1000) = false := decide_eq_false (by omega)
  have d1' : decide (1000 < b.length) = false := decide_eq_false hL
  refine AW.go ?_ (by simp only [go_sem, ↓reduceIte, d1, d1'] <;> rfl)
  refine AW.condF rfl ?_
  refine AW.go ?_
  have hdf := manDec_fn b (by omega) hb
  have hin := decM_inv hb
  have hbad := decM_bad (b := b)
  generalize decM b = D at *
  obtain ⟨⟨v, p, es, r⟩, e⟩ := D
  simp only at hdf hin hbad
  have hm := manP_mk v p es r
  rw [hm] at hdf
  refine AW.callE (fun _ => 0) hdf (.pv _ .nil) ?_
  refine AW.go ?_
  refine AW.cond rfl (fun hc => ?_) (fun hc => ?_)
  · have he : e ≠ 0 := by simpa using hc
    have hz := hbad he
    have h1 : v = 0 := congrArg Man.v hz
    have h2 : es = [] := congrArg Man.es hz
    have h3 : r = [] := congrArg Man.root hz
    have d1 : ((es.length : Int) == 0) = true := by rw [h2]; rfl
    have d2 : ((r.length : Int) == 0) = true := by rw [h3]; rfl
    have d3 : ((v : Int) == 0) = true := by rw [h1]; rfl
    refine AW.gg ?_ (by simp only [go_sem, ↓reduceIte, d1, d2, d3] <;> rfl)
    exact AW.finE (.pv _ .nil) rfl
  have he : e = 0 := by simpa using hc
  obtain ⟨hen, hv⟩ := hin he
  have hel : es.length < 2 ^ 29 := by
    have hw : wrongM ⟨v, p, es, r⟩ = 0 := by
      unfold encM at hen
      split at hen
      · rename_i h; rw [Prod.mk.injEq] at hen; exact hen.2
      · rename_i h; simpa using h
    have := (wrongM_zero hw).2.2.2.2.1
    simp only at this; omega
  have hef := manEnc_fn ⟨v, p, es, r⟩ hv hel
  rw [hen, hm] at hef
  simp only [show ((0 : Nat) : Int) = 0 from rfl] at hef
  refine AW.go ?_
  refine AW.callE (fun _ => 0) hef (.pv _ .nil) ?_
  have g0 : ((0 : Int) == 0) = true := rfl
  refine AW.gg ?_ (by simp only [go_sem, ↓reduceIte, g0] <;> rfl)
  refine AW.guardT rfl rfl ?_
  refine AW.callE (fun _ => 0) (ref01Same_fn b b (by omega)) (.lend rfl co_5 (.pv _ .nil)) ?_
  try rw [decide_eq_true (rfl : b = b)]
  refine AW.gg ?_
  refine AW.go ?_
  exact AW.finE (.pv _ .nil) rfl
end Go.Ck

set_option linter.unusedVariables false
namespace Go.Ck
theorem cntD_app {n : Nat} (hn : n ≤ 1048576) (r : List Nat) : cntD (leb n ++ r) = (n, 0, r) := by
  unfold cntD
  rw [readV_leb (by omega)]
  simp only [ne_eq, not_true_eq_false, if_false, List.drop_left]
  rw [if_neg (by omega)]
theorem okT_of_pair {acc ss : List (List UInt8)} {s : List UInt8} (h : (acc ++ s :: ss).Pairwise (· < ·)) : okT acc s = true := by
  cases hl : acc.getLast? with
  | none => unfold okT; rw [hl]
  | some l =>
    rw [okT_last s hl]
    have hm : l ∈ acc := List.mem_of_getLast? hl
    exact decide_eq_true ((List.pairwise_append.1 h).2.2 l hm s (by simp))
theorem tnD_app : ∀ (ss acc : List (List UInt8)) (r : List Nat), (acc ++ ss).Pairwise (· < ·) → (∀ s ∈ ss, s.length ≤ 64) → tnD ss.length acc (ss.flatMap blkS ++ r) = (acc ++ ss, 0, r)
  | [], acc, r, hp, hl => by simp [tnD]
  | s :: ss, acc, r, hp, hl => by
    have hs := hl s (by simp)
    have hb := blk_app (l := nb s) (m := 64) (by rw [nb_len]; exact hs) (by rw [nb_len]; omega) (ss.flatMap blkS ++ r)
    have e : (s :: ss).flatMap blkS ++ r = leb (nb s).length ++ nb s ++ (ss.flatMap blkS ++ r) := by rw [List.flatMap_cons, blkS, nb_len, List.append_assoc]
    rw [List.length_cons, tnD, e, hb]
    simp only [ne_eq, not_true_eq_false, if_false]
    rw [ub_nb, if_pos (okT_of_pair hp), tnD_app ss (acc ++ [s]) r (by simpa using hp) (fun t ht => hl t (by simp [ht]))]
    simp
theorem tensD_app {ts : List (List UInt8)} (hn : ts.length ≤ 1048576) (hp : ts.Pairwise (· < ·)) (hl : ∀ s ∈ ts, s.length ≤ 64) (r : List Nat) : tensD (leb ts.length ++ ts.flatMap blkS ++ r) = (ts, 0, r) := by
  unfold tensD
  rw [List.append_assoc, cntD_app hn]
  simp only [ne_eq, not_true_eq_false, if_false]
  rw [tnD_app ts [] r (by simpa using hp) hl]
  rfl
def entOK (ts : List (List UInt8)) (e : Ent) : Prop := e.1 ∈ ts ∧ 0 ≤ e.2 ∧ e.2 ≤ 8
theorem entD_eq {ts : List (List UInt8)} {e : Ent} (h : entOK ts e) : entD (ts.getD (ts.idxOf e.1) []) e.2.toNat = e := by
  have hi := List.idxOf_lt_length_of_mem h.1
  rw [List.getD_eq_getElem?_getD, List.getElem?_eq_getElem hi, Option.getD_some, List.getElem_idxOf hi]
  unfold entD
  have := h.2.1
  rw [Int.toNat_of_nonneg this]
theorem enD_app {ts : List (List UInt8)} (hn : ts.length ≤ 1048576) : ∀ (es acc : List Ent) (r : List Nat), (∀ e ∈ es, entOK ts e) → enD ts es.length acc (es.flatMap (entB ts) ++ r) = (acc ++ es, 0, r)
  | [], acc, r, h => by simp [enD]
  | e :: es, acc, r, h => by
    have he := h e (by simp)
    have hi := List.idxOf_lt_length_of_mem he.1
    have h8 := he.2.2
    have eq : (e :: es).flatMap (entB ts) ++ r = leb (ts.idxOf e.1) ++ (e.2.toNat :: (es.flatMap (entB ts) ++ r)) := by rw [List.flatMap_cons, entB]; simp
    rw [List.length_cons, enD, eq, readV_leb (by omega)]
    simp only [ne_eq, not_true_eq_false, if_false, List.drop_left, List.headD_cons, List.drop_succ_cons, List.drop_zero, List.length_cons]
    rw [if_neg (by omega), if_neg (by omega), if_neg (by omega), entD_eq he, enD_app hn es (acc ++ [e]) r (fun x hx => h x (by simp [hx]))]
    simp
theorem entsD_app {ts : List (List UInt8)} (hn : ts.length ≤ 1048576) {es : List Ent} (hl : es.length ≤ 1048576) (h : ∀ e ∈ es, entOK ts e) (r : List Nat) : entsD ts (leb es.length ++ es.flatMap (entB ts) ++ r) = (es, 0, r) := by
  unfold entsD
  rw [List.append_assoc, cntD_app hl]
  simp only [ne_eq, not_true_eq_false, if_false]
  rw [enD_app hn es [] r h]
  rfl
theorem bodyM_assoc (m : Man) : bodyM m = [67, 83, 75, 49] ++ (beB m.v 8 ++ (m.prev ++ ((leb (dirS m.es).length ++ (dirS m.es).flatMap blkS) ++ ((leb m.es.length ++ m.es.flatMap (entB (dirS m.es))) ++ m.root)))) := by
  unfold bodyM headM; simp only [List.append_assoc]
theorem man_ok {m : Man} (h : wrongM m = 0) : (dirS m.es).length ≤ 1048576 ∧ (∀ s ∈ dirS m.es, s.length ≤ 64) ∧ m.es.length ≤ 1048576 ∧ ∀ e ∈ m.es, entOK (dirS m.es) e := by
  obtain ⟨w1, w2, w3, w4, w5, w6⟩ := wrongM_zero h
  have hnl : (dirS m.es).length ≤ m.es.length := by rw [dirS_len]; exact nmS_len _
  refine ⟨by omega, ?_, w5, fun e he => ⟨(dirS_mem m.es e.1).2 ⟨e, he, rfl⟩, w4 e he⟩⟩
  intro s hs
  obtain ⟨e, he, rfl⟩ := (dirS_mem m.es s).1 hs
  exact w6 e he
theorem decM_app {m : Man} (h : wrongM m = 0) (hv : m.v < 2 ^ 64) (r : List Nat) : decM (bodyM m ++ r) = if r ≠ [] then noM 3 else (m, 0) := by
  obtain ⟨w1, w2, w3, w4, w5, w6⟩ := wrongM_zero h
  obtain ⟨o1, o2, o3, o4⟩ := man_ok h
  have hb8 := beB_len m.v 8
  have hbv : beN (beB m.v 8) = m.v := by rw [beN_beB, Nat.mod_eq_of_lt (by omega)]
  rw [bodyM_assoc]
  simp only [List.append_assoc]
  have s1 : ∀ q : List Nat, decM ([67, 83, 75, 49] ++ q) = decM1 q := fun q => by
    unfold decM
    rw [if_neg (by simp), if_neg (by simp)]
    rfl
  have s2 : ∀ q : List Nat, decM1 (beB m.v 8 ++ q) = decM2 m.v q := fun q => by
    unfold decM1
    have t1 : (beB m.v 8 ++ q).take 8 = beB m.v 8 := by rw [List.take_append_of_le_length (by omega), List.take_of_length_le (by omega)]
    have t2 : (beB m.v 8 ++ q).drop 8 = q := by rw [List.drop_append_of_le_length (by omega), List.drop_of_length_le (by omega)]; rfl
    rw [if_neg (by simp [hb8]), t1, t2, hbv, if_neg w1]
  have s3 : ∀ q : List Nat, decM2 m.v (m.prev ++ q) = decM3 m.v m.prev q := fun q => by
    unfold decM2
    have t1 : (m.prev ++ q).take 32 = m.prev := by rw [List.take_append_of_le_length (by omega), List.take_of_length_le (by omega)]
    have t2 : (m.prev ++ q).drop 32 = q := by rw [List.drop_append_of_le_length (by omega), List.drop_of_length_le (by omega)]; rfl
    rw [if_neg (by simp [w2]), t1, t2]
  rw [s1, s2, s3, ← List.append_assoc (leb (dirS m.es).length)]
  unfold decM3
  rw [tensD_app o1 (dirS_sorted m.es) o2]
  simp only [ne_eq, not_true_eq_false, if_false]
  rw [← List.append_assoc (leb m.es.length)]
  unfold decM4
  rw [entsD_app o1 o3 o4]
  simp only [ne_eq, not_true_eq_false, if_false]
  unfold decM5
  have t1 : (m.root ++ r).take 32 = m.root := by rw [List.take_append_of_le_length (by omega), List.take_of_length_le (by omega)]
  have t2 : (m.root ++ r).drop 32 = r := by rw [List.drop_append_of_le_length (by omega), List.drop_of_length_le (by omega)]; rfl
  rw [if_neg (by simp [w3]), t1, t2]
  simp only [ne_eq, not_true_eq_false, if_false]
theorem decM_bodyM {m : Man} (h : wrongM m = 0) (hv : m.v < 2 ^ 64) : decM (bodyM m) = (m, 0) := by
  have := decM_app h hv []
  rw [List.append_nil] at this
  rw [this]; rfl
end Go.Ck

set_option linter.unusedVariables false
namespace Go.Ck
def revM (m : Man) : Man := ⟨m.v, m.prev, m.es.reverse, m.root⟩
theorem wrongM_rev (m : Man) : wrongM (revM m) = wrongM m := by
  unfold wrongM revM
  simp only [List.any_reverse, List.length_reverse]
theorem dirS_rev (es : List Ent) : dirS es.reverse = dirS es := sorted_ext (dirS_sorted _) (dirS_sorted _) (fun x => by rw [dirS_mem, dirS_mem]; simp)
theorem bodyM_rev (m : Man) : (bodyM (revM m)).length = (bodyM m).length := by
  have h : (m.es.reverse.flatMap (entB (dirS m.es))).length = (m.es.flatMap (entB (dirS m.es))).length := ((List.reverse_perm m.es).flatMap_right _).length_eq
  unfold bodyM headM revM
  simp only [dirS_rev, List.length_append, List.length_reverse, h]
theorem encM_rev2 (m : Man) : (encM (revM m)).2 = (encM m).2 := by
  unfold encM; rw [wrongM_rev]; split <;> rfl
theorem encM_rev1 (m : Man) : (encM (revM m)).1.length = (encM m).1.length := by
  unfold encM; rw [wrongM_rev]; split
  · rfl
  · exact bodyM_rev m
theorem encM_ok {m : Man} (h : (encM m).2 = 0) : wrongM m = 0 ∧ (encM m).1 = bodyM m := by
  unfold encM at h ⊢
  split at h
  · rename_i h1; exact absurd h h1
  · rename_i h1
    rw [if_neg h1]
    exact ⟨by simpa using h1, rfl⟩
theorem bodyM_byte {m : Man} (h : wrongM m = 0) (hp : ∀ x ∈ m.prev, x < 256) (hr : ∀ x ∈ m.root, x < 256) : ∀ x ∈ bodyM m, x < 256 := by
  obtain ⟨w1, w2, w3, w4, w5, w6⟩ := wrongM_zero h
  intro x hx
  unfold bodyM headM at hx
  simp only [List.mem_append, List.mem_flatMap] at hx
  rcases hx with (((((((hx | hx) | hx) | hx) | ⟨s, _, hx⟩) | hx) | ⟨e, he, hx⟩) | hx)
  · revert x; decide
  · exact beB_byte _ _ x hx
  · exact hp x hx
  · exact leb_byte _ x hx
  · unfold blkS at hx
    rcases List.mem_append.1 hx with hx | hx
    · exact leb_byte _ x hx
    · exact nb_byte s x hx
  · exact leb_byte _ x hx
  · unfold entB at hx
    rcases List.mem_append.1 hx with hx | hx
    · exact leb_byte _ x hx
    · have h8 := w4 e he
      have : x = e.2.toNat := by simpa using hx
      omega
  · exact hr x hx
theorem encM_byte {m : Man} (hp : ∀ x ∈ m.prev, x < 256) (hr : ∀ x ∈ m.root, x < 256) : ∀ x ∈ (encM m).1, x < 256 := by
  unfold encM
  split
  · simp
  · rename_i h
    exact bodyM_byte (by simpa using h) hp hr
end Go.Ck
