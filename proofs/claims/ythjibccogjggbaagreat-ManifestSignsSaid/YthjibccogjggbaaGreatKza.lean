/- What is proved here: parts of the proofs of this seat's statements (a verified evaluator for calls over pure values, its laws, and contracts of functions). No condition. -/
import Derived.Test.YthjibccogjggbaaGreatKz
import Derived.Test.YthjibccogjggbaaGreatKu
import Derived.Test.YthjibccogjggbaaGreatKy
import Derived.Test.YthjibccogjggbaaGreatKm
import Derived.Test.YthjibccogjggbaaGreatKt
set_option linter.all false
set_option linter.unusedVariables false
set_option maxRecDepth 100000
set_option maxHeartbeats 400000
namespace Go.Ck
open Go.Proofs
theorem few_fn (m : Man) (hl : m.es.length < 2 ^ 63) : Fn Tryz.prog 5 [] [.pv (manP m)] (fun rs H' => rs = [.pv (.bool (fewM m))] ∧ H' = []) := by
  refine Fn.of_body (fn := Tryz.f5) (n := 35) (res := [.tmp 2]) (by kernel_rfl) rfl rfl rfl rfl rfl (fun C => ?_)
  obtain ⟨v, prev, es, root⟩ := m
  have hm : manP ⟨v, prev, es, root⟩ = .agg [.int .u64 (v : Int), .sl 1 (bytes prev), .sl 2 (entsP es), .sl 1 (bytes root)] := rfl
  rw [hm]
  unfold fewM
  simp only at *
  obtain ⟨b1, hb1⟩ : ∃ b, b = decide (100 < es.length) := ⟨_, rfl⟩
  obtain ⟨b2, hb2⟩ : ∃ b, b = decide (300 < prev.length) := ⟨_, rfl⟩
  obtain ⟨b3, hb3⟩ : ∃ b, b = decide (300 < root.length) := ⟨_, rfl⟩
  have d1 : decide ((es.length : Int) > 100) = b1 := by rw [hb1, Bool.eq_iff_iff]; simp; omega
  have d2 : decide ((prev.length : Int) > 300) = b2 := by rw [hb2, Bool.eq_iff_iff]; simp; omega
  have d3 : decide ((root.length : Int) > 300) = b3 := by rw [hb3, Bool.eq_iff_iff]; simp; omega
  have d1' := hb1.symm
  have d2' := hb2.symm
  have d3' := hb3.symm
  by_cases hB : (b1 || (b2 || b3)) = true
  · have hno : ¬ (es.length ≤ 100 ∧ prev.length ≤ 300 ∧ root.length ≤ 300 ∧ ∀ e ∈ es, e.1.length ≤ 200) := by
      rintro ⟨h1, h2, h3, _⟩
      rw [hb1, hb2, hb3] at hB
      simp at hB
      omega
    rw [decide_eq_false hno]
    clear hb1 hb2 hb3 hno
    cases b1 with
    | true =>
      refine AW.gg ?_ (by simp only [go_sem, ↓reduceIte, d1, d2, d3, d1', d2', d3'] <;> rfl)
      refine AW.condT rfl ?_
      refine AW.go ?_
      exact AW.finE (.pv _ .nil) rfl
    | false =>
      cases b2 with
      | true =>
        refine AW.gg ?_ (by simp only [go_sem, ↓reduceIte, d1, d2, d3, d1', d2', d3'] <;> rfl)
        refine AW.condT rfl ?_
        refine AW.go ?_
        exact AW.finE (.pv _ .nil) rfl
      | false =>
        cases b3 with
        | true =>
          refine AW.gg ?_ (by simp only [go_sem, ↓reduceIte, d1, d2, d3, d1', d2', d3'] <;> rfl)
          refine AW.condT rfl ?_
          refine AW.go ?_
          exact AW.finE (.pv _ .nil) rfl
        | false => cases hB
  have hB2 : (b1 || (b2 || b3)) = false := by simpa only [Bool.not_eq_true] using hB
  rw [Bool.or_eq_false_iff, Bool.or_eq_false_iff] at hB2
  obtain ⟨hc1, hc2, hc3⟩ := hB2
  rw [hc1] at d1 d1' hb1
  rw [hc2] at d2 d2' hb2
  rw [hc3] at d3 d3' hb3
  have f1 := of_decide_eq_false d1'
  have f2 := of_decide_eq_false d2'
  have f3 := of_decide_eq_false d3'
  refine AW.gg ?_ (by simp only [go_sem, ↓reduceIte, d1, d2, d3, d1', d2', d3'] <;> rfl)
  refine AW.condF rfl ?_
  refine AW.go ?_
  refine AW.loopS (fun i : Nat => ⟨35, [(3, .pv (.int .i64 i)), (1, .ptr 1 0)], [(1, .cells 26 [.pv (.int .u64 (v : Int)), .pv (.sl 1 (bytes prev)), .pv (.sl 2 (entsP es)), .pv (.sl 1 (bytes root))])]⟩) (fun i => i ≤ es.length ∧ ∀ e ∈ es.take i, e.1.length ≤ 200) (fun i => es.length - i) [3, 1] [1] 0 ⟨Nat.zero_le _, by simp⟩ ?_
  rintro i ⟨hi, hn⟩ K hK
  refine AW.go ?_
  refine AW.cond rfl (fun hc => ?_) (fun hc => ?_)
  · have hlt : i < es.length := by have := of_decide_eq_true hc; omega
    obtain ⟨e, he⟩ : ∃ e, es[i]? = some e := ⟨es[i], List.getElem?_eq_getElem hlt⟩
    have hg := entsP_get he
    have e1 : IntKind.i64.wrap ((i : Int) + 1) = ((i + 1 : Nat) : Int) := wrap_i64_succ (by omega)
    by_cases hL : 200 < e.1.length
    · have d7 : decide (200 < e.1.length) = true := decide_eq_true hL
      have d7' : decide ((e.1.length : Int) > 200) = true := decide_eq_true (by omega)
      rw [decide_eq_false (fun h => by have := h.2.2.2 e (List.mem_of_getElem? he); omega)]
      refine AW.gg ?_ (by simp only [go_sem, ↓reduceIte, hg, d7, d7'] <;> rfl)
      refine AW.condT rfl ?_
      refine AW.go ?_
      exact AW.finE (.pv _ .nil) rfl
    · have d7 : decide (200 < e.1.length) = false := decide_eq_false hL
      have d7' : decide ((e.1.length : Int) > 200) = false := decide_eq_false (by omega)
      refine AW.gg ?_ (by simp only [go_sem, ↓reduceIte, hg, d7, d7'] <;> rfl)
      refine AW.condF rfl ?_
      refine AW.go ?_ (by simp only [go_sem, ↓reduceIte, e1] <;> rfl)
      exact AW.again hK (i + 1) (by exact ⟨by omega, by rw [List.take_add_one, he]; intro x hx; rcases List.mem_append.1 hx with hx | hx; exact hn x hx; simp at hx; subst hx; omega⟩) (by omega)
  have hge : i = es.length := by have := of_decide_eq_false hc; omega
  subst hge
  rw [List.take_length] at hn
  rw [decide_eq_true ⟨by omega, by omega, by omega, hn⟩]
  refine AW.go ?_
  exact AW.finE (.pv _ .nil) rfl
theorem awake_fn : Fn Tryz.prog 4 [] [] (fun rs H' => rs = [.pv (.bool true)] ∧ H' = []) := by
  refine Fn.of_body (fn := Tryz.f4) (n := 64) (res := [.tmp 0]) (by kernel_rfl) rfl rfl rfl rfl rfl (fun C => ?_)
  have m32 : (32 ≤ maxLen) = True := eq_true (le_maxLen 32)
  refine AW.go ?_
  refine AW.any0 mixed ?_
  refine via (T := ?Tend) (fun hT => ?_) ?_; rotate_left
  · skip
    refine AW.branch (fuel := 4) (rs := [0, 1, 3]) ?_ (by decide +kernel) (by simp)
    intro j hj
    simp only [List.mem_cons, List.not_mem_nil, or_false] at hj
    rcases hj with rfl | rfl | rfl
    · skip
      refine AW.gg ?_ (by simp only [go_sem, ↓reduceIte, m32] <;> rfl)
      refine AW.branch (fuel := 3) (rs := [1, 3]) ?_ (by decide +kernel) (by simp)
      intro j hj
      simp only [List.mem_cons, List.not_mem_nil, or_false] at hj
      rcases hj with rfl | rfl
      · skip
        refine AW.gg ?_ (by simp only [go_sem, ↓reduceIte, m32] <;> rfl)
        refine AW.branch (fuel := 2) (rs := [2, 3]) ?_ (by decide +kernel) (by simp)
        intro j hj
        simp only [List.mem_cons, List.not_mem_nil, or_false] at hj
        rcases hj with rfl | rfl
        · skip
          refine AW.gg ?_ (by simp only [go_sem, ↓reduceIte, m32] <;> rfl)
          refine AW.seqs (fuel := 0) (listed' := #[true, true, true, true, true]) [3, 4] ?_ (by decide +kernel)
          refine AW.gg ?_ (by simp only [go_sem, ↓reduceIte, m32] <;> rfl)
          refine AW.anyDone (by decide +kernel) ?_
          refine AW.keepB [1] [1] (s' := ⟨64, [(1, .ptr 1 0)], [(1, .cells 26 [.pv (.int .u64 1), .pv (.sl 1 (bytes z32)), .nils, .pv (.sl 1 (bytes z32))])]⟩) (by simp only [go_sem, ↓reduceIte]) (by simp only [go_sem, ↓reduceIte] <;> rfl) ?_
          exact hT ()
        · skip
          refine AW.gg ?_ (by simp only [go_sem, ↓reduceIte, m32] <;> rfl)
          refine AW.seqs (fuel := 0) (listed' := #[true, true, true, true, true]) [2, 4] ?_ (by decide +kernel)
          refine AW.gg ?_ (by simp only [go_sem, ↓reduceIte, m32] <;> rfl)
          refine AW.anyDone (by decide +kernel) ?_
          refine AW.keepB [1] [1] (s' := ⟨64, [(1, .ptr 1 0)], [(1, .cells 26 [.pv (.int .u64 1), .pv (.sl 1 (bytes z32)), .nils, .pv (.sl 1 (bytes z32))])]⟩) (by simp only [go_sem, ↓reduceIte]) (by simp only [go_sem, ↓reduceIte] <;> rfl) ?_
          exact hT ()
      · skip
        refine AW.gg ?_ (by simp only [go_sem, ↓reduceIte, m32] <;> rfl)
        refine AW.seqs (fuel := 0) (listed' := #[true, true, true, true, true]) [1, 2, 4] ?_ (by decide +kernel)
        refine AW.gg ?_ (by simp only [go_sem, ↓reduceIte, m32] <;> rfl)
        refine AW.anyDone (by decide +kernel) ?_
        refine AW.keepB [1] [1] (s' := ⟨64, [(1, .ptr 1 0)], [(1, .cells 26 [.pv (.int .u64 1), .pv (.sl 1 (bytes z32)), .nils, .pv (.sl 1 (bytes z32))])]⟩) (by simp only [go_sem, ↓reduceIte]) (by simp only [go_sem, ↓reduceIte] <;> rfl) ?_
        exact hT ()
    · skip
      refine AW.gg ?_ (by simp only [go_sem, ↓reduceIte, m32] <;> rfl)
      refine AW.branch (fuel := 3) (rs := [0, 3]) ?_ (by decide +kernel) (by simp)
      intro j hj
      simp only [List.mem_cons, List.not_mem_nil, or_false] at hj
      rcases hj with rfl | rfl
      · skip
        refine AW.gg ?_ (by simp only [go_sem, ↓reduceIte, m32] <;> rfl)
        refine AW.branch (fuel := 2) (rs := [2, 3]) ?_ (by decide +kernel) (by simp)
        intro j hj
        simp only [List.mem_cons, List.not_mem_nil, or_false] at hj
        rcases hj with rfl | rfl
        · skip
          refine AW.gg ?_ (by simp only [go_sem, ↓reduceIte, m32] <;> rfl)
          refine AW.seqs (fuel := 0) (listed' := #[true, true, true, true, true]) [3, 4] ?_ (by decide +kernel)
          refine AW.gg ?_ (by simp only [go_sem, ↓reduceIte, m32] <;> rfl)
          refine AW.anyDone (by decide +kernel) ?_
          refine AW.keepB [1] [1] (s' := ⟨64, [(1, .ptr 1 0)], [(1, .cells 26 [.pv (.int .u64 1), .pv (.sl 1 (bytes z32)), .nils, .pv (.sl 1 (bytes z32))])]⟩) (by simp only [go_sem, ↓reduceIte]) (by simp only [go_sem, ↓reduceIte] <;> rfl) ?_
          exact hT ()
        · skip
          refine AW.gg ?_ (by simp only [go_sem, ↓reduceIte, m32] <;> rfl)
          refine AW.seqs (fuel := 0) (listed' := #[true, true, true, true, true]) [2, 4] ?_ (by decide +kernel)
          refine AW.gg ?_ (by simp only [go_sem, ↓reduceIte, m32] <;> rfl)
          refine AW.anyDone (by decide +kernel) ?_
          refine AW.keepB [1] [1] (s' := ⟨64, [(1, .ptr 1 0)], [(1, .cells 26 [.pv (.int .u64 1), .pv (.sl 1 (bytes z32)), .nils, .pv (.sl 1 (bytes z32))])]⟩) (by simp only [go_sem, ↓reduceIte]) (by simp only [go_sem, ↓reduceIte] <;> rfl) ?_
          exact hT ()
      · skip
        refine AW.gg ?_ (by simp only [go_sem, ↓reduceIte, m32] <;> rfl)
        refine AW.seqs (fuel := 0) (listed' := #[true, true, true, true, true]) [0, 2, 4] ?_ (by decide +kernel)
        refine AW.gg ?_ (by simp only [go_sem, ↓reduceIte, m32] <;> rfl)
        refine AW.anyDone (by decide +kernel) ?_
        refine AW.keepB [1] [1] (s' := ⟨64, [(1, .ptr 1 0)], [(1, .cells 26 [.pv (.int .u64 1), .pv (.sl 1 (bytes z32)), .nils, .pv (.sl 1 (bytes z32))])]⟩) (by simp only [go_sem, ↓reduceIte]) (by simp only [go_sem, ↓reduceIte] <;> rfl) ?_
        exact hT ()
    · skip
      refine AW.gg ?_ (by simp only [go_sem, ↓reduceIte, m32] <;> rfl)
      refine AW.branch (fuel := 3) (rs := [0, 1]) ?_ (by decide +kernel) (by simp)
      intro j hj
      simp only [List.mem_cons, List.not_mem_nil, or_false] at hj
      rcases hj with rfl | rfl
      · skip
        refine AW.gg ?_ (by simp only [go_sem, ↓reduceIte, m32] <;> rfl)
        refine AW.seqs (fuel := 0) (listed' := #[true, true, true, true, true]) [1, 2, 4] ?_ (by decide +kernel)
        refine AW.gg ?_ (by simp only [go_sem, ↓reduceIte, m32] <;> rfl)
        refine AW.anyDone (by decide +kernel) ?_
        refine AW.keepB [1] [1] (s' := ⟨64, [(1, .ptr 1 0)], [(1, .cells 26 [.pv (.int .u64 1), .pv (.sl 1 (bytes z32)), .nils, .pv (.sl 1 (bytes z32))])]⟩) (by simp only [go_sem, ↓reduceIte]) (by simp only [go_sem, ↓reduceIte] <;> rfl) ?_
        exact hT ()
      · skip
        refine AW.gg ?_ (by simp only [go_sem, ↓reduceIte, m32] <;> rfl)
        refine AW.seqs (fuel := 0) (listed' := #[true, true, true, true, true]) [0, 2, 4] ?_ (by decide +kernel)
        refine AW.gg ?_ (by simp only [go_sem, ↓reduceIte, m32] <;> rfl)
        refine AW.anyDone (by decide +kernel) ?_
        refine AW.keepB [1] [1] (s' := ⟨64, [(1, .ptr 1 0)], [(1, .cells 26 [.pv (.int .u64 1), .pv (.sl 1 (bytes z32)), .nils, .pv (.sl 1 (bytes z32))])]⟩) (by simp only [go_sem, ↓reduceIte]) (by simp only [go_sem, ↓reduceIte] <;> rfl) ?_
        exact hT ()
  have hM : manP awM = .agg [.int .u64 1, .sl 1 (bytes z32), .sl 2 [], .sl 1 (bytes z32)] := rfl
  have hef := manEnc_fn awM (by decide) (by decide)
  have hE1 := awM_enc
  have hE2 := awM_dec
  obtain ⟨hS1, hS2⟩ := awM_sign
  have hsf := sign_fn z32 awM (by decide) (by decide) z32_byte
  have hE3 : ([67, 83, 75, 49] ++ beB 1 8 ++ z32 ++ [0] ++ [0] ++ z32 : List Nat).length = 78 := rfl
  have hE4 : (bytes ([67, 83, 75, 49] ++ beB 1 8 ++ z32 ++ [0] ++ [0] ++ z32))[0]? = some (.int .u8 67) := rfl
  have hE5 : (bytes ([67, 83, 75, 49] ++ beB 1 8 ++ z32 ++ [0] ++ [0] ++ z32))[11]? = some (.int .u8 1) := rfl
  have hE6 : ∀ x ∈ ([67, 83, 75, 49] ++ beB 1 8 ++ z32 ++ [0] ++ [0] ++ z32 : List Nat), x < 256 := by decide
  generalize [67, 83, 75, 49] ++ beB 1 8 ++ z32 ++ [0] ++ [0] ++ z32 = E at *
  have hdf := manDec_fn E (by omega) hE6
  rw [hE2, hM] at hdf
  rw [hE1, hM] at hef
  rw [hS1, hM] at hsf
  generalize (signM z32 awM).1 = S at *
  have hss := lawMSame_fn awM awM (by decide) (by decide) (by decide)
  rw [hM, sameM_self] at hss
  simp only [show ((0 : Nat) : Int) = 0 from rfl] at hdf hef
  refine AW.nilsOwnAt (.cell 1 2) 40 ?_
  refine AW.freeze (p := .cell 1 2) (by simp only [go_sem, ↓reduceIte, freeze, freezeO] <;> rfl) ?_
  refine AW.go ?_
  refine AW.callE (fun _ => 0) hef (.pv _ .nil) ?_
  refine AW.goM 9 ?_
  refine AW.freeze (p := .slot 14) (by simp only [go_sem, ↓reduceIte, freeze, freezeO] <;> rfl) ?_
  refine AW.go ?_
  refine AW.callE (fun _ => 0) hdf (.pv _ .nil) ?_
  refine AW.go ?_
  refine AW.any0 mixed ?_
  refine via (T := ?Tend2) (fun hT => ?_) ?_; rotate_left
  · skip
    refine AW.branch (fuel := 7) (rs := [0, 1]) ?_ (by decide +kernel) (by simp)
    intro j hj
    simp only [List.mem_cons, List.not_mem_nil, or_false] at hj
    rcases hj with rfl | rfl
    · skip
      refine AW.gg ?_ (by simp only [go_sem, ↓reduceIte, m32] <;> rfl)
      refine AW.seqs (fuel := 4) (listed' := #[true, true, true, true, false, false, false, false]) [1, 2, 3] ?_ (by decide +kernel)
      refine AW.gg ?_ (by simp only [go_sem, ↓reduceIte, m32] <;> rfl)
      refine AW.freeze (p := .slot 22) (by simp only [go_sem, ↓reduceIte, freeze, freezeO] <;> rfl) ?_
      refine AW.callE (fun _ => 0) hsf (.pv _ (.pv _ .nil)) ?_
      refine AW.gg ?_
      refine AW.takes (fuel := 0) [4, 5, 6, 7] ?_ (by simp only [go_sem, ↓reduceIte, m32] <;> rfl) Ends.noPanic (listed' := #[true, true, true, true, true, true, true, true]) (by decide +kernel) (by decide +kernel)
      refine AW.anyDone (by decide +kernel) ?_
      refine AW.keepB [1, 2, 3, 4, 5, 6, 7] [1, 4] (s' := ⟨64, [(1, .ptr 1 0), (2, .pv (.sl 1 (bytes E))), (3, .pv (.int .i64 0)), (4, .ptr 4 0), (5, .pv (.int .i64 0)), (6, .own 5 (bytes S)), (7, .pv (.int .i64 0))], [(1, .cells 26 [.pv (.int .u64 1), .pv (.sl 1 (bytes z32)), .pv (.sl 2 []), .pv (.sl 1 (bytes z32))]), (4, .cells 26 [.pv (.int .u64 1), .pv (.sl 1 (bytes z32)), .pv (.sl 2 []), .pv (.sl 1 (bytes z32))])]⟩) (by simp only [go_sem, ↓reduceIte]) (by simp only [go_sem, ↓reduceIte] <;> rfl) ?_
      exact hT ()
    · skip
      refine AW.gg ?_ (by simp only [go_sem, ↓reduceIte, m32] <;> rfl)
      refine AW.seqs (fuel := 4) (listed' := #[true, true, true, true, false, false, false, false]) [0, 2, 3] ?_ (by decide +kernel)
      refine AW.gg ?_ (by simp only [go_sem, ↓reduceIte, m32] <;> rfl)
      refine AW.freeze (p := .slot 22) (by simp only [go_sem, ↓reduceIte, freeze, freezeO] <;> rfl) ?_
      refine AW.callE (fun _ => 0) hsf (.pv _ (.pv _ .nil)) ?_
      refine AW.gg ?_
      refine AW.takes (fuel := 0) [4, 5, 6, 7] ?_ (by simp only [go_sem, ↓reduceIte, m32] <;> rfl) Ends.noPanic (listed' := #[true, true, true, true, true, true, true, true]) (by decide +kernel) (by decide +kernel)
      refine AW.anyDone (by decide +kernel) ?_
      refine AW.keepB [1, 2, 3, 4, 5, 6, 7] [1, 4] (s' := ⟨64, [(1, .ptr 1 0), (2, .pv (.sl 1 (bytes E))), (3, .pv (.int .i64 0)), (4, .ptr 4 0), (5, .pv (.int .i64 0)), (6, .own 5 (bytes S)), (7, .pv (.int .i64 0))], [(1, .cells 26 [.pv (.int .u64 1), .pv (.sl 1 (bytes z32)), .pv (.sl 2 []), .pv (.sl 1 (bytes z32))]), (4, .cells 26 [.pv (.int .u64 1), .pv (.sl 1 (bytes z32)), .pv (.sl 2 []), .pv (.sl 1 (bytes z32))])]⟩) (by simp only [go_sem, ↓reduceIte]) (by simp only [go_sem, ↓reduceIte] <;> rfl) ?_
      exact hT ()
  have d78 : ((E.length : Int) == 78) = true := by rw [hE3]; rfl
  have d110 : ((S.length : Int) == 110) = true := by rw [hS2]; rfl
  have l0 : (0 < E.length) = True := eq_true (by omega)
  have l11 : (11 < E.length) = True := eq_true (by omega)
  have g67 : ((67 : Int) == 67) = true := rfl
  have g1 : ((1 : Int) == 1) = true := rfl
  have g0 : ((0 : Int) == 0) = true := rfl
  refine AW.gg ?_ (by simp only [go_sem, ↓reduceIte, d78, d110, hE4, hE5, l0, l11, g67, g1, g0] <;> rfl)
  refine AW.guardT rfl rfl ?_
  refine AW.callE (fun _ => 0) hss (.pv _ (.pv _ .nil)) ?_
  refine AW.gg ?_ (by simp only [go_sem, ↓reduceIte, d110, g0] <;> rfl)
  refine AW.go ?_
  exact AW.finE (.pv _ .nil) rfl
end Go.Ck

set_option linter.unusedVariables false
set_option maxRecDepth 100000
set_option maxHeartbeats 400000
namespace Go.Ck
open Go.Proofs
theorem manP_mk (v : Nat) (p : List Nat) (es : List Ent) (r : List Nat) : manP ⟨v, p, es, r⟩ = .agg [.int .u64 (v : Int), .sl 1 (bytes p), .sl 2 (entsP es), .sl 1 (bytes r)] := rfl
end Go.Ck

set_option linter.unusedVariables false
set_option maxRecDepth 100000
set_option maxHeartbeats 400000
namespace Go.Ck
open Go.Proofs
theorem decM_small {b : List Nat} (hb : ∀ x ∈ b, x < 256) : (decM b).1.es.length ≤ 1048576 ∧ (decM b).1.prev.length ≤ 32 ∧ (decM b).1.root.length ≤ 32 := by
  by_cases h : (decM b).2 = 0
  · obtain ⟨hen, hv⟩ := decM_inv hb h
    have hw : wrongM (decM b).1 = 0 := by
      unfold encM at hen
      split at hen
      · rename_i h; rw [Prod.mk.injEq] at hen; exact hen.2
      · rename_i h; simpa using h
    obtain ⟨_, h2, h3, _, h5, _⟩ := wrongM_zero hw
    exact ⟨h5, by omega, by omega⟩
  · rw [decM_bad h]; exact ⟨Nat.zero_le _, Nat.zero_le _, Nat.zero_le _⟩
end Go.Ck

set_option linter.unusedVariables false
namespace Go.Ck
end Go.Ck

set_option linter.unusedVariables false
set_option maxRecDepth 100000
set_option maxHeartbeats 400000
namespace Go.Ck
open Go.Proofs
theorem check_fn (key b : List Nat) (hkb : ∀ x ∈ key, x < 256) (hl : b.length ≤ 2 ^ 40) (hb : ∀ x ∈ b, x < 256) : Fn Tryz.prog 8 [] [.pv (.sl 1 (bytes key)), .pv (.sl 1 (bytes b))] (fun rs H' => rs = [.pv (manP (checkM key b).1), .pv (.int .i64 (checkM key b).2)] ∧ H' = []) := by
  refine Fn.of_body (fn := Tryz.f8) (n := 43) (res := [.cell 4 26, .tmp 5]) (by kernel_rfl) rfl rfl rfl rfl rfl (fun C => ?_)
  have hroom : room = 140737488355328 := rfl
  have hkb2 := dk_lt key 4 []
  have hkl2 := dk_len key 4 []
  unfold checkM
  refine AW.go ?_
  refine AW.callE (fun _ => 0) (keyM_fn key hkb) (.pv _ .nil) ?_
  generalize dk key 4 [] = D at *
  obtain ⟨k, ke⟩ := D
  simp only at hkb2 hkl2
  simp only
  have e32 : IntKind.i64.wrap ((b.length : Int) - 32) = (b.length : Int) - 32 := wrap_i64_of (by omega) (by omega)
  by_cases hk0 : ke = 0
  · subst hk0
    have k0 : (((0 : Nat) : Int) != 0) = false := rfl
    rw [if_neg (by simp)]
    by_cases h32 : b.length < 32
    · rw [if_pos h32]
      have d1 : decide ((b.length : Int) - 32 < 0) = true := decide_eq_true (by omega)
      refine AW.go ?_ (by simp only [go_sem, ↓reduceIte, e32, k0] <;> rfl)
      refine AW.condF rfl ?_
      refine AW.go ?_ (by simp only [go_sem, ↓reduceIte, d1] <;> rfl)
      refine AW.condT rfl ?_
      refine AW.go ?_
      refine AW.nilsOwnAt (.cell 4 1) 5 ?_
      refine AW.freeze (p := .cell 4 1) (by simp only [go_sem, ↓reduceIte, freeze, freezeO] <;> rfl) ?_
      refine AW.nilsOwnAt (.cell 4 2) 40 ?_
      refine AW.freeze (p := .cell 4 2) (by simp only [go_sem, ↓reduceIte, freeze, freezeO] <;> rfl) ?_
      refine AW.nilsOwnAt (.cell 4 3) 5 ?_
      refine AW.freeze (p := .cell 4 3) (by simp only [go_sem, ↓reduceIte, freeze, freezeO] <;> rfl) ?_
      refine AW.finE (.pv _ (.pv _ .nil)) rfl
    rw [if_neg h32]
    obtain ⟨n, hn⟩ : ∃ n, b.length = n + 32 := ⟨b.length - 32, by omega⟩
    have hn2 : b.length - 32 = n := by omega
    rw [hn2]
    have e33 : IntKind.i64.wrap ((b.length : Int) - 32) = (n : Int) := by rw [e32]; omega
    have d1 : decide ((n : Int) < 0) = false := decide_eq_false (by omega)
    have hnl : (n ≤ b.length) = True := eq_true (by omega)
    have htk : (bytes b).take n = bytes (b.take n) := by rw [bytes_take]
    have hdr : (bytes b).drop n = bytes (b.drop n) := by rw [bytes_drop]
    have htB : (bytes (b.drop n)).take ((b.length : Int) - (n : Int)).toNat = bytes (b.drop n) := List.take_of_length_le (by rw [bytes_length, List.length_drop]; omega)
    have hcf := hCheck_fn k (b.take n) (b.drop n) hkb2 (by omega) (by rw [List.length_take]; omega) (fun x hx => hb x (List.mem_of_mem_drop hx))
    have hdf := manDec_fn (b.take n) (by rw [List.length_take]; omega) (fun x hx => hb x (List.mem_of_mem_take hx))
    refine AW.go ?_ (by simp only [go_sem, ↓reduceIte, e33, k0] <;> rfl)
    refine AW.condF rfl ?_
    refine AW.go ?_ (by simp only [go_sem, ↓reduceIte, d1] <;> rfl)
    refine AW.condF rfl ?_
    refine AW.go ?_
    refine AW.calmS ?_
    refine CK.reads [[], [], [], [28, 29], [], [], [31, 32]] ?_ (by simp only [go_sem, ↓reduceIte, hnl, htk, hdr, htB] <;> rfl)
    refine CK.call (ps := [.sl 1 (bytes k), .sl 1 (bytes (b.take n)), .sl 1 (bytes (b.drop n))]) [27, 30, 33] hcf ?_
    by_cases hmc : hmac k (b.take n) = b.drop n
    · rw [decide_eq_true hmc, if_neg (by simpa using hmc)]
      refine CK.reads [[34]] ?_ (by simp only [go_sem, ↓reduceIte] <;> rfl)
      refine CK.done (M := 9) 1 mixed ?_
      refine AW.seqs (fuel := 0) (listed' := Array.replicate 10 true) [9] ?_ (by decide +kernel)
      refine AW.gg ?_
      refine AW.anyDone (by decide +kernel) ?_
      refine AW.go ?_
      refine AW.condF rfl ?_
      generalize decM (b.take n) = D2 at *
      obtain ⟨⟨v2, p2, es2, r2⟩, e2⟩ := D2
      have hm := manP_mk v2 p2 es2 r2
      simp only at hdf
      rw [hm] at hdf
      simp only
      rw [hm]
      refine AW.go ?_ (by simp only [go_sem, ↓reduceIte, hnl, htk] <;> rfl)
      refine AW.callE (fun _ => 0) hdf (.pv _ .nil) ?_
      refine AW.go ?_
      refine AW.finE (.pv _ (.pv _ .nil)) rfl
    · rw [decide_eq_false hmc, if_pos hmc]
      refine CK.reads [[34]] ?_ (by simp only [go_sem, ↓reduceIte] <;> rfl)
      refine CK.done (M := 9) 1 mixed ?_
      refine AW.seqs (fuel := 0) (listed' := Array.replicate 10 true) [9] ?_ (by decide +kernel)
      refine AW.gg ?_
      refine AW.anyDone (by decide +kernel) ?_
      refine AW.go ?_
      refine AW.condT rfl ?_
      refine AW.go ?_
      refine AW.nilsOwnAt (.cell 4 1) 5 ?_
      refine AW.freeze (p := .cell 4 1) (by simp only [go_sem, ↓reduceIte, freeze, freezeO] <;> rfl) ?_
      refine AW.nilsOwnAt (.cell 4 2) 40 ?_
      refine AW.freeze (p := .cell 4 2) (by simp only [go_sem, ↓reduceIte, freeze, freezeO] <;> rfl) ?_
      refine AW.nilsOwnAt (.cell 4 3) 5 ?_
      refine AW.freeze (p := .cell 4 3) (by simp only [go_sem, ↓reduceIte, freeze, freezeO] <;> rfl) ?_
      refine AW.finE (.pv _ (.pv _ .nil)) rfl
  · have k0 : ((ke : Int) != 0) = true := by rw [bne_iff_ne]; omega
    rw [if_pos hk0]
    refine AW.go ?_ (by simp only [go_sem, ↓reduceIte, e32, k0] <;> rfl)
    refine AW.condT rfl ?_
    refine AW.go ?_
    refine AW.nilsOwnAt (.cell 4 1) 5 ?_
    refine AW.freeze (p := .cell 4 1) (by simp only [go_sem, ↓reduceIte, freeze, freezeO] <;> rfl) ?_
    refine AW.nilsOwnAt (.cell 4 2) 40 ?_
    refine AW.freeze (p := .cell 4 2) (by simp only [go_sem, ↓reduceIte, freeze, freezeO] <;> rfl) ?_
    refine AW.nilsOwnAt (.cell 4 3) 5 ?_
    refine AW.freeze (p := .cell 4 3) (by simp only [go_sem, ↓reduceIte, freeze, freezeO] <;> rfl) ?_
    refine AW.finE (.pv _ (.pv _ .nil)) rfl
end Go.Ck

set_option linter.unusedVariables false
namespace Go.Ck
theorem signM_len (key : List Nat) (m : Man) (hv : m.v < 2 ^ 64) : (signM key m).1.length ≤ 2 ^ 28 + 32 := by
  have := encM_len m hv
  unfold signM
  split
  · simp
  · split
    · simp
    · rw [List.length_append, hmac_len]; omega
end Go.Ck

set_option linter.unusedVariables false
set_option maxRecDepth 100000
set_option maxHeartbeats 400000
namespace Go.Ck
open Go.Proofs
theorem refSign_fn (key : List Nat) (m : Man) (hv : m.v < 2 ^ 64) (hl : m.es.length < 2 ^ 29) (hkb : ∀ x ∈ key, x < 256) : Fn Tryz.prog 7 [] [.pv (.sl 1 (bytes key)), .pv (manP m)] (fun rs H' => rs = [.own 5 (bytes (signM key m).1), .pv (.int .i64 (signM key m).2)] ∧ H' = []) := by
  refine Fn.of_body (fn := Tryz.f7) (n := 30) (res := [.tmp 4, .tmp 5]) (by kernel_rfl) rfl rfl rfl rfl rfl (fun C => ?_)
  have hroom : room = 140737488355328 := rfl
  have hm : manP m = .agg [.int .u64 (m.v : Int), .sl 1 (bytes m.prev), .sl 2 (entsP m.es), .sl 1 (bytes m.root)] := rfl
  have hef := ref21Enc_fn m hv hl
  have hel := encM_len m hv
  have hkb2 := dk_lt key 4 []
  have hkl2 := dk_len key 4 []
  rw [hm] at hef ⊢
  unfold signM
  generalize encM m = E at *
  obtain ⟨en, ee⟩ := E
  simp only at hef hel
  refine AW.go ?_
  refine AW.callE (fun _ => 0) (keyM18_fn key hkb) (.pv _ .nil) ?_
  generalize dk key 4 [] = D at *
  obtain ⟨k, ke⟩ := D
  simp only at hkb2 hkl2
  simp only
  refine AW.go ?_
  refine AW.cond rfl (fun hc => ?_) (fun hc => ?_)
  · have hk0 : ke ≠ 0 := by rintro rfl; exact absurd hc (by decide)
    rw [if_pos hk0]
    refine AW.go ?_
    refine AW.finE (.move rfl (.pv _ .nil)) rfl
  have hk0 : ke = 0 := by
    have h2 : ((ke : Int) == 0) = true := by simpa [bne] using hc
    have := eq_of_beq h2
    omega
  rw [if_neg (by simp [hk0])]
  refine AW.go ?_
  refine AW.callE (fun _ => 0) hef (.pv _ .nil) ?_
  refine AW.go ?_
  refine AW.cond rfl (fun hc => ?_) (fun hc => ?_)
  · have he0 : ee ≠ 0 := by rintro rfl; exact absurd hc (by decide)
    rw [if_pos he0]
    refine AW.go ?_
    refine AW.finE (.move rfl (.pv _ .nil)) rfl
  have he0 : ee = 0 := by
    have h2 : ((ee : Int) == 0) = true := by simpa [bne] using hc
    have := eq_of_beq h2
    omega
  rw [if_neg (by simp [he0])]
  refine AW.go ?_
  refine AW.callE (args := [.pv (.sl 1 (bytes k)), .pv (.sl 1 (bytes en))]) (fun _ => 0) (mac14_fn k en hkb2 (by omega) (by omega)) (.pv _ (.lend rfl co_5 .nil)) ?_
  have hml := hmac_len k en
  have r1 : (en.length + (hmac k en).length ≤ room) = True := eq_true (by omega)
  refine AW.go ?_ (by simp only [go_sem, ↓reduceIte, r1] <;> rfl)
  refine AW.finE (.move rfl (.pv _ .nil)) rfl

theorem refCheck_fn (key b : List Nat) (hkb : ∀ x ∈ key, x < 256) (hl : b.length ≤ 2 ^ 28) (hb : ∀ x ∈ b, x < 256) : Fn Tryz.prog 9 [] [.pv (.sl 1 (bytes key)), .pv (.sl 1 (bytes b))] (fun rs H' => rs = [.pv (manP (checkM key b).1), .pv (.int .i64 (checkM key b).2)] ∧ H' = []) := by
  refine Fn.of_body (fn := Tryz.f9) (n := 40) (res := [.cell 4 26, .tmp 5]) (by kernel_rfl) rfl rfl rfl rfl rfl (fun C => ?_)
  have hroom : room = 140737488355328 := rfl
  have hkb2 := dk_lt key 4 []
  have hkl2 := dk_len key 4 []
  unfold checkM
  refine AW.go ?_
  refine AW.callE (fun _ => 0) (keyM18_fn key hkb) (.pv _ .nil) ?_
  generalize dk key 4 [] = D at *
  obtain ⟨k, ke⟩ := D
  simp only at hkb2 hkl2
  simp only
  have e32 : IntKind.i64.wrap ((b.length : Int) - 32) = (b.length : Int) - 32 := wrap_i64_of (by omega) (by omega)
  by_cases hk0 : ke = 0
  · subst hk0
    have k0 : (((0 : Nat) : Int) != 0) = false := rfl
    rw [if_neg (by simp)]
    by_cases h32 : b.length < 32
    · rw [if_pos h32]
      have d1 : decide ((b.length : Int) - 32 < 0) = true := decide_eq_true (by omega)
      refine AW.go ?_ (by simp only [go_sem, ↓reduceIte, e32, k0] <;> rfl)
      refine AW.condF rfl ?_
      refine AW.go ?_ (by simp only [go_sem, ↓reduceIte, e32, d1] <;> rfl)
      refine AW.condT rfl ?_
      refine AW.go ?_
      refine AW.nilsOwnAt (.cell 4 1) 5 ?_
      refine AW.freeze (p := .cell 4 1) (by simp only [go_sem, ↓reduceIte, freeze, freezeO] <;> rfl) ?_
      refine AW.nilsOwnAt (.cell 4 2) 40 ?_
      refine AW.freeze (p := .cell 4 2) (by simp only [go_sem, ↓reduceIte, freeze, freezeO] <;> rfl) ?_
      refine AW.nilsOwnAt (.cell 4 3) 5 ?_
      refine AW.freeze (p := .cell 4 3) (by simp only [go_sem, ↓reduceIte, freeze, freezeO] <;> rfl) ?_
      refine AW.finE (.pv _ (.pv _ .nil)) rfl
    rw [if_neg h32]
    obtain ⟨n, hn⟩ : ∃ n, b.length = n + 32 := ⟨b.length - 32, by omega⟩
    have hn2 : b.length - 32 = n := by omega
    rw [hn2]
    have e33 : IntKind.i64.wrap ((b.length : Int) - 32) = (n : Int) := by rw [e32]; omega
    have d1 : decide ((n : Int) < 0) = false := decide_eq_false (by omega)
    have hnl : (n ≤ b.length) = True := eq_true (by omega)
    have htk : (bytes b).take n = bytes (b.take n) := by rw [bytes_take]
    have hdr : (bytes b).drop n = bytes (b.drop n) := by rw [bytes_drop]
    have htB : (bytes (b.drop n)).take ((b.length : Int) - (n : Int)).toNat = bytes (b.drop n) := List.take_of_length_le (by rw [bytes_length, List.length_drop]; omega)
    have hcf := check14_fn k (b.take n) (b.drop n) hkb2 (by omega) (by rw [List.length_take]; omega)
    have hdf := refDec_fn (b.take n) (by rw [List.length_take]; omega) (fun x hx => hb x (List.mem_of_mem_take hx))
    rw [refD_dec (fun x hx => hb x (List.mem_of_mem_take hx))] at hdf
    refine AW.go ?_ (by simp only [go_sem, ↓reduceIte, e33, k0] <;> rfl)
    refine AW.condF rfl ?_
    refine AW.go ?_ (by simp only [go_sem, ↓reduceIte, e33, d1] <;> rfl)
    refine AW.condF rfl ?_
    refine AW.go ?_
    refine AW.calmS ?_
    refine CK.reads [[], [], [], [25, 26], [], [], [28, 29]] ?_ (by simp only [go_sem, ↓reduceIte, hnl, htk, hdr, htB] <;> rfl)
    refine CK.call (ps := [.sl 1 (bytes k), .sl 1 (bytes (b.take n)), .sl 1 (bytes (b.drop n))]) [24, 27, 30] hcf ?_
    by_cases hmc : hmac k (b.take n) = b.drop n
    · rw [decide_eq_true hmc, if_neg (by simpa using hmc)]
      refine CK.done (M := 8) 1 mixed ?_
      refine AW.seqs (fuel := 0) (listed' := Array.replicate 9 true) [8] ?_ (by decide +kernel)
      refine AW.gg ?_
      refine AW.anyDone (by decide +kernel) ?_
      refine AW.go ?_
      refine AW.condF rfl ?_
      generalize decM (b.take n) = D2 at *
      obtain ⟨⟨v2, p2, es2, r2⟩, e2⟩ := D2
      have hm := manP_mk v2 p2 es2 r2
      simp only at hdf
      rw [hm] at hdf
      simp only
      rw [hm]
      refine AW.go ?_ (by simp only [go_sem, ↓reduceIte, hnl, htk] <;> rfl)
      refine AW.callE (fun _ => 0) hdf (.pv _ .nil) ?_
      refine AW.go ?_
      refine AW.finE (.pv _ (.pv _ .nil)) rfl
    · rw [decide_eq_false hmc, if_pos hmc]
      refine CK.done (M := 8) 1 mixed ?_
      refine AW.seqs (fuel := 0) (listed' := Array.replicate 9 true) [8] ?_ (by decide +kernel)
      refine AW.gg ?_
      refine AW.anyDone (by decide +kernel) ?_
      refine AW.go ?_
      refine AW.condT rfl ?_
      refine AW.go ?_
      refine AW.nilsOwnAt (.cell 4 1) 5 ?_
      refine AW.freeze (p := .cell 4 1) (by simp only [go_sem, ↓reduceIte, freeze, freezeO] <;> rfl) ?_
      refine AW.nilsOwnAt (.cell 4 2) 40 ?_
      refine AW.freeze (p := .cell 4 2) (by simp only [go_sem, ↓reduceIte, freeze, freezeO] <;> rfl) ?_
      refine AW.nilsOwnAt (.cell 4 3) 5 ?_
      refine AW.freeze (p := .cell 4 3) (by simp only [go_sem, ↓reduceIte, freeze, freezeO] <;> rfl) ?_
      refine AW.finE (.pv _ (.pv _ .nil)) rfl
  · have k0 : ((ke : Int) != 0) = true := by rw [bne_iff_ne]; omega
    rw [if_pos hk0]
    refine AW.go ?_ (by simp only [go_sem, ↓reduceIte, e32, k0] <;> rfl)
    refine AW.condT rfl ?_
    refine AW.go ?_
    refine AW.nilsOwnAt (.cell 4 1) 5 ?_
    refine AW.freeze (p := .cell 4 1) (by simp only [go_sem, ↓reduceIte, freeze, freezeO] <;> rfl) ?_
    refine AW.nilsOwnAt (.cell 4 2) 40 ?_
    refine AW.freeze (p := .cell 4 2) (by simp only [go_sem, ↓reduceIte, freeze, freezeO] <;> rfl) ?_
    refine AW.nilsOwnAt (.cell 4 3) 5 ?_
    refine AW.freeze (p := .cell 4 3) (by simp only [go_sem, ↓reduceIte, freeze, freezeO] <;> rfl) ?_
    refine AW.finE (.pv _ (.pv _ .nil)) rfl

theorem law21signs_fn (key : List Nat) (m : Man) (b : List Nat) (hkl : key.length ≤ maxLen) (hkb : ∀ x ∈ key, x < 256) (hv : m.v < 2 ^ 64) (hl : m.es.length < 2 ^ 63) (hbl : b.length ≤ maxLen) (hb : ∀ x ∈ b, x < 256) :
    Fn Tryz.prog 3 [] [.pv (.sl 1 (bytes key)), .pv (manP m), .pv (.sl 1 (bytes b))] (fun rs H' => rs = [.pv (.bool true)] ∧ H' = []) := by
  refine Fn.of_body (fn := Tryz.f3) (n := 76) (res := [.tmp 6]) (by kernel_rfl) rfl rfl rfl rfl rfl (fun C => ?_)
  have hroom : room = 140737488355328 := rfl
  have hff := few_fn m hl
  have hm : manP m = .agg [.int .u64 (m.v : Int), .sl 1 (bytes m.prev), .sl 2 (entsP m.es), .sl 1 (bytes m.root)] := rfl
  rw [hm] at hff ⊢
  refine AW.go ?_
  refine AW.callE (fun _ => 0) awake_fn .nil ?_
  refine AW.go ?_
  refine AW.callE (fun _ => 0) hff (.pv _ .nil) ?_
  have d1 : decide ((key.length : Int) > 300) = decide (300 < key.length) := by rw [Bool.eq_iff_iff]; simp; omega
  have d2 : decide ((b.length : Int) > 1000) = decide (1000 < b.length) := by rw [Bool.eq_iff_iff]; simp; omega
  by_cases hall : fewM m = true ∧ ¬ 300 < key.length ∧ ¬ 1000 < b.length
  rotate_left
  · refine via (T := ?Tx) (fun hT => ?_) ?_; rotate_left
    · cases hfb : fewM m with
      | false =>
        refine AW.gg ?_
        refine AW.condT rfl ?_
        refine AW.keepB [7] [] (s' := ⟨76, [(7, .pv (.bool true))], []⟩) (by simp only [go_sem, ↓reduceIte]) (by simp only [go_sem, ↓reduceIte] <;> rfl) ?_
        exact hT ()
      | true =>
        by_cases hk3 : 300 < key.length
        · rw [decide_eq_true hk3] at d1
          refine AW.gg ?_ (by simp only [go_sem, ↓reduceIte, d1] <;> rfl)
          refine AW.condT rfl ?_
          refine AW.keepB [7] [] (s' := ⟨76, [(7, .pv (.bool true))], []⟩) (by simp only [go_sem, ↓reduceIte]) (by simp only [go_sem, ↓reduceIte] <;> rfl) ?_
          exact hT ()
        · have hb1 : 1000 < b.length := Classical.byContradiction fun h => hall ⟨hfb, hk3, h⟩
          rw [decide_eq_false hk3] at d1
          rw [decide_eq_true hb1] at d2
          refine AW.gg ?_ (by simp only [go_sem, ↓reduceIte, d1, d2] <;> rfl)
          refine AW.condT rfl ?_
          refine AW.keepB [7] [] (s' := ⟨76, [(7, .pv (.bool true))], []⟩) (by simp only [go_sem, ↓reduceIte]) (by simp only [go_sem, ↓reduceIte] <;> rfl) ?_
          exact hT ()
    refine AW.go ?_
    exact AW.finE (.pv _ .nil) rfl
  obtain ⟨hfb, hk3, hb1⟩ := hall
  rw [hfb]
  rw [decide_eq_false hk3] at d1
  rw [decide_eq_false hb1] at d2
  have f1 : m.es.length ≤ 100 := by unfold fewM at hfb; exact (of_decide_eq_true hfb).1
  have hsf := sign_fn key m hv (by omega) hkb
  have hrf := refSign_fn key m hv (by omega) hkb
  have hS1 := signM_len key m hv
  rw [hm] at hsf hrf
  have hcf := check_fn key b hkb (by omega) hb
  have hrc := refCheck_fn key b hkb (by omega) hb
  have hsm : (checkM key b).1.es.length ≤ 1048576 ∧ (checkM key b).1.prev.length ≤ 32 ∧ (checkM key b).1.root.length ≤ 32 := by
    unfold checkM
    split
    · exact ⟨Nat.zero_le _, Nat.zero_le _, Nat.zero_le _⟩
    · split
      · exact ⟨Nat.zero_le _, Nat.zero_le _, Nat.zero_le _⟩
      · split
        · exact ⟨Nat.zero_le _, Nat.zero_le _, Nat.zero_le _⟩
        · exact decM_small (fun x hx => hb x (List.mem_of_mem_take hx))
  obtain ⟨hs1, hs2, hs3⟩ := hsm
  generalize signM key m = SG at *
  obtain ⟨L, e⟩ := SG
  generalize checkM key b = D at *
  obtain ⟨⟨v, p, es, r⟩, e2⟩ := D
  simp only at hsf hrf hS1 hcf hrc hs1 hs2 hs3
  have hlm := lawMSame_fn ⟨v, p, es, r⟩ ⟨v, p, es, r⟩ (by simp only; omega) (by simp only; omega) (by simp only; omega)
  rw [sameM_self] at hlm
  have hm2 := manP_mk v p es r
  rw [hm2] at hcf hrc hlm
  have de : (e == e) = true := beq_self_eq_true e
  have de2 : (e2 == e2) = true := beq_self_eq_true e2
  refine AW.gg ?_ (by simp only [go_sem, ↓reduceIte, d1, d2] <;> rfl)
  refine AW.condF rfl ?_
  refine AW.go ?_
  refine AW.callE (fun _ => 0) hsf (.pv _ (.pv _ .nil)) ?_
  refine AW.go ?_
  refine AW.freeze (p := .slot 8) (by simp only [go_sem, ↓reduceIte, freeze, freezeO] <;> rfl) ?_
  refine AW.callE (fun _ => 0) hrf (.pv _ (.pv _ .nil)) ?_
  refine AW.go ?_
  refine AW.freeze (p := .slot 10) (by simp only [go_sem, ↓reduceIte, freeze, freezeO] <;> rfl) ?_
  refine AW.callE (fun _ => 0) hcf (.pv _ (.pv _ .nil)) ?_
  refine AW.go ?_
  refine AW.callE (fun _ => 0) hrc (.pv _ (.pv _ .nil)) ?_
  refine AW.go ?_
  refine AW.gg ?_ (by simp only [go_sem, ↓reduceIte, de] <;> rfl)
  refine AW.guardT rfl rfl ?_
  refine AW.callE (fun _ => 0) (ref01Same_fn L L (by omega)) (.pv _ (.pv _ .nil)) ?_
  try rw [decide_eq_true (rfl : L = L)]
  refine AW.gg ?_ (by simp only [go_sem, ↓reduceIte, de2] <;> rfl)
  refine AW.guardT rfl rfl ?_
  refine AW.callE (fun _ => 0) hlm (.pv _ (.pv _ .nil)) ?_
  refine AW.gg ?_
  exact AW.finE (.pv _ .nil) rfl
end Go.Ck

set_option linter.unusedVariables false
namespace Go.Ck
def stTypes (P : Program) (t : TypeId) : Option (List TypeId) := match P.underlying t with
  | some (.struct fs) => some (fs.toList.map (·.type))
  | _ => none
section
variable {P : Program} {n : Nat} {t : TypeId} {p : PV}
theorem PT_st2 {a b : TypeId} (hu : stTypes P t = some [a, b]) (h : PT P (n + 1) t p.cells) (h1 : p.one = !isAggT P t) : ∃ ps qs, p = .agg (ps ++ qs) ∧ PT P n a ps ∧ PT P n b qs := by
  unfold stTypes at hu
  unfold isAggT at h1
  unfold PT at h
  split at hu
  · rename_i fs hus
    rw [hus] at h1 h
    simp only [Option.some.injEq] at hu
    obtain ⟨pss, e1, e2, e3⟩ := h
    have hl : fs.toList.length = 2 := by have := congrArg List.length hu; simpa using this
    match hfl : fs.toList, hl with
    | [f, g], _ =>
      rw [hfl] at hu
      simp only [List.map_cons, List.map_nil, List.cons.injEq, and_true] at hu
      have hsz : fs.size = 2 := by rw [← Array.length_toList, hfl]; rfl
      have hf : fs[0]? = some f := by rw [← Array.getElem?_toList, hfl]; rfl
      have hg : fs[1]? = some g := by rw [← Array.getElem?_toList, hfl]; rfl
      match pss, (by rw [e2, hsz] : pss.length = 2) with
      | [ps, qs], _ =>
        have k1 := (e3 0 f ps hf rfl).1
        have k2 := (e3 1 g qs hg rfl).1
        rw [hu.1] at k1
        rw [hu.2] at k2
        refine ⟨ps, qs, ?_, k1, k2⟩
        simp only [List.flatten_cons, List.flatten_nil, List.append_nil] at e1
        cases p <;> simp [PV.one] at h1
        simp only [PV.cells] at e1
        rw [e1]
  · cases hu
theorem PTc_int {k : IntKind} {ps : List PV} (hu : P.underlying t = some (.int k)) (h : PT P (n + 1) t ps) : ∃ m, ps = [.int k m] ∧ (Lit.int k m).wf = true := by
  unfold PT at h
  rw [hu] at h
  exact h
theorem PTc_u64 {ps : List PV} (hu : P.underlying t = some (.int .u64)) (h : PT P (n + 1) t ps) : ∃ v : Nat, ps = [.int .u64 v] ∧ v < 2 ^ 64 := by
  obtain ⟨m, rfl, hm⟩ := PTc_int hu h
  obtain ⟨r, hr, h4⟩ := nats_of (k := .u64) rfl [m] (by simpa using hm)
  match r, hr with
  | [a], hr => simp at hr; subst hr; exact ⟨a, rfl, h4 a (by simp)⟩
theorem PTc_str {ps : List PV} (hu : P.underlying t = some .string) (h : PT P (n + 1) t ps) : ∃ s, ps = [.str s] ∧ s.length ≤ maxLen := by
  unfold PT at h
  rw [hu] at h
  exact h
theorem PTc_slice {e : TypeId} {ps : List PV} (hu : P.underlying t = some (.slice e)) (h : PT P (n + 1) t ps) : ∃ xs, ps = [.sl (P.cellsOf e) xs] ∧ xs.length ≤ maxLen ∧ ∀ x ∈ xs, PT P n e x.cells ∧ x.one = !isAggT P e := by
  unfold PT at h
  rw [hu] at h
  exact h
theorem sms_of {a b e : TypeId} (hu : stTypes P e = some [a, b]) (ha : P.underlying a = some (.int .i64)) (hb : P.underlying b = some (.int .u64)) : ∀ xs : List PV, (∀ x ∈ xs, PT P (n + 2) e x.cells ∧ x.one = !isAggT P e) → ∃ l : List Sm, xs = sms l ∧ smOK l
  | [], _ => ⟨[], rfl, by intro x hx; cases hx⟩
  | x :: r, h => by
    obtain ⟨ps, qs, rfl, k1, k2⟩ := PT_st2 (n := n + 1) hu (h x (by simp)).1 (h x (by simp)).2
    obtain ⟨m, rfl, hm⟩ := PTc_int ha k1
    obtain ⟨v, rfl, hv⟩ := PTc_u64 hb k2
    obtain ⟨l, rfl, hl⟩ := sms_of hu ha hb r (fun y hy => h y (by simp [hy]))
    refine ⟨(m, v) :: l, rfl, fun y hy => ?_⟩
    rcases List.mem_cons.1 hy with rfl | hy
    · exact ⟨wf_i64 hm, hv⟩
    · exact hl y hy
theorem PT_chunk {s l e a b : TypeId} (hu : stTypes P t = some [s, l]) (hs : P.underlying s = some .string) (hl : P.underlying l = some (.slice e)) (hc : P.cellsOf e = 2) (he : stTypes P e = some [a, b]) (ha : P.underlying a = some (.int .i64)) (hb : P.underlying b = some (.int .u64))
    (h : PT P (n + 4) t p.cells) (h1 : p.one = !isAggT P t) : ∃ (c : List UInt8) (xs : List Sm), p = chP (c, xs) ∧ c.length ≤ maxLen ∧ smOK xs := by
  obtain ⟨ps, qs, rfl, k1, k2⟩ := PT_st2 (n := n + 3) hu h h1
  obtain ⟨c, rfl, hcl⟩ := PTc_str hs k1
  obtain ⟨xs, rfl, _, hx⟩ := PTc_slice hl k2
  obtain ⟨r, rfl, hr⟩ := sms_of he ha hb xs hx
  exact ⟨c, r, by rw [hc]; rfl, hcl, hr⟩
end
end Go.Ck

set_option linter.unusedVariables false
namespace Go.Ck
section
variable {P : Program} {n : Nat} {t : TypeId} {p : PV}
theorem PT_st {ts : List TypeId} (hu : stTypes P t = some ts) (h : PT P (n + 1) t p.cells) (h1 : p.one = !isAggT P t) : ∃ pss : List (List PV), p = .agg pss.flatten ∧ pss.length = ts.length ∧ ∀ (i : Nat) (a : TypeId) (ps : List PV), ts[i]? = some a → pss[i]? = some ps → PT P n a ps := by
  unfold stTypes at hu
  unfold isAggT at h1
  unfold PT at h
  split at hu
  · rename_i fs hus
    rw [hus] at h1 h
    simp only [Option.some.injEq] at hu
    obtain ⟨pss, e1, e2, e3⟩ := h
    refine ⟨pss, ?_, by rw [e2, ← hu]; simp, fun i a ps hi hp => ?_⟩
    · cases p <;> simp [PV.one] at h1
      simp only [PV.cells] at e1
      rw [e1]
    · rw [← hu, List.getElem?_map] at hi
      cases hf : fs.toList[i]? with
      | none => rw [hf] at hi; cases hi
      | some f =>
        rw [hf] at hi
        cases hi
        exact (e3 i f ps (by rw [← Array.getElem?_toList, hf]) hp).1
  · cases hu
theorem ents_of {a b e : TypeId} (hu : stTypes P e = some [a, b]) (ha : P.underlying a = some .string) (hb : P.underlying b = some (.int .i64)) : ∀ xs : List PV, (∀ x ∈ xs, PT P (n + 2) e x.cells ∧ x.one = !isAggT P e) → ∃ l : List Ent, xs = entsP l
  | [], _ => ⟨[], rfl⟩
  | x :: r, h => by
    obtain ⟨ps, qs, rfl, k1, k2⟩ := PT_st2 (n := n + 1) hu (h x (by simp)).1 (h x (by simp)).2
    obtain ⟨s, rfl, _⟩ := PTc_str ha k1
    obtain ⟨m, rfl, _⟩ := PTc_int hb k2
    obtain ⟨l, rfl⟩ := ents_of hu ha hb r (fun y hy => h y (by simp [hy]))
    exact ⟨(s, m) :: l, rfl⟩
theorem PTc_bytes {u : TypeId} {ps : List PV} {e : TypeId} (hu : P.underlying u = some (.slice e)) (he : P.underlying e = some (.int .u8)) (hc : P.cellsOf e = 1) (ha : isAggT P u = false) (h : PT P (n + 3) u ps) : ∃ l : List Nat, ps = [.sl 1 (bytes l)] ∧ l.length ≤ maxLen ∧ ∀ x ∈ l, x < 256 := by
  obtain ⟨xs, rfl, h2, h3⟩ := PTc_slice hu h
  obtain ⟨l, e1, e2, e3⟩ := PT_bytes (n := n + 1) (p := .sl (P.cellsOf e) xs) hu he hc h (by rw [ha]; rfl)
  rw [e1]
  exact ⟨l, rfl, e2, e3⟩
theorem PT_man {u b l e s i : TypeId} (hu : stTypes P t = some [u, b, l, b]) (h64 : P.underlying u = some (.int .u64)) (hb : P.underlying b = some (.slice e)) (he : P.underlying e = some (.int .u8)) (hc : P.cellsOf e = 1) (hab : isAggT P b = false)
    {en : TypeId} (hl : P.underlying l = some (.slice en)) (hce : P.cellsOf en = 2) (hen : stTypes P en = some [s, i]) (hs : P.underlying s = some .string) (hi : P.underlying i = some (.int .i64))
    (h : PT P (n + 4) t p.cells) (h1 : p.one = !isAggT P t) : ∃ m : Man, p = manP m ∧ m.v < 2 ^ 64 ∧ m.es.length ≤ maxLen ∧ m.prev.length ≤ maxLen ∧ m.root.length ≤ maxLen ∧ (∀ x ∈ m.prev, x < 256) ∧ (∀ x ∈ m.root, x < 256) := by
  obtain ⟨pss, rfl, e2, e3⟩ := PT_st (n := n + 3) hu h h1
  match pss, e2 with
  | [p1, p2, p3, p4], _ =>
    obtain ⟨v, rfl, hv⟩ := PTc_u64 h64 (e3 0 u p1 rfl rfl)
    obtain ⟨pv, rfl, hp1, hp2⟩ := PTc_bytes (n := n) hb he hc hab (e3 1 b p2 rfl rfl)
    obtain ⟨xs, rfl, hx1, hx2⟩ := PTc_slice hl (e3 2 l p3 rfl rfl)
    obtain ⟨rt, rfl, hr1, hr2⟩ := PTc_bytes (n := n) hb he hc hab (e3 3 b p4 rfl rfl)
    obtain ⟨es, rfl⟩ := ents_of hen hs hi xs hx2
    refine ⟨⟨v, pv, es, rt⟩, ?_, hv, by simpa [entsP_len] using hx1, hp1, hr1, hp2, hr2⟩
    rw [hce]; rfl
theorem PA4 {P : Program} {N : Nat} {t u v x : TypeId} {pl : List PV} (h : PA P N [t, u, v, x] pl) : ∃ p q r s, pl = [p, q, r, s] ∧ (PT P N t p.cells ∧ p.one = !isAggT P t) ∧ (PT P N u q.cells ∧ q.one = !isAggT P u) ∧ (PT P N v r.cells ∧ r.one = !isAggT P v) ∧ (PT P N x s.cells ∧ s.one = !isAggT P x) := by
  obtain ⟨h1, h2⟩ := h
  match pl, h1 with
  | [p, q, r, s], _ => exact ⟨p, q, r, s, rfl, h2 0 _ _ rfl rfl, h2 1 _ _ rfl rfl, h2 2 _ _ rfl rfl, h2 3 _ _ rfl rfl⟩
end
end Go.Ck
