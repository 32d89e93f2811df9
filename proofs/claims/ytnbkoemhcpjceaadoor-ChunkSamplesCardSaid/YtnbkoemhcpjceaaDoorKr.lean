/- What is proved here: parts of the proofs of this seat's statements (a verified evaluator for calls over pure values, its laws, and contracts of functions). No condition. -/
import Derived.Test.YtnbkoemhcpjceaaDoorKq
import Derived.Test.YtnbkoemhcpjceaaDoorKl
import Derived.Test.YtnbkoemhcpjceaaDoorKk
import Derived.Test.YtnbkoemhcpjceaaDoorKm
import Derived.Test.YtnbkoemhcpjceaaDoorKj
set_option linter.all false
set_option linter.unusedVariables false
set_option maxRecDepth 10000
set_option maxHeartbeats 1000000
namespace Go.Ck
open Go.Proofs
theorem chunkEnc_fn (t : List UInt8) (xs : List Sm) (ht : t.length ≤ maxLen) (hx : smOK xs) : Fn Tryd.prog 24 [] [.pv (chP (t, xs))]
    (fun rs H' => rs = [.own 5 (bytes (encC t xs).1), .pv (.int .i64 (encC t xs).2)] ∧ H' = []) := by
  refine Fn.of_body (fn := Tryd.f24) (n := 71) (res := [.tmp 2, .tmp 3]) (by kernel_rfl) rfl rfl rfl rfl rfl (fun C => ?_)
  have hr : room = 140737488355328 := rfl
  have hc : chP (t, xs) = .agg [.str t, .sl 2 (sms xs)] := rfl
  rw [hc]
  unfold encC
  by_cases h1 : 64 < t.length
  · have d1 : decide ((t.length : Int) > 64) = true := decide_eq_true (by omega)
    refine AW.gg ?_ (by simp only [go_sem, ↓reduceIte, d1] <;> rfl)
    refine AW.condT rfl ?_
    rw [if_pos (.inl h1)]
    refine AW.go ?_
    refine AW.finE (.move rfl (.pv _ .nil)) rfl
  have d1 : decide ((t.length : Int) > 64) = false := decide_eq_false (by omega)
  by_cases h2 : 65536 < xs.length
  · have d2 : decide ((xs.length : Int) > 65536) = true := decide_eq_true (by omega)
    refine AW.gg ?_ (by simp only [go_sem, ↓reduceIte, d1, d2, sms_len] <;> rfl)
    refine AW.condT rfl ?_
    rw [if_pos (.inr h2)]
    refine AW.go ?_
    refine AW.finE (.move rfl (.pv _ .nil)) rfl
  have d2 : decide ((xs.length : Int) > 65536) = false := decide_eq_false (by omega)
  refine AW.gg ?_ (by simp only [go_sem, ↓reduceIte, d1, d2, sms_len] <;> rfl)
  refine AW.condF rfl ?_
  rw [if_neg (by omega)]
  refine AW.go ?_ (by simp only [go_sem, ↓reduceIte, sms_len] <;> rfl)
  refine AW.loopS (fun p : Nat × List Int × List Nat => ⟨71, [(26, .pv (.int .i64 p.1)), (25, .pv (.int .i64 xs.length)), (24, .pv (.sl 2 (sms xs))), (1, .ptr 1 0), (4, .own 3 (ints p.2.1)), (5, .own 38 (u64s p.2.2))], [(1, .cells 42 [.pv (.str t), .pv (.sl 2 (sms xs))])]⟩) (fun p => p.1 ≤ xs.length ∧ p.2.1 = (xs.map Prod.fst).take p.1 ∧ p.2.2 = (xs.map Prod.snd).take p.1) (fun p => xs.length - p.1) [26, 25, 24, 1, 4, 5] [1] (0, [], []) ⟨Nat.zero_le _, rfl, rfl⟩ ?_
  rintro ⟨i, A, B⟩ ⟨hi, hA, hB⟩ K hK
  simp only at hi hA hB
  refine AW.go ?_
  refine AW.cond rfl (fun hc => ?_) (fun hc => ?_)
  · have hlt : i < xs.length := by simpa using hc
    have hg : (sms xs)[i]? = some (.agg [.int .i64 xs[i].1, .int .u64 (xs[i].2 : Nat)]) := by unfold sms; rw [List.getElem?_map, List.getElem?_eq_getElem hlt]; rfl
    have hAl : A.length = i := by rw [hA]; simp; omega
    have hBl : B.length = i := by rw [hB]; simp; omega
    have hA1 : A ++ [xs[i].1] = (xs.map Prod.fst).take (i + 1) := by rw [List.take_add_one, hA]; simp [hlt]
    have hB1 : B ++ [xs[i].2] = (xs.map Prod.snd).take (i + 1) := by rw [List.take_add_one, hB]; simp [hlt]
    generalize xs[i].1 = x at *
    generalize xs[i].2 = y at *
    have h1 : (A.length + 1) * 8 ≤ room := by omega
    have h2 : A.length + 1 ≤ room := by omega
    have h3 : (B.length + 1) * 8 ≤ room := by omega
    have h4 : B.length + 1 ≤ room := by omega
    have e1 : ints A ++ [PV.int .i64 x] = ints (A ++ [x]) := by simp [ints]
    have e2 : u64s B ++ [PV.int .u64 (y : Nat)] = u64s (B ++ [y]) := by simp [u64s]
    have ei : IntKind.i64.wrap ((i : Int) + 1) = ((i + 1 : Nat) : Int) := wrap_i64_succ (by omega)
    refine AW.go ?_ (by simp only [go_sem, ↓reduceIte, hlt, hg, sms_len] <;> rfl)
    refine AW.any0 mixed ?_
    refine AW.takes (fuel := 8) [0, 1, 5, 6] ?_ (by simp only [go_sem, ↓reduceIte, h1, h2, h3, h4, ei, e1, e2] <;> rfl) Ends.noPanic (listed' := #[true, true, false, false, false, true, true, false, false, false, false, false]) (by decide +kernel) (by decide +kernel)
    refine AW.branch (fuel := 7) (rs := [2, 7]) ?_ (by decide +kernel) (by simp)
    intro j hj
    simp only [List.mem_cons, List.not_mem_nil, or_false] at hj
    rcases hj with rfl | rfl
    · skip
      refine AW.gg ?_ (by simp only [go_sem, ↓reduceIte, h1, h2, h3, h4, ei, e1, e2] <;> rfl)
      refine AW.branch (fuel := 6) (rs := [3, 7]) ?_ (by decide +kernel) (by simp)
      intro j hj
      simp only [List.mem_cons, List.not_mem_nil, or_false] at hj
      rcases hj with rfl | rfl
      · skip
        refine AW.gg ?_ (by simp only [go_sem, ↓reduceIte, h1, h2, h3, h4, ei, e1, e2] <;> rfl)
        refine AW.branch (fuel := 5) (rs := [4, 7]) ?_ (by decide +kernel) (by simp)
        intro j hj
        simp only [List.mem_cons, List.not_mem_nil, or_false] at hj
        rcases hj with rfl | rfl
        · skip
          refine AW.gg ?_ (by simp only [go_sem, ↓reduceIte, h1, h2, h3, h4, ei, e1, e2] <;> rfl)
          refine AW.seqs (fuel := 0) (listed' := #[true, true, true, true, true, true, true, true, true, true, true, true]) [7, 8, 9, 10, 11] ?_ (by decide +kernel)
          refine AW.gg ?_ (by simp only [go_sem, ↓reduceIte, h1, h2, h3, h4, ei, e1, e2] <;> rfl)
          refine AW.anyDone (by decide +kernel) ?_
          refine AW.go ?_ (by simp only [go_sem, ↓reduceIte, ei] <;> rfl)
          exact AW.again hK (i + 1, A ++ [x], B ++ [y]) ⟨by simp only; omega, hA1, hB1⟩ (by simp only; omega)
        · skip
          refine AW.gg ?_ (by simp only [go_sem, ↓reduceIte, h1, h2, h3, h4, ei, e1, e2] <;> rfl)
          refine AW.branch (fuel := 4) (rs := [4, 8]) ?_ (by decide +kernel) (by simp)
          intro j hj
          simp only [List.mem_cons, List.not_mem_nil, or_false] at hj
          rcases hj with rfl | rfl
          · skip
            refine AW.gg ?_ (by simp only [go_sem, ↓reduceIte, h1, h2, h3, h4, ei, e1, e2] <;> rfl)
            refine AW.seqs (fuel := 0) (listed' := #[true, true, true, true, true, true, true, true, true, true, true, true]) [8, 9, 10, 11] ?_ (by decide +kernel)
            refine AW.gg ?_ (by simp only [go_sem, ↓reduceIte, h1, h2, h3, h4, ei, e1, e2] <;> rfl)
            refine AW.anyDone (by decide +kernel) ?_
            refine AW.go ?_ (by simp only [go_sem, ↓reduceIte, ei] <;> rfl)
            exact AW.again hK (i + 1, A ++ [x], B ++ [y]) ⟨by simp only; omega, hA1, hB1⟩ (by simp only; omega)
          · skip
            refine AW.gg ?_ (by simp only [go_sem, ↓reduceIte, h1, h2, h3, h4, ei, e1, e2] <;> rfl)
            refine AW.seqs (fuel := 0) (listed' := #[true, true, true, true, true, true, true, true, true, true, true, true]) [4, 9, 10, 11] ?_ (by decide +kernel)
            refine AW.gg ?_ (by simp only [go_sem, ↓reduceIte, h1, h2, h3, h4, ei, e1, e2] <;> rfl)
            refine AW.anyDone (by decide +kernel) ?_
            refine AW.go ?_ (by simp only [go_sem, ↓reduceIte, ei] <;> rfl)
            exact AW.again hK (i + 1, A ++ [x], B ++ [y]) ⟨by simp only; omega, hA1, hB1⟩ (by simp only; omega)
      · skip
        refine AW.gg ?_ (by simp only [go_sem, ↓reduceIte, h1, h2, h3, h4, ei, e1, e2] <;> rfl)
        refine AW.branch (fuel := 5) (rs := [3, 8]) ?_ (by decide +kernel) (by simp)
        intro j hj
        simp only [List.mem_cons, List.not_mem_nil, or_false] at hj
        rcases hj with rfl | rfl
        · skip
          refine AW.gg ?_ (by simp only [go_sem, ↓reduceIte, h1, h2, h3, h4, ei, e1, e2] <;> rfl)
          refine AW.branch (fuel := 4) (rs := [4, 8]) ?_ (by decide +kernel) (by simp)
          intro j hj
          simp only [List.mem_cons, List.not_mem_nil, or_false] at hj
          rcases hj with rfl | rfl
          · skip
            refine AW.gg ?_ (by simp only [go_sem, ↓reduceIte, h1, h2, h3, h4, ei, e1, e2] <;> rfl)
            refine AW.seqs (fuel := 0) (listed' := #[true, true, true, true, true, true, true, true, true, true, true, true]) [8, 9, 10, 11] ?_ (by decide +kernel)
            refine AW.gg ?_ (by simp only [go_sem, ↓reduceIte, h1, h2, h3, h4, ei, e1, e2] <;> rfl)
            refine AW.anyDone (by decide +kernel) ?_
            refine AW.go ?_ (by simp only [go_sem, ↓reduceIte, ei] <;> rfl)
            exact AW.again hK (i + 1, A ++ [x], B ++ [y]) ⟨by simp only; omega, hA1, hB1⟩ (by simp only; omega)
          · skip
            refine AW.gg ?_ (by simp only [go_sem, ↓reduceIte, h1, h2, h3, h4, ei, e1, e2] <;> rfl)
            refine AW.seqs (fuel := 0) (listed' := #[true, true, true, true, true, true, true, true, true, true, true, true]) [4, 9, 10, 11] ?_ (by decide +kernel)
            refine AW.gg ?_ (by simp only [go_sem, ↓reduceIte, h1, h2, h3, h4, ei, e1, e2] <;> rfl)
            refine AW.anyDone (by decide +kernel) ?_
            refine AW.go ?_ (by simp only [go_sem, ↓reduceIte, ei] <;> rfl)
            exact AW.again hK (i + 1, A ++ [x], B ++ [y]) ⟨by simp only; omega, hA1, hB1⟩ (by simp only; omega)
        · skip
          refine AW.gg ?_ (by simp only [go_sem, ↓reduceIte, h1, h2, h3, h4, ei, e1, e2] <;> rfl)
          refine AW.seqs (fuel := 0) (listed' := #[true, true, true, true, true, true, true, true, true, true, true, true]) [3, 4, 9, 10, 11] ?_ (by decide +kernel)
          refine AW.gg ?_ (by simp only [go_sem, ↓reduceIte, h1, h2, h3, h4, ei, e1, e2] <;> rfl)
          refine AW.anyDone (by decide +kernel) ?_
          refine AW.go ?_ (by simp only [go_sem, ↓reduceIte, ei] <;> rfl)
          exact AW.again hK (i + 1, A ++ [x], B ++ [y]) ⟨by simp only; omega, hA1, hB1⟩ (by simp only; omega)
    · skip
      refine AW.gg ?_ (by simp only [go_sem, ↓reduceIte, h1, h2, h3, h4, ei, e1, e2] <;> rfl)
      refine AW.branch (fuel := 6) (rs := [2, 8]) ?_ (by decide +kernel) (by simp)
      intro j hj
      simp only [List.mem_cons, List.not_mem_nil, or_false] at hj
      rcases hj with rfl | rfl
      · skip
        refine AW.gg ?_ (by simp only [go_sem, ↓reduceIte, h1, h2, h3, h4, ei, e1, e2] <;> rfl)
        refine AW.branch (fuel := 5) (rs := [3, 8]) ?_ (by decide +kernel) (by simp)
        intro j hj
        simp only [List.mem_cons, List.not_mem_nil, or_false] at hj
        rcases hj with rfl | rfl
        · skip
          refine AW.gg ?_ (by simp only [go_sem, ↓reduceIte, h1, h2, h3, h4, ei, e1, e2] <;> rfl)
          refine AW.branch (fuel := 4) (rs := [4, 8]) ?_ (by decide +kernel) (by simp)
          intro j hj
          simp only [List.mem_cons, List.not_mem_nil, or_false] at hj
          rcases hj with rfl | rfl
          · skip
            refine AW.gg ?_ (by simp only [go_sem, ↓reduceIte, h1, h2, h3, h4, ei, e1, e2] <;> rfl)
            refine AW.seqs (fuel := 0) (listed' := #[true, true, true, true, true, true, true, true, true, true, true, true]) [8, 9, 10, 11] ?_ (by decide +kernel)
            refine AW.gg ?_ (by simp only [go_sem, ↓reduceIte, h1, h2, h3, h4, ei, e1, e2] <;> rfl)
            refine AW.anyDone (by decide +kernel) ?_
            refine AW.go ?_ (by simp only [go_sem, ↓reduceIte, ei] <;> rfl)
            exact AW.again hK (i + 1, A ++ [x], B ++ [y]) ⟨by simp only; omega, hA1, hB1⟩ (by simp only; omega)
          · skip
            refine AW.gg ?_ (by simp only [go_sem, ↓reduceIte, h1, h2, h3, h4, ei, e1, e2] <;> rfl)
            refine AW.seqs (fuel := 0) (listed' := #[true, true, true, true, true, true, true, true, true, true, true, true]) [4, 9, 10, 11] ?_ (by decide +kernel)
            refine AW.gg ?_ (by simp only [go_sem, ↓reduceIte, h1, h2, h3, h4, ei, e1, e2] <;> rfl)
            refine AW.anyDone (by decide +kernel) ?_
            refine AW.go ?_ (by simp only [go_sem, ↓reduceIte, ei] <;> rfl)
            exact AW.again hK (i + 1, A ++ [x], B ++ [y]) ⟨by simp only; omega, hA1, hB1⟩ (by simp only; omega)
        · skip
          refine AW.gg ?_ (by simp only [go_sem, ↓reduceIte, h1, h2, h3, h4, ei, e1, e2] <;> rfl)
          refine AW.seqs (fuel := 0) (listed' := #[true, true, true, true, true, true, true, true, true, true, true, true]) [3, 4, 9, 10, 11] ?_ (by decide +kernel)
          refine AW.gg ?_ (by simp only [go_sem, ↓reduceIte, h1, h2, h3, h4, ei, e1, e2] <;> rfl)
          refine AW.anyDone (by decide +kernel) ?_
          refine AW.go ?_ (by simp only [go_sem, ↓reduceIte, ei] <;> rfl)
          exact AW.again hK (i + 1, A ++ [x], B ++ [y]) ⟨by simp only; omega, hA1, hB1⟩ (by simp only; omega)
      · skip
        refine AW.gg ?_ (by simp only [go_sem, ↓reduceIte, h1, h2, h3, h4, ei, e1, e2] <;> rfl)
        refine AW.seqs (fuel := 0) (listed' := #[true, true, true, true, true, true, true, true, true, true, true, true]) [2, 3, 4, 9, 10, 11] ?_ (by decide +kernel)
        refine AW.gg ?_ (by simp only [go_sem, ↓reduceIte, h1, h2, h3, h4, ei, e1, e2] <;> rfl)
        refine AW.anyDone (by decide +kernel) ?_
        refine AW.go ?_ (by simp only [go_sem, ↓reduceIte, ei] <;> rfl)
        exact AW.again hK (i + 1, A ++ [x], B ++ [y]) ⟨by simp only; omega, hA1, hB1⟩ (by simp only; omega)
  have hge : i = xs.length := by simp at hc; omega
  subst hge
  have hA2 : A = xs.map Prod.fst := by rw [hA, List.take_of_length_le (by simp)]
  have hB2 : B = xs.map Prod.snd := by rw [hB, List.take_of_length_le (by simp)]
  subst hA2
  subst hB2
  have hx1 := hx.t
  have hx2 := hx.v
  have ln : (nb t).length = t.length := nb_len t
  have l1 : (encI (xs.map Prod.fst)).1.length ≤ 2 ^ 23 := encI_room hx1
  have l2 : (encV (xs.map Prod.snd)).1.length ≤ 8 * xs.length + 1 := by have := encV_len (xs.map Prod.snd); rw [List.length_map] at this; exact this
  have hfin : encI (xs.map Prod.fst) = (tmsC xs, (encI (xs.map Prod.fst)).2) := rfl
  have hfin2 : encV (xs.map Prod.snd) = (vlsC xs, (encV (xs.map Prod.snd)).2) := rfl
  refine AW.go ?_
  refine AW.callE (fun _ => 0) (encI_fn _ hx1) (.lend rfl co_3 .nil) ?_
  rw [hfin] at l1 ⊢
  simp only at l1 ⊢
  generalize (encI (xs.map Prod.fst)).2 = e1
  refine AW.go ?_
  refine AW.callE (fun _ => 0) (encV_fn _ hx2) (.lend rfl co_38 .nil) ?_
  rw [hfin2] at l2 ⊢
  simp only at l2 ⊢
  generalize (encV (xs.map Prod.snd)).2 = e2
  unfold bodyC
  generalize tmsC xs = ts at *
  generalize vlsC xs = vs at *
  refine AW.go ?_
  refine AW.ofStr ht tk_9 tk_24 tk_5 ?_
  rw [strBytes_nb]
  refine AW.go ?_
  have wl : IntKind.u64.wrap (xs.length : Int) = (xs.length : Int) := wrap_u64_lt (by omega)
  have l3 := leb_len10 (v := (nb t).length) (by omega)
  have l4 := leb_len10 (v := xs.length) (by omega)
  have l5 := leb_len10 (v := ts.length) (by omega)
  have l6 := leb_len10 (v := vs.length) (by omega)
  refine AW.callE (fun _ => 0) (block_fn (nb t) (by omega)) (.pv _ .nil) ?_
  have eb : leb (nb t).length ++ nb t = blkd (nb t) := rfl
  have ebl := blkd_len (nb t)
  rw [eb]
  generalize blkd (nb t) = bt at *
  have g1 : 1 + bt.length ≤ room := by omega
  refine AW.go ?_ (by simp only [go_sem, ↓reduceIte, bytes_one, wl, sms_len, g1, List.length_cons, List.length_nil, Nat.zero_add, List.cons_append, List.nil_append] <;> rfl)
  refine AW.callE (fun _ => 0) (append_fn (1 :: bt) xs.length (by omega) (by simp; omega)) (.lend rfl co_5 (.pv _ .nil)) ?_
  try rw [List.cons_append]
  generalize hL : 1 :: (bt ++ leb xs.length) = L
  have hLl : L.length ≤ bt.length + 11 := by rw [← hL]; simp; omega
  refine AW.go ?_
  refine AW.callE (fun _ => 0) (block_fn ts (by omega)) (.lend rfl co_5 .nil) ?_
  have eb : leb ts.length ++ ts = blkd ts := rfl
  have ebl2 := blkd_len ts
  rw [eb]
  generalize blkd ts = bts at *
  have g2 : L.length + bts.length ≤ room := by omega
  refine AW.go ?_ (by simp only [go_sem, ↓reduceIte, g2] <;> rfl)
  refine AW.callE (fun _ => 0) (block_fn vs (by omega)) (.lend rfl co_5 .nil) ?_
  have eb : leb vs.length ++ vs = blkd vs := rfl
  have ebl3 := blkd_len vs
  rw [eb]
  generalize blkd vs = bvs at *
  have g3 : L.length + bts.length + bvs.length ≤ room := by omega
  have g4 : L.length + (bts.length + bvs.length) ≤ room := by omega
  have g5 : (L ++ bts).length + bvs.length ≤ room := by simp; omega
  have hfin3 : 1 :: (bt ++ (leb xs.length ++ (bts ++ bvs))) = L ++ bts ++ bvs := by rw [← hL]; simp
  rw [hfin3]
  refine AW.go ?_ (by simp only [go_sem, ↓reduceIte, g3, g4, g5, List.length_append] <;> rfl)
  refine AW.finE (.move rfl (.pv _ .nil)) rfl
end Go.Ck

set_option linter.unusedVariables false
set_option maxRecDepth 10000
set_option maxHeartbeats 1000000
namespace Go.Ck
open Go.Proofs
theorem refCSame_fn (t u : List UInt8) (xs ys : List Sm) (hl : xs.length ≤ 2 ^ 40) : Fn Tryd.prog 51 [] [.pv (chP (t, xs)), .pv (chP (u, ys))]
    (fun rs H' => rs = [.pv (.bool (decide (t = u ∧ xs = ys)))] ∧ H' = []) := by
  refine Fn.of_body (fn := Tryd.f51) (n := 55) (res := [.tmp 4]) (by kernel_rfl) rfl rfl rfl rfl rfl (fun C => ?_)
  have hr : room = 140737488355328 := rfl
  have hc : chP (t, xs) = .agg [.str t, .sl 2 (sms xs)] := rfl
  have hc2 : chP (u, ys) = .agg [.str u, .sl 2 (sms ys)] := rfl
  rw [hc, hc2]
  by_cases h1 : t = u
  rotate_left
  · have d1 : (t == u) = false := by simpa using h1
    rw [show decide (t = u ∧ xs = ys) = false from decide_eq_false (fun h => h1 h.1)]
    refine AW.gg ?_ (by simp only [go_sem, ↓reduceIte, d1] <;> rfl)
    refine AW.condT rfl ?_
    refine AW.go ?_
    refine AW.finE (.pv _ .nil) rfl
  have d1 : (t == u) = true := by simpa using h1
  by_cases h2 : xs.length = ys.length
  rotate_left
  · have d2 : ((xs.length : Int) != (ys.length : Int)) = true := by simp; omega
    have d3 : (xs.length != ys.length) = true := by simp; omega
    rw [show decide (t = u ∧ xs = ys) = false from decide_eq_false (fun h => h2 (by rw [h.2]))]
    refine AW.gg ?_ (by simp only [go_sem, ↓reduceIte, d1, d2, d3, sms_len] <;> rfl)
    refine AW.condT rfl ?_
    refine AW.go ?_
    refine AW.finE (.pv _ .nil) rfl
  have d2 : ((xs.length : Int) != (ys.length : Int)) = false := by simp; omega
  have d3 : (xs.length != ys.length) = false := by simp; omega
  refine AW.gg ?_ (by simp only [go_sem, ↓reduceIte, d1, d2, d3, sms_len] <;> rfl)
  refine AW.condF rfl ?_
  refine AW.go ?_
  refine AW.loopS (fun i : Nat => ⟨55, [(5, .pv (.int .i64 i)), (2, .ptr 2 0), (3, .ptr 3 0)], [(2, .cells 42 [.pv (.str t), .pv (.sl 2 (sms xs))]), (3, .cells 42 [.pv (.str u), .pv (.sl 2 (sms ys))])]⟩) (fun i => i ≤ xs.length ∧ xs.take i = ys.take i) (fun i => xs.length - i) [5, 2, 3] [2, 3] 0 ⟨Nat.zero_le _, rfl⟩ ?_
  rintro i ⟨hi, hJ⟩ K hK
  refine AW.go ?_ (by simp only [go_sem, ↓reduceIte, sms_len] <;> rfl)
  refine AW.cond rfl (fun hc => ?_) (fun hc => ?_)
  rotate_left
  · have hge : i = xs.length := by simp at hc; omega
    have he : xs = ys := by rw [List.take_of_length_le (by omega), List.take_of_length_le (by omega)] at hJ; exact hJ
    rw [show decide (t = u ∧ xs = ys) = true from decide_eq_true ⟨h1, he⟩]
    refine AW.go ?_
    refine AW.finE (.pv _ .nil) rfl
  have hlt : i < xs.length := by simpa using hc
  have hlt2 : i < ys.length := by omega
  have hg : (sms xs)[i]? = some (.agg [.int .i64 xs[i].1, .int .u64 (xs[i].2 : Nat)]) := by unfold sms; rw [List.getElem?_map, List.getElem?_eq_getElem hlt]; rfl
  have hg2 : (sms ys)[i]? = some (.agg [.int .i64 ys[i].1, .int .u64 (ys[i].2 : Nat)]) := by unfold sms; rw [List.getElem?_map, List.getElem?_eq_getElem hlt2]; rfl
  have hne : xs[i] ≠ ys[i] → ¬ xs = ys := fun h e => h (by subst e; rfl)
  have hJ1 : xs[i] = ys[i] → xs.take (i + 1) = ys.take (i + 1) := fun h => by rw [List.take_add_one, List.take_add_one, hJ, List.getElem?_eq_getElem hlt, List.getElem?_eq_getElem hlt2, h]
  generalize xs[i] = x at *
  generalize ys[i] = y at *
  obtain ⟨x1, x2⟩ := x
  obtain ⟨y1, y2⟩ := y
  simp only at hg hg2
  have ei : IntKind.i64.wrap ((i : Int) + 1) = ((i + 1 : Nat) : Int) := wrap_i64_succ (by omega)
  refine AW.go ?_
  by_cases h3 : x1 = y1
  rotate_left
  · have n1 : (x1 != y1) = true := by simpa using h3
    rw [show decide (t = u ∧ xs = ys) = false from decide_eq_false (fun h => hne (fun e => h3 (congrArg Prod.fst e)) h.2)]
    refine AW.sr mixed (by decide +kernel) ?_ (by simp only [go_sem, ↓reduceIte, sms_len, hlt, hlt2, hg, hg2, n1] <;> rfl)
    refine AW.condT rfl ?_
    refine AW.go ?_
    refine AW.finE (.pv _ .nil) rfl
  subst h3
  have n1 : (x1 != x1) = false := by simp
  by_cases h4 : x2 = y2
  rotate_left
  · have n2 : ((x2 : Int) != (y2 : Int)) = true := by simp; omega
    have n3 : (x2 != y2) = true := by simpa using h4
    rw [show decide (t = u ∧ xs = ys) = false from decide_eq_false (fun h => hne (fun e => h4 (congrArg Prod.snd e)) h.2)]
    refine AW.sr mixed (by decide +kernel) ?_ (by simp only [go_sem, ↓reduceIte, sms_len, hlt, hlt2, hg, hg2, n1, n2, n3] <;> rfl)
    refine AW.condT rfl ?_
    refine AW.go ?_
    refine AW.finE (.pv _ .nil) rfl
  subst h4
  have n2 : ((x2 : Int) != (x2 : Int)) = false := by simp
  have n3 : (x2 != x2) = false := by simp
  refine AW.sr mixed (by decide +kernel) ?_ (by simp only [go_sem, ↓reduceIte, sms_len, hlt, hlt2, hg, hg2, n1, n2, n3] <;> rfl)
  refine AW.condF rfl ?_
  refine AW.go ?_ (by simp only [go_sem, ↓reduceIte, ei] <;> rfl)
  exact AW.again hK (i + 1) ⟨hlt, hJ1 rfl⟩ (by omega)

theorem lawSame_fn (t u : List UInt8) (xs ys : List Sm) (hl : xs.length ≤ 2 ^ 40) : Fn Tryd.prog 26 [] [.pv (chP (t, xs)), .pv (chP (u, ys))]
    (fun rs H' => rs = [.pv (.bool (decide (t = u ∧ xs = ys)))] ∧ H' = []) := by
  refine Fn.of_body (fn := Tryd.f26) (n := 8) (res := [.tmp 4]) (by kernel_rfl) rfl rfl rfl rfl rfl (fun C => ?_)
  have hc : chP (t, xs) = .agg [.str t, .sl 2 (sms xs)] := rfl
  have hc2 : chP (u, ys) = .agg [.str u, .sl 2 (sms ys)] := rfl
  have hF := refCSame_fn t u xs ys hl
  rw [hc, hc2] at hF ⊢
  refine AW.go ?_
  refine AW.callE (fun _ => 0) hF (.pv _ (.pv _ .nil)) ?_
  refine AW.go ?_
  refine AW.finE (.pv _ .nil) rfl

theorem refHead_fn (b : List Nat) (hl : b.length ≤ 2 ^ 40) (hb : ∀ x ∈ b, x < 256) : Fn Tryd.prog 27 [] [.pv (.sl 1 (bytes b))]
    (fun rs H' => ∃ z : List UInt8 × Int × Bool, rs = [.pv (.str z.1), .pv (.int .i64 z.2.1), .pv (.bool z.2.2)] ∧ H' = []) := by
  refine Fn.of_body (fn := Tryd.f27) (n := 39) (res := [.tmp 2, .tmp 3, .tmp 4]) (by kernel_rfl) rfl rfl rfl rfl rfl (fun C => ?_)
  have hr : room = 140737488355328 := rfl
  refine AW.go ?_
  refine AW.cond rfl (fun hc => ?_) (fun hc => ?_)
  · refine AW.go ?_
    exact AW.finZ (([], 0, false) : List UInt8 × Int × Bool) (.pv _ (.pv _ (.pv _ .nil)))
  have g1 : 1 ≤ b.length := by
    cases b with
    | nil => simp at hc
    | cons x r => simp
  have hb1 : ∀ y ∈ b.drop 1, y < 256 := fun y hy => hb y (List.mem_of_mem_drop hy)
  have hl1 : (b.drop 1).length ≤ 2 ^ 40 := by rw [List.length_drop]; omega
  have g2 : (bytes b).drop 1 = bytes (b.drop 1) := by simp [bytes]
  have e1 : (((b.length : Int) - 1).toNat) = b.length - 1 := by omega
  have g4 : (bytes (b.drop 1)).take (b.length - 1) = bytes (b.drop 1) := List.take_of_length_le (by simp [bytes])
  have g1i : (1 : Int) ≤ (b.length : Int) := by omega
  have g5 : (b.drop 1).take (b.length - 1) = b.drop 1 := List.take_of_length_le (by simp)
  refine AW.go ?_ (by simp only [go_sem, ↓reduceIte, g1i, g1, e1, g5] <;> rfl)
  refine AW.callE (fun _ => 0) (refBlock_fn (b.drop 1) 64 (by decide) (by omega) hb1) (.pv _ (.pv _ .nil)) ?_
  obtain ⟨hbt, hb2, hlt, hl2⟩ := blk_byte (m := 64) hb1
  generalize blk (b.drop 1) 64 = q at *
  obtain ⟨tb, te, r2⟩ := q
  simp only at *
  refine AW.go ?_
  refine AW.cond rfl (fun hc => ?_) (fun hc => ?_)
  · refine AW.go ?_
    exact AW.finZ (([], 0, false) : List UInt8 × Int × Bool) (.pv _ (.pv _ (.pv _ .nil)))
  refine AW.go ?_
  refine AW.callE (fun _ => 0) (refVarint_fn r2 (by omega) hb2) (.pv _ .nil) ?_
  generalize readV r2 = q at *
  obtain ⟨n, k, e⟩ := q
  simp only at *
  by_cases h1 : e = 0
  · subst h1
    by_cases h2 : 65536 < n
    · have d2 : decide ((n : Int) > 65536) = true := decide_eq_true (by omega)
      refine AW.gg ?_ (by simp only [go_sem, ↓reduceIte, d2] <;> rfl)
      refine AW.condT rfl ?_
      refine AW.go ?_
      exact AW.finZ (([], 0, false) : List UInt8 × Int × Bool) (.pv _ (.pv _ (.pv _ .nil)))
    · have d2 : decide ((n : Int) > 65536) = false := decide_eq_false (by omega)
      refine AW.gg ?_ (by simp only [go_sem, ↓reduceIte, d2] <;> rfl)
      refine AW.condF rfl ?_
      refine AW.go ?_ (by simp only [go_sem, ↓reduceIte, numsOf_byt, ofNums_ub] <;> rfl)
      exact AW.finZ ((ub tb, _, true) : List UInt8 × Int × Bool) (.pv _ (.pv _ (.pv _ .nil)))
  · have d1 : (e != 0) = true := by simpa using h1
    refine AW.gg ?_ (by simp only [go_sem, ↓reduceIte, d1] <;> rfl)
    refine AW.condT rfl ?_
    refine AW.go ?_
    exact AW.finZ (([], 0, false) : List UInt8 × Int × Bool) (.pv _ (.pv _ (.pv _ .nil)))
end Go.Ck

set_option linter.unusedVariables false
set_option maxRecDepth 10000
set_option maxHeartbeats 1000000
namespace Go.Ck
open Go.Proofs
theorem awake12_fn : Fn Tryd.prog 23 [] [] (fun rs H' => rs = [.pv (.bool true)] ∧ H' = []) := by
  refine Fn.of_body (fn := Tryd.f23) (n := 37) (res := [.tmp 0]) (by kernel_rfl) rfl rfl rfl rfl rfl (fun C => ?_)
  have b1 : [PV.int .u8 1, .int .u8 1, .int .u8 97, .int .u8 1, .int .u8 2, .int .u8 1, .int .u8 10, .int .u8 9, .int .u8 0, .int .u8 0, .int .u8 0, .int .u8 0, .int .u8 0, .int .u8 0, .int .u8 0, .int .u8 0, .int .u8 7] = bytes [1, 1, 97, 1, 2, 1, 10, 9, 0, 0, 0, 0, 0, 0, 0, 0, 7] := rfl
  have hsm : smOK [(5, 7)] := by intro x hx; simp at hx; subst hx; unfold i64r; simp only; omega
  have hE := chunkEnc_fn [97] [(5, 7)] (by decide) hsm
  have hD := chunkDec_fn [1, 1, 97, 1, 2, 1, 10, 9, 0, 0, 0, 0, 0, 0, 0, 0, 7] (by decide) (by decide)
  have hS := lawSame_fn [97] [97] [(5, 7)] [(5, 7)] (by decide)
  have c1 : chP ([97], [(5, 7)]) = .agg [.str [97], .sl 2 [.agg [.int .i64 5, .int .u64 7]]] := rfl
  rw [awakeC_enc] at hE
  rw [awakeC_dec] at hD
  simp only at hD hE
  rw [c1] at hE hD hS
  refine AW.go ?_ (by simp only [go_sem, ↓reduceIte, b1] <;> rfl)
  refine AW.callE (fun _ => 0) hE (.pv _ .nil) ?_
  refine AW.freeze (p := .slot 2) (by simp only [go_sem, ↓reduceIte, freeze, freezeO] <;> rfl) ?_
  refine AW.go ?_
  refine AW.callE (fun _ => 0) hD (.pv _ .nil) ?_
  refine AW.gg ?_
  refine AW.guardT rfl rfl ?_
  refine AW.callE (fun _ => 0) (ref01Same_fn [1, 1, 97, 1, 2, 1, 10, 9, 0, 0, 0, 0, 0, 0, 0, 0, 7] [1, 1, 97, 1, 2, 1, 10, 9, 0, 0, 0, 0, 0, 0, 0, 0, 7] (by decide)) (.lend rfl co_5 (.pv _ .nil)) ?_
  refine AW.gg ?_ (by simp only [go_sem, ↓reduceIte, decide_true] <;> rfl)
  refine AW.guardT rfl rfl ?_
  refine AW.callE (fun _ => 0) hS (.pv _ (.pv _ .nil)) ?_
  refine AW.gg ?_ (by simp only [go_sem, ↓reduceIte, decide_true, and_self] <;> rfl)
  refine AW.finE (.pv _ .nil) rfl

theorem law12back_fn (t : List UInt8) (xs : List Sm) (cut : Int) (y : Nat) (ht : t.length ≤ maxLen) (hx : smOK xs) (hy : y < 256) : Fn Tryd.prog 9 [] [.pv (chP (t, xs)), .pv (.int .i64 cut), .pv (.int .u8 y)] (fun rs H' => rs = [.pv (.bool true)] ∧ H' = []) := by
  refine Fn.of_body (fn := Tryd.f9) (n := 84) (res := [.tmp 6]) (by kernel_rfl) rfl rfl rfl rfl rfl (fun C => ?_)
  have hr : room = 140737488355328 := rfl
  have c1 : ∀ t xs, chP (t, xs) = .agg [.str t, .sl 2 (sms xs)] := fun _ _ => rfl
  have hE := chunkEnc_fn t xs ht hx
  rw [c1] at hE ⊢
  refine AW.go ?_
  refine AW.callE (fun _ => 0) awake12_fn .nil ?_
  refine AW.go ?_ (by simp only [go_sem, ↓reduceIte, sms_len] <;> rfl)
  refine AW.cond rfl (fun hc => ?_) (fun hc => ?_)
  · refine AW.go ?_
    refine AW.finE (.pv _ .nil) rfl
  have hl : xs.length ≤ 200 := by simp at hc; omega
  refine AW.go ?_
  refine AW.callE (fun _ => 0) hE (.pv _ .nil) ?_
  by_cases h1 : 64 < t.length
  · have e1 : encC t xs = ([], 4) := by rw [encC, if_pos (.inl h1)]
    have d1 : decide ((t.length : Int) > 64) = true := decide_eq_true (by omega)
    have d2 : decide (t.length > 64) = true := decide_eq_true (by omega)
    rw [e1]
    refine AW.gg ?_
    refine AW.condT rfl ?_
    refine AW.gg ?_ (by simp only [go_sem, ↓reduceIte, d1, d2] <;> rfl)
    refine AW.finE (.pv _ .nil) rfl
  have ht64 : t.length ≤ 64 := by omega
  have he : (encC t xs).2 = 0 := by rw [encC_ok ht64 (by omega)]
  have hdec := decC_encC hx ht64 (by omega)
  have hcut := fun {k} => @decC_cut t xs hx ht64 (by omega) k
  have hmore := decC_more hx ht64 (by omega) y
  have hby := encC_byte (t := t) hx
  have hbl := encC_room (t := t) (xs := xs)
  rw [he]
  generalize (encC t xs).1 = b at *
  refine AW.freeze (p := .part 25 0) (by simp only [go_sem, ↓reduceIte, freeze, freezeO] <;> rfl) ?_
  have hD := chunkDec_fn b (by omega) hby
  rw [hdec] at hD
  simp only at hD
  rw [c1] at hD
  refine AW.gg ?_
  refine AW.condF rfl ?_
  refine AW.go ?_
  refine AW.callE (fun _ => 0) hD (.pv _ .nil) ?_
  refine AW.gg ?_
  refine AW.guardT rfl rfl ?_
  have hS := lawSame_fn t t xs xs (by omega)
  rw [c1] at hS
  refine AW.callE (fun _ => 0) hS (.pv _ (.pv _ .nil)) ?_
  refine AW.gg ?_ (by simp only [go_sem, ↓reduceIte, decide_true, and_self] <;> rfl)
  refine AW.condF rfl ?_
  obtain ⟨k, hk, ek⟩ := and_low cut 12 (by omega)
  have ek : ibits .and .i64 cut 4095 = (k : Int) := ek
  refine AW.go ?_ (by simp only [go_sem, ↓reduceIte, ek] <;> rfl)
  have hby2 : ∀ x ∈ b ++ [y], x < 256 := fun x hx => by
    rcases List.mem_append.1 hx with h | h
    · exact hby x h
    · simp at h; omega
  have h1 : b.length ≤ room := by omega
  have h2 : b.length + 1 ≤ room := by omega
  refine AW.joinS (fun _ : Unit => ⟨84, [(7, .pv (.bool true)), (8, .pv (.sl 1 (bytes b))), (2, .pv (.int .u8 y))], []⟩) (fun _ => True) [7, 8, 2] [] ?_ ?_
  · intro K hK
    refine AW.cond rfl (fun hc => ?_) (fun hc => ?_)
    · have hkb : k < b.length := by simpa using hc
      have hkb2 : k ≤ b.length := by omega
      refine AW.go ?_ (by simp only [go_sem, ↓reduceIte, hkb2, Int.sub_zero, List.drop_zero] <;> rfl)
      have hD2 := chunkDec_fn (b.take k) (by simp; omega) (fun x hx => hby x (List.mem_of_mem_take hx))
      have hne := hcut hkb
      have hpc : chP (decC (b.take k)).1 = .agg [.str (decC (b.take k)).1.1, .sl 2 (sms (decC (b.take k)).1.2)] := rfl
      rw [hne, hpc] at hD2
      refine AW.callE (fun _ => 0) hD2 (.pv _ .nil) ?_
      refine AW.go ?_
      refine AW.condF rfl ?_
      refine AW.go ?_
      exact AW.meet hK () trivial
    · refine AW.go ?_
      exact AW.meet hK () trivial
  rintro _ -
  refine AW.go ?_ (by simp only [go_sem, ↓reduceIte, List.nil_append, h1, h2, Nat.zero_add, bytes_one] <;> rfl)
  have hD3 := chunkDec_fn (b ++ [y]) (by simp; omega) hby2
  have hpc : chP (decC (b ++ [y])).1 = .agg [.str (decC (b ++ [y])).1.1, .sl 2 (sms (decC (b ++ [y])).1.2)] := rfl
  rw [hmore, hpc] at hD3
  refine AW.freeze (p := .slot 75) (by simp only [go_sem, ↓reduceIte, freeze, freezeO] <;> rfl) ?_
  refine AW.callE (fun _ => 0) hD3 (.pv _ .nil) ?_
  refine AW.gg ?_
  refine AW.finE (.pv _ .nil) rfl
end Go.Ck

set_option linter.unusedVariables false
namespace Go.Ck
theorem decI_r {b : List Nat} (hb : ∀ x ∈ b, x < 256) (n : Int) : ∀ x ∈ (decI b n).1, i64r x := by
  by_cases h : (decI b n).2 = 0
  · obtain ⟨_, _, t, r, rfl, _, _, a2, _⟩ := decI_ok h
    rw [a2]
    exact valI_r _ _ (rdI_inv _ _ (fun x hx => hb x (by simp [hx]))).2
  · rw [decI_bad h]; simp
theorem dec11_lt {b : List Nat} (hb : ∀ x ∈ b, x < 256) (n : Int) : ∀ x ∈ (dec11 b n).1, x < 2 ^ 64 := by
  by_cases h : (dec11 b n).2 = 0
  · obtain ⟨_, _, t, r, rfl, _, _, a2, _⟩ := dec11_ok h
    rw [a2]
    exact rd11_lt (fun x hx => hb x (by simp [hx])) _ _
  · rw [dec11_bad h]; simp
theorem noC_sm (e : Int) : smOK (noC e).1.2 := by intro x hx; cases hx
theorem decC4_sm {t : List UInt8} {n : Nat} {ts vs : List Nat} (h1 : ∀ x ∈ ts, x < 256) (h2 : ∀ x ∈ vs, x < 256) : smOK (decC4 t n ts vs).1.2 := by
  unfold decC4
  split
  · exact noC_sm _
  · split
    · exact noC_sm _
    · intro x hx
      obtain ⟨k1, k2⟩ := List.of_mem_zip (show (x.1, x.2) ∈ _ from hx)
      exact ⟨decI_r h1 _ _ k1, dec11_lt h2 _ _ k2⟩
theorem decC_sm {b : List Nat} (hb : ∀ x ∈ b, x < 256) : smOK (decC b).1.2 := by
  cases b with
  | nil => exact noC_sm 2
  | cons x b =>
    have hb1 : ∀ x ∈ b, x < 256 := fun x hx => hb x (by simp [hx])
    unfold decC
    simp only
    split
    · exact noC_sm _
    · unfold decC1
      split
      · exact noC_sm _
      · unfold decC2
        split
        · exact noC_sm _
        · split
          · exact noC_sm _
          · unfold decC3
            have y1 := (blk_byte (m := 64) hb1).2.1
            have y2 : ∀ x ∈ (blk b 64).2.2.drop (readV (blk b 64).2.2).2.1, x < 256 := fun x hx => y1 x (List.mem_of_mem_drop hx)
            have y3 := blk_byte (m := mostC (readV (blk b 64).2.2).1) y2
            have y4 := blk_byte (m := mostC (readV (blk b 64).2.2).1) y3.2.1
            split
            · exact noC_sm _
            · split
              · exact noC_sm _
              · split
                · exact noC_sm _
                · exact decC4_sm y3.1 y4.1
/-- The place behind the tenant. -/
theorem encC_rest {t : List UInt8} {xs : List Sm} (ht : t.length ≤ 64) (hl : xs.length ≤ 65536) : (encC t xs).1.drop (2 + t.length) = bodyC xs ∧ 2 + t.length ≤ (encC t xs).1.length := by
  rw [encC_ok ht hl]
  simp only
  have h1 := leb_64 (n := t.length) ht
  have h2 : (blkd (nb t)).length = 1 + t.length := by rw [blkd_len, nb_len, h1]
  refine ⟨?_, by simp only [List.length_cons, List.length_append]; omega⟩
  rw [show 2 + t.length = (blkd (nb t)).length + 1 by omega, List.drop_succ_cons, List.drop_left]
end Go.Ck

set_option linter.unusedVariables false
set_option maxRecDepth 10000
set_option maxHeartbeats 1000000
namespace Go.Ck
open Go.Proofs
theorem law12only_fn (l : List Nat) (hb : ∀ x ∈ l, x < 256) : Fn Tryd.prog 10 [] [.pv (.sl 1 (bytes l))] (fun rs H' => rs = [.pv (.bool true)] ∧ H' = []) := by
  refine Fn.of_body (fn := Tryd.f10) (n := 63) (res := [.tmp 2]) (by kernel_rfl) rfl rfl rfl rfl rfl (fun C => ?_)
  have hr : room = 140737488355328 := rfl
  refine AW.go ?_
  refine AW.callE (fun _ => 0) awake12_fn .nil ?_
  refine AW.go ?_
  refine AW.cond rfl (fun hc => ?_) (fun hc => ?_)
  · refine AW.go ?_
    refine AW.finE (.pv _ .nil) rfl
  have hl : l.length ≤ 400 := by simp at hc; omega
  refine AW.go ?_
  refine AW.callZ (fun _ => 0) (refHead_fn l (by omega) hb) (.pv _ .nil) (fun z => ?_)
  obtain ⟨zs, zn, zb⟩ := z
  simp only
  have hD := chunkDec_fn l (by omega) hb
  have hinv := @decC_inv l hb
  have hbad := @decC_bad l
  have hsm := decC_sm hb
  have hpc : chP (decC l).1 = .agg [.str (decC l).1.1, .sl 2 (sms (decC l).1.2)] := rfl
  rw [hpc] at hD
  refine via (T := ?T1) (fun hT => ?_) ?_
  rotate_left
  · by_cases h1 : zn > 500
    · have d1 : decide (zn > 500) = true := decide_eq_true h1
      by_cases h2 : zn ≤ 65536
      · have d2 : decide (zn ≤ 65536) = true := decide_eq_true h2
        refine AW.gg ?_ (by simp only [go_sem, ↓reduceIte, d1, d2] <;> rfl)
        refine AW.condT rfl ?_
        refine AW.go ?_
        refine AW.finE (.pv _ .nil) rfl
      · have d2 : decide (zn ≤ 65536) = false := decide_eq_false h2
        refine AW.gg ?_ (by simp only [go_sem, ↓reduceIte, d1, d2] <;> rfl)
        refine AW.condF rfl ?_
        refine AW.keepB [0, 3] [] (by simp only [go_sem, ↓reduceIte]) (by simp only [go_sem, ↓reduceIte] <;> rfl) ?_
        exact hT ()
    · have d1 : decide (zn > 500) = false := decide_eq_false h1
      refine AW.gg ?_ (by simp only [go_sem, ↓reduceIte, d1] <;> rfl)
      refine AW.condF rfl ?_
      refine AW.keepB [0, 3] [] (by simp only [go_sem, ↓reduceIte]) (by simp only [go_sem, ↓reduceIte] <;> rfl) ?_
      exact hT ()
  refine AW.go ?_
  refine AW.callE (fun _ => 0) hD (.pv _ .nil) ?_
  by_cases he : (decC l).2 = 0
  · obtain ⟨t, xs, e1, ht, hl2, e2⟩ := hinv he
    rw [e1] at hsm ⊢
    simp only at hsm ⊢
    have hE := chunkEnc_fn t xs (Nat.le_trans ht (by decide)) hsm
    have hpc2 : chP (t, xs) = .agg [.str t, .sl 2 (sms xs)] := rfl
    have e3 : (encC t xs).2 = 0 := by rw [encC_ok ht hl2]
    rw [hpc2, e2, e3] at hE
    refine AW.go ?_
    refine AW.condF rfl ?_
    refine AW.go ?_
    refine AW.callE (fun _ => 0) hE (.pv _ .nil) ?_
    refine AW.gg ?_
    refine AW.guardT rfl rfl ?_
    refine AW.callE (fun _ => 0) (ref01Same_fn l l (by omega)) (.lend rfl co_5 (.pv _ .nil)) ?_
    refine AW.gg ?_ (by simp only [go_sem, ↓reduceIte, decide_true] <;> rfl)
    refine AW.finE (.pv _ .nil) rfl
  · rw [hbad he]
    have d0 : ((decC l).2 != 0) = true := by simpa using he
    refine AW.go ?_ (by simp only [go_sem, ↓reduceIte, d0] <;> rfl)
    refine AW.condT rfl ?_
    refine AW.gg ?_ (by simp only [go_sem, ↓reduceIte, sms_len] <;> rfl)
    refine AW.finE (.pv _ .nil) rfl

theorem law12size_fn (t : List UInt8) (xs : List Sm) (ht : t.length ≤ maxLen) (hx : smOK xs) : Fn Tryd.prog 11 [] [.pv (chP (t, xs))] (fun rs H' => rs = [.pv (.bool true)] ∧ H' = []) := by
  refine Fn.of_body (fn := Tryd.f11) (n := 39) (res := [.tmp 2]) (by kernel_rfl) rfl rfl rfl rfl rfl (fun C => ?_)
  have hr : room = 140737488355328 := rfl
  have hE := chunkEnc_fn t xs ht hx
  have hpc2 : chP (t, xs) = .agg [.str t, .sl 2 (sms xs)] := rfl
  rw [hpc2] at hE ⊢
  refine AW.go ?_
  refine AW.callE (fun _ => 0) awake12_fn .nil ?_
  refine AW.go ?_ (by simp only [go_sem, ↓reduceIte, sms_len] <;> rfl)
  refine AW.cond rfl (fun hc => ?_) (fun hc => ?_)
  · refine AW.go ?_
    refine AW.finE (.pv _ .nil) rfl
  have hl : xs.length ≤ 200 := by simp at hc; omega
  refine AW.go ?_
  refine AW.callE (fun _ => 0) hE (.pv _ .nil) ?_
  by_cases h1 : 64 < t.length
  · have e1 : encC t xs = ([], 4) := by rw [encC, if_pos (.inl h1)]
    rw [e1]
    refine AW.go ?_
    refine AW.any0 mixed ?_
    refine AW.takes (fuel := 8) [0, 1, 2, 3, 4, 5, 6, 7, 8, 9, 10, 11, 12, 13, 14] ?_ (by simp only [go_sem, ↓reduceIte] <;> rfl) Ends.noPanic (listed' := #[true, true, true, true, true, true, true, true, true, true, true, true, true, true, true, false, false, false, false, false, false, false, false]) (by decide +kernel) (by decide +kernel)
    refine AW.seqs (fuel := 0) (listed' := #[true, true, true, true, true, true, true, true, true, true, true, true, true, true, true, true, true, true, true, true, true, true, true]) [15, 16, 17, 18, 19, 20, 21, 22] ?_ (by decide +kernel)
    refine AW.gg ?_
    refine AW.anyDone (by decide +kernel) ?_
    refine AW.go ?_
    refine AW.finE (.pv _ .nil) rfl
  have he : (encC t xs).2 = 0 := by rw [encC_ok (by omega) (by omega)]
  have hlen := encC_len (t := t) (xs := xs)
  have hm := mostC_le xs.length
  rw [he]
  generalize (encC t xs).1 = b at *
  have w1 : IntKind.i64.wrap (2 + (t.length : Int)) = ((2 + t.length : Nat) : Int) := (wrap_i64_of (by omega) (by omega)).trans (by simp)
  have w2 : IntKind.i64.wrap (((2 + t.length : Nat) : Int) + 3) = ((2 + t.length + 3 : Nat) : Int) := (wrap_i64_of (by omega) (by omega)).trans (by simp)
  have w3 : IntKind.i64.wrap (3 + ((mostC xs.length : Nat) : Int)) = ((3 + mostC xs.length : Nat) : Int) := (wrap_i64_of (by omega) (by omega)).trans (by simp)
  have w4 : IntKind.i64.wrap (2 * ((3 + mostC xs.length : Nat) : Int)) = ((2 * (3 + mostC xs.length) : Nat) : Int) := (wrap_i64_of (by omega) (by omega)).trans (by simp)
  have w5 : IntKind.i64.wrap (((2 + t.length + 3 : Nat) : Int) + ((2 * (3 + mostC xs.length) : Nat) : Int)) = ((2 + t.length + 3 + 2 * (3 + mostC xs.length) : Nat) : Int) := (wrap_i64_of (by omega) (by omega)).trans (by simp)
  have d3 : decide (b.length ≤ 2 + t.length + 3 + 2 * (3 + mostC xs.length)) = true := decide_eq_true (by omega)
  have d4 : decide ((b.length : Int) ≤ ((2 + t.length + 3 + 2 * (3 + mostC xs.length) : Nat) : Int)) = true := decide_eq_true (by omega)
  refine AW.go ?_
  refine AW.any0 mixed ?_
  refine AW.takes (fuel := 14) [0, 1, 2, 3, 4, 5, 7, 12, 6] ?_ (by simp only [go_sem, ↓reduceIte, w1, w2, w3, w4, w5, d3, d4, sms_len] <;> rfl) Ends.noPanic (listed' := #[true, true, true, true, true, true, true, true, false, false, false, false, true, false, false, false, false, false, false, false, false, false, false]) (by decide +kernel) (by decide +kernel)
  refine AW.branch (fuel := 13) (rs := [8, 13]) ?_ (by decide +kernel) (by simp)
  intro j hj
  simp only [List.mem_cons, List.not_mem_nil, or_false] at hj
  rcases hj with rfl | rfl
  · skip
    refine AW.gg ?_ (by simp only [go_sem, ↓reduceIte, w1, w2, w3, w4, w5, d3, d4, sms_len] <;> rfl)
    refine AW.branch (fuel := 12) (rs := [9, 13]) ?_ (by decide +kernel) (by simp)
    intro j hj
    simp only [List.mem_cons, List.not_mem_nil, or_false] at hj
    rcases hj with rfl | rfl
    · skip
      refine AW.gg ?_ (by simp only [go_sem, ↓reduceIte, w1, w2, w3, w4, w5, d3, d4, sms_len] <;> rfl)
      refine AW.takes (fuel := 10) [10, 11] ?_ (by simp only [go_sem, ↓reduceIte, w1, w2, w3, w4, w5, d3, d4, sms_len] <;> rfl) Ends.noPanic (listed' := #[true, true, true, true, true, true, true, true, true, true, true, true, true, false, false, false, false, false, false, false, false, false, false]) (by decide +kernel) (by decide +kernel)
      refine AW.seqs (fuel := 0) (listed' := #[true, true, true, true, true, true, true, true, true, true, true, true, true, true, true, true, true, true, true, true, true, true, true]) [13, 14, 15, 16, 17, 18, 19, 20, 21, 22] ?_ (by decide +kernel)
      refine AW.gg ?_ (by simp only [go_sem, ↓reduceIte, w1, w2, w3, w4, w5, d3, d4, sms_len] <;> rfl)
      refine AW.guardT rfl rfl ?_
      refine AW.callE (fun _ => 0) (most_fn xs.length (by omega)) (.pv _ .nil) ?_
      refine AW.gg ?_ (by simp only [go_sem, ↓reduceIte, w1, w2, w3, w4, w5, d3, d4, sms_len] <;> rfl)
      refine AW.anyDone (by decide +kernel) ?_
      refine AW.go ?_
      refine AW.finE (.pv _ .nil) rfl
    · skip
      refine AW.gg ?_ (by simp only [go_sem, ↓reduceIte, w1, w2, w3, w4, w5, d3, d4, sms_len] <;> rfl)
      refine AW.takes (fuel := 11) [14] ?_ (by simp only [go_sem, ↓reduceIte, w1, w2, w3, w4, w5, d3, d4, sms_len] <;> rfl) Ends.noPanic (listed' := #[true, true, true, true, true, true, true, true, true, false, false, false, true, true, true, false, false, false, false, false, false, false, false]) (by decide +kernel) (by decide +kernel)
      refine AW.branch (fuel := 10) (rs := [9, 15]) ?_ (by decide +kernel) (by simp)
      intro j hj
      simp only [List.mem_cons, List.not_mem_nil, or_false] at hj
      rcases hj with rfl | rfl
      · skip
        refine AW.gg ?_ (by simp only [go_sem, ↓reduceIte, w1, w2, w3, w4, w5, d3, d4, sms_len] <;> rfl)
        refine AW.takes (fuel := 8) [10, 11] ?_ (by simp only [go_sem, ↓reduceIte, w1, w2, w3, w4, w5, d3, d4, sms_len] <;> rfl) Ends.noPanic (listed' := #[true, true, true, true, true, true, true, true, true, true, true, true, true, true, true, false, false, false, false, false, false, false, false]) (by decide +kernel) (by decide +kernel)
        refine AW.seqs (fuel := 0) (listed' := #[true, true, true, true, true, true, true, true, true, true, true, true, true, true, true, true, true, true, true, true, true, true, true]) [15, 16, 17, 18, 19, 20, 21, 22] ?_ (by decide +kernel)
        refine AW.gg ?_ (by simp only [go_sem, ↓reduceIte, w1, w2, w3, w4, w5, d3, d4, sms_len] <;> rfl)
        refine AW.guardT rfl rfl ?_
        refine AW.callE (fun _ => 0) (most_fn xs.length (by omega)) (.pv _ .nil) ?_
        refine AW.gg ?_ (by simp only [go_sem, ↓reduceIte, w1, w2, w3, w4, w5, d3, d4, sms_len] <;> rfl)
        refine AW.anyDone (by decide +kernel) ?_
        refine AW.go ?_
        refine AW.finE (.pv _ .nil) rfl
      · skip
        refine AW.gg ?_ (by simp only [go_sem, ↓reduceIte, w1, w2, w3, w4, w5, d3, d4, sms_len] <;> rfl)
        refine AW.guardT rfl rfl ?_
        refine AW.callE (fun _ => 0) (most_fn xs.length (by omega)) (.pv _ .nil) ?_
        refine AW.gg ?_ (by simp only [go_sem, ↓reduceIte, w1, w2, w3, w4, w5, d3, d4, sms_len] <;> rfl)
        refine AW.takes (fuel := 8) [16, 17] ?_ (by simp only [go_sem, ↓reduceIte, w1, w2, w3, w4, w5, d3, d4, sms_len] <;> rfl) Ends.noPanic (listed' := #[true, true, true, true, true, true, true, true, true, false, false, false, true, true, true, true, true, true, false, false, false, false, false]) (by decide +kernel) (by decide +kernel)
        refine AW.seqs (fuel := 0) (listed' := #[true, true, true, true, true, true, true, true, true, true, true, true, true, true, true, true, true, true, true, true, true, true, true]) [9, 10, 11, 18, 19, 20, 21, 22] ?_ (by decide +kernel)
        refine AW.gg ?_ (by simp only [go_sem, ↓reduceIte, w1, w2, w3, w4, w5, d3, d4, sms_len] <;> rfl)
        refine AW.anyDone (by decide +kernel) ?_
        refine AW.go ?_
        refine AW.finE (.pv _ .nil) rfl
  · skip
    refine AW.gg ?_ (by simp only [go_sem, ↓reduceIte, w1, w2, w3, w4, w5, d3, d4, sms_len] <;> rfl)
    refine AW.takes (fuel := 12) [14] ?_ (by simp only [go_sem, ↓reduceIte, w1, w2, w3, w4, w5, d3, d4, sms_len] <;> rfl) Ends.noPanic (listed' := #[true, true, true, true, true, true, true, true, false, false, false, false, true, true, true, false, false, false, false, false, false, false, false]) (by decide +kernel) (by decide +kernel)
    refine AW.branch (fuel := 11) (rs := [8, 15]) ?_ (by decide +kernel) (by simp)
    intro j hj
    simp only [List.mem_cons, List.not_mem_nil, or_false] at hj
    rcases hj with rfl | rfl
    · skip
      refine AW.gg ?_ (by simp only [go_sem, ↓reduceIte, w1, w2, w3, w4, w5, d3, d4, sms_len] <;> rfl)
      refine AW.branch (fuel := 10) (rs := [9, 15]) ?_ (by decide +kernel) (by simp)
      intro j hj
      simp only [List.mem_cons, List.not_mem_nil, or_false] at hj
      rcases hj with rfl | rfl
      · skip
        refine AW.gg ?_ (by simp only [go_sem, ↓reduceIte, w1, w2, w3, w4, w5, d3, d4, sms_len] <;> rfl)
        refine AW.takes (fuel := 8) [10, 11] ?_ (by simp only [go_sem, ↓reduceIte, w1, w2, w3, w4, w5, d3, d4, sms_len] <;> rfl) Ends.noPanic (listed' := #[true, true, true, true, true, true, true, true, true, true, true, true, true, true, true, false, false, false, false, false, false, false, false]) (by decide +kernel) (by decide +kernel)
        refine AW.seqs (fuel := 0) (listed' := #[true, true, true, true, true, true, true, true, true, true, true, true, true, true, true, true, true, true, true, true, true, true, true]) [15, 16, 17, 18, 19, 20, 21, 22] ?_ (by decide +kernel)
        refine AW.gg ?_ (by simp only [go_sem, ↓reduceIte, w1, w2, w3, w4, w5, d3, d4, sms_len] <;> rfl)
        refine AW.guardT rfl rfl ?_
        refine AW.callE (fun _ => 0) (most_fn xs.length (by omega)) (.pv _ .nil) ?_
        refine AW.gg ?_ (by simp only [go_sem, ↓reduceIte, w1, w2, w3, w4, w5, d3, d4, sms_len] <;> rfl)
        refine AW.anyDone (by decide +kernel) ?_
        refine AW.go ?_
        refine AW.finE (.pv _ .nil) rfl
      · skip
        refine AW.gg ?_ (by simp only [go_sem, ↓reduceIte, w1, w2, w3, w4, w5, d3, d4, sms_len] <;> rfl)
        refine AW.guardT rfl rfl ?_
        refine AW.callE (fun _ => 0) (most_fn xs.length (by omega)) (.pv _ .nil) ?_
        refine AW.gg ?_ (by simp only [go_sem, ↓reduceIte, w1, w2, w3, w4, w5, d3, d4, sms_len] <;> rfl)
        refine AW.takes (fuel := 8) [16, 17] ?_ (by simp only [go_sem, ↓reduceIte, w1, w2, w3, w4, w5, d3, d4, sms_len] <;> rfl) Ends.noPanic (listed' := #[true, true, true, true, true, true, true, true, true, false, false, false, true, true, true, true, true, true, false, false, false, false, false]) (by decide +kernel) (by decide +kernel)
        refine AW.seqs (fuel := 0) (listed' := #[true, true, true, true, true, true, true, true, true, true, true, true, true, true, true, true, true, true, true, true, true, true, true]) [9, 10, 11, 18, 19, 20, 21, 22] ?_ (by decide +kernel)
        refine AW.gg ?_ (by simp only [go_sem, ↓reduceIte, w1, w2, w3, w4, w5, d3, d4, sms_len] <;> rfl)
        refine AW.anyDone (by decide +kernel) ?_
        refine AW.go ?_
        refine AW.finE (.pv _ .nil) rfl
    · skip
      refine AW.gg ?_ (by simp only [go_sem, ↓reduceIte, w1, w2, w3, w4, w5, d3, d4, sms_len] <;> rfl)
      refine AW.guardT rfl rfl ?_
      refine AW.callE (fun _ => 0) (most_fn xs.length (by omega)) (.pv _ .nil) ?_
      refine AW.gg ?_ (by simp only [go_sem, ↓reduceIte, w1, w2, w3, w4, w5, d3, d4, sms_len] <;> rfl)
      refine AW.takes (fuel := 9) [16, 17] ?_ (by simp only [go_sem, ↓reduceIte, w1, w2, w3, w4, w5, d3, d4, sms_len] <;> rfl) Ends.noPanic (listed' := #[true, true, true, true, true, true, true, true, false, false, false, false, true, true, true, true, true, true, false, false, false, false, false]) (by decide +kernel) (by decide +kernel)
      refine AW.seqs (fuel := 0) (listed' := #[true, true, true, true, true, true, true, true, true, true, true, true, true, true, true, true, true, true, true, true, true, true, true]) [8, 9, 10, 11, 18, 19, 20, 21, 22] ?_ (by decide +kernel)
      refine AW.gg ?_ (by simp only [go_sem, ↓reduceIte, w1, w2, w3, w4, w5, d3, d4, sms_len] <;> rfl)
      refine AW.anyDone (by decide +kernel) ?_
      refine AW.go ?_
      refine AW.finE (.pv _ .nil) rfl

theorem law12tenants_fn (t u : List UInt8) (xs : List Sm) (ht : t.length ≤ maxLen) (hu : u.length ≤ maxLen) (hx : smOK xs) : Fn Tryd.prog 12 [] [.pv (chP (t, xs)), .pv (.str u)] (fun rs H' => rs = [.pv (.bool true)] ∧ H' = []) := by
  refine Fn.of_body (fn := Tryd.f12) (n := 83) (res := [.tmp 4]) (by kernel_rfl) rfl rfl rfl rfl rfl (fun C => ?_)
  have hr : room = 140737488355328 := rfl
  have hE := chunkEnc_fn t xs ht hx
  have hE2 := chunkEnc_fn u xs hu hx
  have c1 : ∀ t xs, chP (t, xs) = .agg [.str t, .sl 2 (sms xs)] := fun _ _ => rfl
  rw [c1] at hE hE2 ⊢
  refine AW.go ?_
  refine AW.callE (fun _ => 0) awake12_fn .nil ?_
  by_cases g1 : xs.length > 200
  · have d1 : decide ((xs.length : Int) > 200) = true := decide_eq_true (by omega)
    refine AW.gg ?_ (by simp only [go_sem, ↓reduceIte, sms_len, d1] <;> rfl)
    refine AW.condT rfl ?_
    refine AW.go ?_
    refine AW.finE (.pv _ .nil) rfl
  have d1 : decide ((xs.length : Int) > 200) = false := decide_eq_false (by omega)
  by_cases g2 : u.length > 1000
  · have d2 : decide ((u.length : Int) > 1000) = true := decide_eq_true (by omega)
    refine AW.gg ?_ (by simp only [go_sem, ↓reduceIte, sms_len, d1, d2] <;> rfl)
    refine AW.condT rfl ?_
    refine AW.go ?_
    refine AW.finE (.pv _ .nil) rfl
  have d2 : decide ((u.length : Int) > 1000) = false := decide_eq_false (by omega)
  refine AW.gg ?_ (by simp only [go_sem, ↓reduceIte, sms_len, d1, d2] <;> rfl)
  refine AW.condF rfl ?_
  refine AW.go ?_
  refine AW.callE (fun _ => 0) hE (.pv _ .nil) ?_
  refine AW.freeze (p := .part 25 0) (by simp only [go_sem, ↓reduceIte, freeze, freezeO] <;> rfl) ?_
  refine AW.go ?_
  refine AW.callE (fun _ => 0) hE2 (.pv _ .nil) ?_
  refine AW.freeze (p := .part 33 0) (by simp only [go_sem, ↓reduceIte, freeze, freezeO] <;> rfl) ?_
  by_cases h3 : 64 < t.length
  · have e1 : encC t xs = ([], 4) := by rw [encC, if_pos (.inl h3)]
    have d3 : decide ((t.length : Int) > 64) = true := decide_eq_true (by omega)
    rw [e1]
    refine AW.gg ?_
    refine AW.condT rfl ?_
    refine AW.gg ?_ (by simp only [go_sem, ↓reduceIte, d3] <;> rfl)
    refine AW.finE (.pv _ .nil) rfl
  have d3 : decide ((t.length : Int) > 64) = false := decide_eq_false (by omega)
  have he : (encC t xs).2 = 0 := by rw [encC_ok (by omega) (by omega)]
  rw [he]
  by_cases h4 : 64 < u.length
  · have e1 : encC u xs = ([], 4) := by rw [encC, if_pos (.inl h4)]
    have d4 : decide ((u.length : Int) > 64) = true := decide_eq_true (by omega)
    rw [e1]
    refine AW.gg ?_
    refine AW.condT rfl ?_
    refine AW.gg ?_ (by simp only [go_sem, ↓reduceIte, d3, d4] <;> rfl)
    refine AW.finE (.pv _ .nil) rfl
  have he2 : (encC u xs).2 = 0 := by rw [encC_ok (by omega) (by omega)]
  rw [he2]
  obtain ⟨p1, p2⟩ := encC_rest (t := t) (xs := xs) (by omega) (by omega)
  obtain ⟨q1, q2⟩ := encC_rest (t := u) (xs := xs) (by omega) (by omega)
  have hrl : (bodyC xs).length ≤ room := by
    have := bodyC_len (xs := xs) (by omega)
    have := mostC_le xs.length
    omega
  generalize (encC t xs).1 = a at *
  generalize (encC u xs).1 = b at *
  refine AW.gg ?_
  refine AW.condF rfl ?_
  have w1 : IntKind.i64.wrap (2 + (t.length : Int)) = ((2 + t.length : Nat) : Int) := (wrap_i64_of (by omega) (by omega)).trans (by simp)
  have w2 : IntKind.i64.wrap (2 + (u.length : Int)) = ((2 + u.length : Nat) : Int) := (wrap_i64_of (by omega) (by omega)).trans (by simp)
  refine AW.go ?_ (by simp only [go_sem, ↓reduceIte, w1, w2] <;> rfl)
  generalize 2 + t.length = i at *
  generalize 2 + u.length = k at *
  have i1 : decide ((i : Int) ≤ (a.length : Int)) = true := decide_eq_true (by omega)
  have i1n : decide (i ≤ a.length) = true := decide_eq_true p2
  have k1 : decide ((k : Int) ≤ (b.length : Int)) = true := decide_eq_true (by omega)
  have k1n : decide (k ≤ b.length) = true := decide_eq_true q2
  have i2 := p2
  have k2 := q2
  have f1 : (((a.length : Int) - (i : Int)).toNat) = a.length - i := by omega
  have f2 : (((b.length : Int) - (k : Int)).toNat) = b.length - k := by omega
  have f3 : (a.drop i).take (a.length - i) = bodyC xs := by rw [List.take_of_length_le (by simp), p1]
  have f4 : (b.drop k).take (b.length - k) = bodyC xs := by rw [List.take_of_length_le (by simp), q1]
  refine AW.any0 mixed ?_
  refine AW.takes (fuel := 17) [0, 1, 2, 3, 4, 5] ?_ (by simp only [go_sem, ↓reduceIte, i1, i2, k1, k2, i1n, k1n, f1, f2, f3, f4] <;> rfl) Ends.noPanic (listed' := #[true, true, true, true, true, true, false, false, false, false, false, false, false, false, false, false, false, false, false, false, false, false, false]) (by decide +kernel) (by decide +kernel)
  refine AW.seqs (fuel := 15) (listed' := #[true, true, true, true, true, true, true, true, false, false, false, false, false, false, false, false, false, false, false, false, false, false, false]) [6, 7] ?_ (by decide +kernel)
  refine AW.gg ?_ (by simp only [go_sem, ↓reduceIte, i1, i2, k1, k2, i1n, k1n, f1, f2, f3, f4] <;> rfl)
  refine AW.takes (fuel := 11) [8, 9, 10, 11] ?_ (by simp only [go_sem, ↓reduceIte, i1, i2, k1, k2, i1n, k1n, f1, f2, f3, f4] <;> rfl) Ends.noPanic (listed' := #[true, true, true, true, true, true, true, true, true, true, true, true, false, false, false, false, false, false, false, false, false, false, false]) (by decide +kernel) (by decide +kernel)
  refine AW.seqs (fuel := 9) (listed' := #[true, true, true, true, true, true, true, true, true, true, true, true, true, true, false, false, false, false, false, false, false, false, false]) [12, 13] ?_ (by decide +kernel)
  refine AW.gg ?_ (by simp only [go_sem, ↓reduceIte, i1, i2, k1, k2, i1n, k1n, f1, f2, f3, f4] <;> rfl)
  refine AW.takes (fuel := 3) [14, 15, 17, 18, 16, 19] ?_ (by simp only [go_sem, ↓reduceIte, i1, i2, k1, k2, i1n, k1n, f1, f2, f3, f4] <;> rfl) Ends.noPanic (listed' := #[true, true, true, true, true, true, true, true, true, true, true, true, true, true, true, true, true, true, true, true, false, false, false]) (by decide +kernel) (by decide +kernel)
  refine AW.seqs (fuel := 0) (listed' := #[true, true, true, true, true, true, true, true, true, true, true, true, true, true, true, true, true, true, true, true, true, true, true]) [20, 21, 22] ?_ (by decide +kernel)
  refine AW.gg ?_ (by simp only [go_sem, ↓reduceIte, i1, i2, k1, k2, i1n, k1n, f1, f2, f3, f4] <;> rfl)
  refine AW.guardT rfl rfl ?_
  refine AW.callE (fun _ => 0) (ref01Same_fn (bodyC xs) (bodyC xs) hrl) (.pv _ (.pv _ .nil)) ?_
  refine AW.gg ?_ (by simp only [go_sem, ↓reduceIte, decide_true] <;> rfl)
  refine AW.anyDone (by decide +kernel) ?_
  refine AW.go ?_
  refine AW.finE (.pv _ .nil) rfl
end Go.Ck

set_option linter.unusedVariables false
namespace Go.Ck
def stTypes (P : Program) (t : TypeId) : Option (List TypeId) := match P.underlying t with
  | some (.struct fs) => some (fs.toList.map (·.type))
  | _ => none
section
variable {P : Program} {n : Nat} {t : TypeId} {p : PV}
theorem PT_st2 {a b : TypeId} (hu : stTypes P t = some [a, b]) (h : PT P (n + 1) t p.cells) (h1 : p.one = !isAggT P t) : ∃ ps qs, p = .agg (ps ++ qs) ∧ PT P n a ps ∧ PT P n b qs := by
  unfold stTypes at hu
  unfold isAggT at h1
  unfold PT at h
  split at hu
  · rename_i fs hus
    rw [hus] at h1 h
    simp only [Option.some.injEq] at hu
    obtain ⟨pss, e1, e2, e3⟩ := h
    have hl : fs.toList.length = 2 := by have := congrArg List.length hu; simpa using this
    match hfl : fs.toList, hl with
    | [f, g], _ =>
      rw [hfl] at hu
      simp only [List.map_cons, List.map_nil, List.cons.injEq, and_true] at hu
      have hsz : fs.size = 2 := by rw [← Array.length_toList, hfl]; rfl
      have hf : fs[0]? = some f := by rw [← Array.getElem?_toList, hfl]; rfl
      have hg : fs[1]? = some g := by rw [← Array.getElem?_toList, hfl]; rfl
      match pss, (by rw [e2, hsz] : pss.length = 2) with
      | [ps, qs], _ =>
        have k1 := (e3 0 f ps hf rfl).1
        have k2 := (e3 1 g qs hg rfl).1
        rw [hu.1] at k1
        rw [hu.2] at k2
        refine ⟨ps, qs, ?_, k1, k2⟩
        simp only [List.flatten_cons, List.flatten_nil, List.append_nil] at e1
        cases p <;> simp [PV.one] at h1
        simp only [PV.cells] at e1
        rw [e1]
  · cases hu
theorem PTc_int {k : IntKind} {ps : List PV} (hu : P.underlying t = some (.int k)) (h : PT P (n + 1) t ps) : ∃ m, ps = [.int k m] ∧ (Lit.int k m).wf = true := by
  unfold PT at h
  rw [hu] at h
  exact h
theorem PTc_u64 {ps : List PV} (hu : P.underlying t = some (.int .u64)) (h : PT P (n + 1) t ps) : ∃ v : Nat, ps = [.int .u64 v] ∧ v < 2 ^ 64 := by
  obtain ⟨m, rfl, hm⟩ := PTc_int hu h
  obtain ⟨r, hr, h4⟩ := nats_of (k := .u64) rfl [m] (by simpa using hm)
  match r, hr with
  | [a], hr => simp at hr; subst hr; exact ⟨a, rfl, h4 a (by simp)⟩
theorem PTc_str {ps : List PV} (hu : P.underlying t = some .string) (h : PT P (n + 1) t ps) : ∃ s, ps = [.str s] ∧ s.length ≤ maxLen := by
  unfold PT at h
  rw [hu] at h
  exact h
theorem PTc_slice {e : TypeId} {ps : List PV} (hu : P.underlying t = some (.slice e)) (h : PT P (n + 1) t ps) : ∃ xs, ps = [.sl (P.cellsOf e) xs] ∧ xs.length ≤ maxLen ∧ ∀ x ∈ xs, PT P n e x.cells ∧ x.one = !isAggT P e := by
  unfold PT at h
  rw [hu] at h
  exact h
theorem sms_of {a b e : TypeId} (hu : stTypes P e = some [a, b]) (ha : P.underlying a = some (.int .i64)) (hb : P.underlying b = some (.int .u64)) : ∀ xs : List PV, (∀ x ∈ xs, PT P (n + 2) e x.cells ∧ x.one = !isAggT P e) → ∃ l : List Sm, xs = sms l ∧ smOK l
  | [], _ => ⟨[], rfl, by intro x hx; cases hx⟩
  | x :: r, h => by
    obtain ⟨ps, qs, rfl, k1, k2⟩ := PT_st2 (n := n + 1) hu (h x (by simp)).1 (h x (by simp)).2
    obtain ⟨m, rfl, hm⟩ := PTc_int ha k1
    obtain ⟨v, rfl, hv⟩ := PTc_u64 hb k2
    obtain ⟨l, rfl, hl⟩ := sms_of hu ha hb r (fun y hy => h y (by simp [hy]))
    refine ⟨(m, v) :: l, rfl, fun y hy => ?_⟩
    rcases List.mem_cons.1 hy with rfl | hy
    · exact ⟨wf_i64 hm, hv⟩
    · exact hl y hy
theorem PT_chunk {s l e a b : TypeId} (hu : stTypes P t = some [s, l]) (hs : P.underlying s = some .string) (hl : P.underlying l = some (.slice e)) (hc : P.cellsOf e = 2) (he : stTypes P e = some [a, b]) (ha : P.underlying a = some (.int .i64)) (hb : P.underlying b = some (.int .u64))
    (h : PT P (n + 4) t p.cells) (h1 : p.one = !isAggT P t) : ∃ (c : List UInt8) (xs : List Sm), p = chP (c, xs) ∧ c.length ≤ maxLen ∧ smOK xs := by
  obtain ⟨ps, qs, rfl, k1, k2⟩ := PT_st2 (n := n + 3) hu h h1
  obtain ⟨c, rfl, hcl⟩ := PTc_str hs k1
  obtain ⟨xs, rfl, _, hx⟩ := PTc_slice hl k2
  obtain ⟨r, rfl, hr⟩ := sms_of he ha hb xs hx
  exact ⟨c, r, by rw [hc]; rfl, hcl, hr⟩
end
end Go.Ck

set_option linter.unusedVariables false
set_option maxRecDepth 10000
set_option maxHeartbeats 1000000
namespace Go.Ck
open Go.Proofs
theorem law12samples_fn (t : List UInt8) (xs : List Sm) (ht : t.length ≤ maxLen) (hx : smOK xs) : Fn Tryd.prog 13 [] [.pv (chP (t, xs))] (fun rs H' => rs = [.pv (.bool true)] ∧ H' = []) := by
  refine Fn.of_body (fn := Tryd.f13) (n := 95) (res := [.tmp 2]) (by kernel_rfl) rfl rfl rfl rfl rfl (fun C => ?_)
  have hr : room = 140737488355328 := rfl
  have hxr : smOK xs.reverse := fun x h => hx x (List.mem_reverse.1 h)
  have hrl : xs.reverse.length = xs.length := List.length_reverse
  have hE := chunkEnc_fn t xs ht hx
  have hE2 := chunkEnc_fn t xs.reverse ht hxr
  have c1 : ∀ t xs, chP (t, xs) = .agg [.str t, .sl 2 (sms xs)] := fun _ _ => rfl
  rw [c1] at hE hE2 ⊢
  refine AW.go ?_
  refine AW.callE (fun _ => 0) awake12_fn .nil ?_
  by_cases g1 : xs.length > 200
  · have d1 : decide ((xs.length : Int) > 200) = true := decide_eq_true (by omega)
    refine AW.gg ?_ (by simp only [go_sem, ↓reduceIte, sms_len, d1] <;> rfl)
    refine AW.condT rfl ?_
    refine AW.go ?_
    refine AW.finE (.pv _ .nil) rfl
  have d1 : decide ((xs.length : Int) > 200) = false := decide_eq_false (by omega)
  by_cases g2 : t.length > 64
  · have d2 : decide ((t.length : Int) > 64) = true := decide_eq_true (by omega)
    refine AW.gg ?_ (by simp only [go_sem, ↓reduceIte, sms_len, d1, d2] <;> rfl)
    refine AW.condT rfl ?_
    refine AW.go ?_
    refine AW.finE (.pv _ .nil) rfl
  have d2 : decide ((t.length : Int) > 64) = false := decide_eq_false (by omega)
  refine AW.gg ?_ (by simp only [go_sem, ↓reduceIte, sms_len, d1, d2] <;> rfl)
  refine AW.condF rfl ?_
  have e0 : IntKind.i64.wrap ((xs.length : Int) - 1) = (xs.length : Int) - 1 - ((0 : Nat) : Int) := (wrap_i64_of (by omega) (by omega)).trans (by simp)
  refine AW.go ?_ (by simp only [go_sem, ↓reduceIte, sms_len, e0] <;> rfl)
  refine AW.loopS (fun p : Nat × List Sm => ⟨95, [(3, .pv (.bool true)), (1, .ptr 1 0), (4, .own 55 (sms p.2)), (5, .pv (.int .i64 ((xs.length : Int) - 1 - (p.1 : Int))))], [(1, .cells 42 [.pv (.str t), .pv (.sl 2 (sms xs))])]⟩) (fun p => p.1 ≤ xs.length ∧ p.2 = xs.reverse.take p.1) (fun p => xs.length - p.1) [3, 1, 4, 5] [1] (0, []) ⟨Nat.zero_le _, rfl⟩ ?_
  rintro ⟨i, Z⟩ ⟨hi, hZ⟩ K hK
  simp only at hi hZ
  refine AW.go ?_
  refine AW.cond rfl (fun hc => ?_) (fun hc => ?_)
  · have hlt : i < xs.length := by simp at hc; omega
    have ek : (xs.length : Int) - 1 - (i : Int) = ((xs.length - 1 - i : Nat) : Int) := by omega
    have hk : xs.length - 1 - i < xs.length := by omega
    have hg : (sms xs)[xs.length - 1 - i]? = some (.agg [.int .i64 xs[xs.length - 1 - i].1, .int .u64 (xs[xs.length - 1 - i].2 : Nat)]) := by unfold sms; rw [List.getElem?_map, List.getElem?_eq_getElem hk]; rfl
    have hZ1 : Z ++ [xs[xs.length - 1 - i]] = xs.reverse.take (i + 1) := by
      rw [List.take_add_one, hZ, List.getElem?_reverse hlt, List.getElem?_eq_getElem hk]; rfl
    have hZl : Z.length = i := by rw [hZ, List.length_take]; omega
    generalize xs[xs.length - 1 - i] = x at *
    have h3 : sms Z ++ [.agg [.int .i64 x.1, .int .u64 (x.2 : Nat)]] = sms (Z ++ [x]) := by simp [sms]
    have h4 : (Z.length + 1) * 16 ≤ room := by omega
    have h5 : Z.length + 1 ≤ room := by omega
    have ei : IntKind.i64.wrap (((xs.length - 1 - i : Nat) : Int) - 1) = (xs.length : Int) - 1 - ((i + 1 : Nat) : Int) := (wrap_i64_of (by omega) (by omega)).trans (by omega)
    rw [ek]
    refine AW.go ?_ (by simp only [go_sem, ↓reduceIte, sms_len, hk, hg, h3, h4, h5, ei] <;> rfl)
    exact AW.again hK (i + 1, Z ++ [x]) ⟨by simp only; omega, hZ1⟩ (by simp only; omega)
  have hge : i = xs.length := by simp at hc; omega
  subst hge
  have hZ2 : Z = xs.reverse := by rw [hZ, List.take_of_length_le (by omega)]
  subst hZ2
  clear hK hZ hc hi
  refine AW.freeze (p := .slot 4) (by simp only [go_sem, ↓reduceIte, freeze, freezeO] <;> rfl) ?_
  refine AW.go ?_
  refine AW.callE (fun _ => 0) hE (.pv _ .nil) ?_
  refine AW.go ?_
  refine AW.callE (fun _ => 0) hE2 (.pv _ .nil) ?_
  refine AW.freeze (p := .part 51 0) (by simp only [go_sem, ↓reduceIte, freeze, freezeO] <;> rfl) ?_
  have he : (encC t xs).2 = 0 := by rw [encC_ok (by omega) (by omega)]
  have he2 : (encC t xs.reverse).2 = 0 := by rw [encC_ok (by omega) (by omega)]
  have hdec := decC_encC hxr (t := t) (by omega) (by omega)
  have hby := encC_byte (t := t) hxr
  have hbl := encC_room (t := t) (xs := xs.reverse)
  have heq : xs = xs.reverse → (encC t xs).1.length = (encC t xs.reverse).1.length := fun h => by rw [← h]
  rw [he, he2]
  generalize (encC t xs).1 = a at *
  generalize (encC t xs.reverse).1 = b at *
  have hD := chunkDec_fn b (by omega) hby
  rw [hdec] at hD
  simp only at hD
  rw [c1] at hD
  refine AW.go ?_
  refine AW.callE (fun _ => 0) hD (.pv _ .nil) ?_
  refine AW.gg ?_
  refine AW.condF rfl ?_
  have hS := lawSame_fn t t xs xs.reverse (by omega)
  have hS2 := lawSame_fn t t xs.reverse xs.reverse (by omega)
  rw [c1, c1] at hS
  rw [c1] at hS2
  refine AW.go ?_
  refine AW.callE (fun _ => 0) hS (.pv _ (.pv _ .nil)) ?_
  by_cases h : xs = xs.reverse
  · have hd : decide (xs = xs.reverse) = true := decide_eq_true h
    simp only [true_and, hd]
    refine AW.gg ?_
    refine AW.guardT rfl rfl ?_
    refine AW.callE (fun _ => 0) hS2 (.pv _ (.pv _ .nil)) ?_
    have hl := heq h
    have f1 : (a.length == b.length) = true := by simpa using hl
    have f2 : ((a.length : Int) == (b.length : Int)) = true := by simp; omega
    refine AW.gg ?_ (by simp only [go_sem, ↓reduceIte, decide_true, and_self, f1, f2] <;> rfl)
    refine AW.finE (.pv _ .nil) rfl
  · have hd : decide (xs = xs.reverse) = false := decide_eq_false h
    simp only [true_and, hd]
    refine AW.gg ?_
    refine AW.guardT rfl rfl ?_
    refine AW.callE (fun _ => 0) hS2 (.pv _ (.pv _ .nil)) ?_
    by_cases hl : a.length = b.length
    · have f1 : (a.length == b.length) = true := by simpa using hl
      have f2 : ((a.length : Int) == (b.length : Int)) = true := by simp; omega
      refine AW.gg ?_ (by simp only [go_sem, ↓reduceIte, decide_true, and_self, f1, f2] <;> rfl)
      refine AW.finE (.pv _ .nil) rfl
    · have f1 : (a.length == b.length) = false := by simpa using hl
      have f2 : ((a.length : Int) == (b.length : Int)) = false := by simp; omega
      refine AW.gg ?_ (by simp only [go_sem, ↓reduceIte, decide_true, and_self, f1, f2] <;> rfl)
      refine AW.finE (.pv _ .nil) rfl
end Go.Ck
