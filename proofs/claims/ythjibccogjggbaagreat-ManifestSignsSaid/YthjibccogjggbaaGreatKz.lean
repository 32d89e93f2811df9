/- What is proved here: parts of the proofs of this seat's statements (a verified evaluator for calls over pure values, its laws, and contracts of functions). No condition. -/
import Derived.Test.YthjibccogjggbaaGreatKy
import Derived.Test.YthjibccogjggbaaGreatKu
import Derived.Test.YthjibccogjggbaaGreatKw
import Derived.Test.YthjibccogjggbaaGreatKv
set_option linter.all false
set_option linter.unusedVariables false
set_option maxRecDepth 100000
set_option maxHeartbeats 400000
namespace Go.Ck
open Go.Proofs
theorem entsP_snoc (es : List Ent) (t : List UInt8) (x : Nat) : entsP es ++ [.agg [.str t, .int .i64 (x : Int)]] = entsP (es ++ [entD t x]) := by simp [entsP, entP, entD]
theorem padSz_pos (x : Nat) : decide (0 < padSz (x : Int)) = decide (x ≤ 8) := by
  rw [Bool.eq_iff_iff]
  have := padSz_zero (x : Int)
  simp only [decide_eq_true_eq]
  omega
theorem ments_fn (ts : List (List UInt8)) (htl : ts.length < 2 ^ 40) (q0 : List Nat) (hl : q0.length ≤ 2 ^ 40) (hb : ∀ x ∈ q0, x < 256) : FnP Tryz.prog 36 (curO q0) [.ptr 1000 0, .pv (.sl 1 (strs ts))]
    (fun rs H' => (entsD ts q0).2.1 = 0 ∧ rs = [.pv (.sl 2 (entsP (entsD ts q0).1))] ∧ H' = curO (entsD ts q0).2.2) (fun p H' => (entsD ts q0).2.1 ≠ 0 ∧ p = failE (entsD ts q0).2.1 ∧ H' = curO (entsD ts q0).2.2) := by
  refine FnP.of_body (fn := Tryz.f36) (n := 46) (res := [.tmp 4]) (by kernel_rfl) rfl rfl rfl rfl rfl (fun C => ?_)
  have hr : room = 140737488355328 := rfl
  refine AW.go ?_
  refine AW.callPE id (counted_fn q0 (by omega) hb) (.ptr rfl .nil) (fun he ch hch => ?_) (fun he => ?_)
  · have e1 : entsD ts q0 = ([], (cntD q0).2) := by unfold entsD; rw [if_pos he]
    rw [e1]
    exact AW.endP hch ⟨he, rfl, rfl⟩
  have e1 : entsD ts q0 = enD ts (cntD q0).1 [] (cntD q0).2.2 := by unfold entsD; rw [if_neg (by simpa using he)]
  rw [e1]
  have hb1 := cntD_byte hb
  have hl1 := cntD_len q0
  have hn := cntD_le q0
  generalize (cntD q0).2.2 = q1 at *
  generalize (cntD q0).1 = n at *
  clear he e1
  refine AW.go ?_
  refine AW.loopS (fun a : List Ent × List Nat => ⟨46, [(10, .pv (.int .i64 a.1.length)), (9, .pv (.int .i64 n)), (0, .ptr 1000 0), (1, .pv (.sl 1 (strs ts))), (5, .own 40 (entsP a.1))], [(1000, .cells 87 [.pv (.sl 1 (bytes a.2))])]⟩) (fun a => a.1.length ≤ n ∧ enD ts (n - a.1.length) a.1 a.2 = enD ts n [] q1 ∧ (∀ x ∈ a.2, x < 256) ∧ a.2.length ≤ q1.length) (fun a => n - a.1.length) [10, 9, 0, 1, 5] [1000] ([], q1) ⟨Nat.zero_le _, rfl, hb1, Nat.le_refl _⟩ ?_
  rintro ⟨acc, q⟩ ⟨hi, htn, hqb, hql⟩ K hK
  simp only at hi htn hqb hql
  refine AW.go ?_
  refine AW.cond rfl (fun hc => ?_) (fun hc => ?_)
  · have hlt : acc.length < n := by have := of_decide_eq_true hc; omega
    obtain ⟨m, hm⟩ : ∃ m, n - acc.length = m + 1 := ⟨n - acc.length - 1, by omega⟩
    rw [hm, enD] at htn
    have hb2 : ∀ x ∈ q.drop (readV q).2.1, x < 256 := fun x hx => hqb x (List.mem_of_mem_drop hx)
    have hl2 : (q.drop (readV q).2.1).length ≤ q.length := by rw [List.length_drop]; omega
    have hv := readV_lt hqb
    refine AW.go ?_
    refine AW.callE id (curVarint_fn q (by omega) hqb) (.ptr rfl .nil) ?_
    generalize q.drop (readV q).2.1 = q2 at *
    generalize readV q = B at *
    obtain ⟨v, k0, e⟩ := B
    simp only at htn hv
    refine AW.go ?_
    refine AW.callPE (fun _ => 0) (got64_fn v e) (.pv _ (.pv _ .nil)) (fun he ch hch => ?_) (fun he => ?_)
    · rw [← htn, if_pos he]
      exact AW.endP hch ⟨he, rfl, rfl⟩
    rw [if_neg (show ¬ e ≠ 0 by simpa using he)] at htn
    have et : IntKind.u64.wrap (ts.length : Int) = (ts.length : Int) := wrap_u64_lt (by omega)
    have d1 : decide ((v : Int) < (ts.length : Int)) = decide (v < ts.length) := by rw [Bool.eq_iff_iff]; simp
    refine AW.go ?_ (by simp only [go_sem, ↓reduceIte, et, d1] <;> rfl)
    refine AW.callPE (fun _ => 0) (unless_fn (decide (v < ts.length)) 3 (by decide)) (.pv _ (.pv _ .nil)) (fun he ch hch => ?_) (fun he => ?_)
    · have := of_decide_eq_false he
      rw [← htn, if_pos (by omega)]
      exact AW.endP hch ⟨by simp, rfl, rfl⟩
    have hvt := of_decide_eq_true he
    rw [if_neg (by omega)] at htn
    refine AW.go ?_
    refine AW.callPE id (taken_fn q2 1 (by omega)) (.ptr rfl (.pv _ .nil)) (fun he ch hch => ?_) (fun he => ?_)
    · rw [← htn, if_pos he]
      exact AW.endP hch ⟨by simp, rfl, rfl⟩
    obtain ⟨x, q3, rfl⟩ : ∃ x r, q2 = x :: r := by
      cases q2 with
      | nil => simp at he
      | cons x r => exact ⟨x, r, rfl⟩
    have t1 : (x :: q3).take 1 = [x] := rfl
    have t2 : (x :: q3).drop 1 = q3 := rfl
    have t3 : (x :: q3).headD 0 = x := rfl
    rw [if_neg (by omega)] at htn
    rw [t1, t2]
    rw [t2, t3] at htn
    have hx := hb2 x (by simp)
    have hb3 : ∀ y ∈ q3, y < 256 := fun y hy => hb2 y (by simp [hy])
    have hl3 : q3.length ≤ q1.length := by simp at hl2; omega
    have g0 : (bytes [x])[0]? = some (.int .u8 (x : Int)) := rfl
    have ex : IntKind.i64.wrap (x : Int) = (x : Int) := wrap_i64_nat (by omega)
    refine AW.go ?_ (by simp only [go_sem, ↓reduceIte, g0, ex] <;> rfl)
    refine AW.callE (fun _ => 0) (size_fn (x : Int)) (.pv _ .nil) ?_
    have dp := padSz_pos x
    have dp' : decide ((padSz (x : Int) : Int) > 0) = decide (x ≤ 8) := by rw [← dp, Bool.eq_iff_iff]; simp
    refine AW.go ?_ (by simp only [go_sem, ↓reduceIte, dp, dp'] <;> rfl)
    refine AW.callPE (fun _ => 0) (unless_fn (decide (x ≤ 8)) 3 (by decide)) (.pv _ (.pv _ .nil)) (fun he ch hch => ?_) (fun he => ?_)
    · have := of_decide_eq_false he
      rw [← htn, if_pos (by omega)]
      exact AW.endP hch ⟨by simp, rfl, rfl⟩
    have hx8 := of_decide_eq_true he
    rw [if_neg (by omega)] at htn
    have hgt : ts[v]? = some (ts.getD v []) := by rw [List.getD_eq_getElem?_getD, List.getElem?_eq_getElem hvt]; rfl
    have hg := strs_get hgt
    generalize ts.getD v [] = t at *
    have r1 : ((acc.length + 1) * 24 ≤ room) = True := eq_true (by omega)
    have r2 : (acc.length + 1 ≤ room) = True := eq_true (by omega)
    have ei : IntKind.i64.wrap ((acc.length : Int) + 1) = ((acc.length + 1 : Nat) : Int) := wrap_i64_succ (by omega)
    have hsn := entsP_snoc acc t x
    have hlen : (acc ++ [entD t x]).length = acc.length + 1 := by simp
    refine AW.go ?_
    refine AW.calmS ?_
    refine CK.reads [[], [], [], [33, 34], [35], [], [37], [38], [39]] ?_ (by simp only [go_sem, ↓reduceIte, hg, g0, ex] <;> rfl)
    refine CK.build [36, 40] ?_ (hf := by simp only [go_sem, ↓reduceIte, hg, g0, ex] <;> rfl)
    refine CK.list [41] ?_
    refine CK.done (M := 11) 2 mixed ?_
    refine AW.seqs (fuel := 0) (listed' := Array.replicate 13 true) [11, 12] ?_ (by decide +kernel)
    -- 11: t43 := call append(t32, t42)
    -- 12: t5 := = t43
    refine AW.gg ?_ (by simp only [go_sem, ↓reduceIte, r1, r2, hsn, List.length_cons, List.length_nil, Nat.zero_add] <;> rfl)
    refine AW.anyDone (by decide +kernel) ?_
    refine AW.go ?_ (by simp only [go_sem, ↓reduceIte, ei] <;> rfl)
    refine AW.again hK (acc ++ [entD t x], q3) ⟨by rw [hlen]; omega, ?_, hb3, hl3⟩ (by simp only [hlen]; omega) (hs := by simp only [go_sem, ↓reduceIte, hlen] <;> rfl)
    rw [← htn]
    simp only [hlen]
    congr 1
    omega
  have hge : acc.length = n := by have := of_decide_eq_false hc; omega
  rw [hge, Nat.sub_self] at htn
  rw [← htn]
  refine AW.freeze (p := .slot 5) (by simp only [go_sem, ↓reduceIte, freeze, freezeO] <;> rfl) ?_
  refine AW.go ?_
  refine AW.finP (.pv _ .nil) ⟨rfl, rfl, rfl⟩
end Go.Ck

set_option linter.unusedVariables false
set_option maxRecDepth 100000
set_option maxHeartbeats 400000
namespace Go.Ck
open Go.Proofs
def mO (a b c d : PV) (e : Int) : List (Nat × HO) := [(1002, .cells 26 [.pv a, .pv b, .pv c, .pv d]), (1003, .cells 29 [.pv (.int .i64 e)])]
attribute [go_sem] mO
theorem mdecRet_fn (a b c d : PV) (e : Int) : FnD Tryz.prog 29 (mO a b c d e) (ptrS [1002, 1003]) .returning .returning (fun H' => H' = mO a b c d e) := by
  refine FnD.of_rec (fn := Tryz.f29) (n := 14) (d := 5) (p := .nili) (by kernel_rfl) rfl rfl rfl rfl rfl rfl rfl rfl rfl (.inl ⟨rfl, rfl, rfl⟩) (fun C => ?_)
  refine AW.go ?_
  refine AW.eqNilI tk_20 ?_
  refine AW.condT (by simp only [go_sem, ↓reduceIte]) ?_
  refine AW.go ?_
  refine AW.finE .nil rfl
theorem mdecRec_fn (a b c d : PV) (e0 e : Int) {ch : List PanicEntry} (hch : Pan ch (failE e)) : FnD Tryz.prog 29 (mO a b c d e0) (ptrS [1002, 1003]) (.panicking ch) (recd ch) (fun H' => H' = mO (.int .u64 0) (.sl 1 []) (.sl 2 []) (.sl 1 []) e) := by
  refine FnD.of_rec (fn := Tryz.f29) (n := 14) (d := 5) (p := failE e) (by kernel_rfl) rfl rfl rfl rfl rfl rfl rfl rfl rfl (.inr ⟨ch, rfl, hch, rfl⟩) (fun C => ?_)
  refine AW.go ?_
  refine AW.eqNilI tk_20 ?_
  refine AW.condF (by simp only [go_sem, ↓reduceIte]) ?_
  refine AW.go ?_
  refine AW.assertT tk_53 ?_
  refine AW.go ?_
  refine AW.condT rfl ?_
  refine AW.go ?_
  refine AW.any0 mixed ?_
  refine AW.takes (fuel := 4) [1] ?_ (by simp only [go_sem, ↓reduceIte] <;> rfl) Ends.noPanic (listed' := #[false, true, false, false, false]) (by decide +kernel) (by decide +kernel)
  refine via (T := ?Tend) (fun hT => ?_) ?_; rotate_left
  · refine AW.branch (fuel := 3) (rs := [0, 2]) ?_ (by decide +kernel) (by simp)
    intro j hj
    simp only [List.mem_cons, List.not_mem_nil, or_false] at hj
    rcases hj with rfl | rfl
    · skip
      refine AW.gg ?_
      refine AW.branch (fuel := 2) (rs := [2, 3]) ?_ (by decide +kernel) (by simp)
      intro j hj
      simp only [List.mem_cons, List.not_mem_nil, or_false] at hj
      rcases hj with rfl | rfl
      · skip
        refine AW.gg ?_
        refine AW.seqs (fuel := 0) (listed' := #[true, true, true, true, true]) [3, 4] ?_ (by decide +kernel)
        refine AW.gg ?_
        refine AW.anyDone (by decide +kernel) ?_
        refine AW.keepB [] [1002, 1003] (s' := ⟨14, [], [(1002, .cells 26 [.pv (.int .u64 0), .nils, .nils, .nils]), (1003, .cells 29 [.pv (.int .i64 e)])]⟩) (by simp only [go_sem, ↓reduceIte]) (by simp only [go_sem, ↓reduceIte] <;> rfl) ?_
        exact hT ()
      · skip
        refine AW.gg ?_
        refine AW.seqs (fuel := 0) (listed' := #[true, true, true, true, true]) [2, 4] ?_ (by decide +kernel)
        refine AW.gg ?_
        refine AW.anyDone (by decide +kernel) ?_
        refine AW.keepB [] [1002, 1003] (s' := ⟨14, [], [(1002, .cells 26 [.pv (.int .u64 0), .nils, .nils, .nils]), (1003, .cells 29 [.pv (.int .i64 e)])]⟩) (by simp only [go_sem, ↓reduceIte]) (by simp only [go_sem, ↓reduceIte] <;> rfl) ?_
        exact hT ()
    · skip
      refine AW.gg ?_
      refine AW.seqs (fuel := 0) (listed' := #[true, true, true, true, true]) [0, 3, 4] ?_ (by decide +kernel)
      refine AW.gg ?_
      refine AW.anyDone (by decide +kernel) ?_
      refine AW.keepB [] [1002, 1003] (s' := ⟨14, [], [(1002, .cells 26 [.pv (.int .u64 0), .nils, .nils, .nils]), (1003, .cells 29 [.pv (.int .i64 e)])]⟩) (by simp only [go_sem, ↓reduceIte]) (by simp only [go_sem, ↓reduceIte] <;> rfl) ?_
      exact hT ()
  refine AW.go ?_
  refine AW.nilsOwnAt (.cell 1002 1) 5 ?_
  refine AW.freeze (p := .cell 1002 1) (by simp only [go_sem, ↓reduceIte, freeze, freezeO] <;> rfl) ?_
  refine AW.nilsOwnAt (.cell 1002 2) 40 ?_
  refine AW.freeze (p := .cell 1002 2) (by simp only [go_sem, ↓reduceIte, freeze, freezeO] <;> rfl) ?_
  refine AW.nilsOwnAt (.cell 1002 3) 5 ?_
  refine AW.freeze (p := .cell 1002 3) (by simp only [go_sem, ↓reduceIte, freeze, freezeO] <;> rfl) ?_
  refine AW.finE .nil rfl
theorem ub_eq {l : List Nat} (hb : ∀ x ∈ l, x < 256) : (ub l == [67, 83, 75, 49]) = decide (l = [67, 83, 75, 49]) := by
  rw [Bool.eq_iff_iff]
  simp only [beq_iff_eq, decide_eq_true_eq]
  constructor
  · intro h
    rw [← nb_ub hb, h]; rfl
  · rintro rfl; rfl
theorem manDec_fn (b : List Nat) (hl : b.length ≤ 2 ^ 40) (hb : ∀ x ∈ b, x < 256) : Fn Tryz.prog 13 [] [.pv (.sl 1 (bytes b))]
    (fun rs H' => rs = [.pv (manP (decM b).1), .pv (.int .i64 (decM b).2)] ∧ H' = []) := by
  refine Fn.of_bodyD 29 [1002, 1003] (fn := Tryz.f13) (n := 55) (res := [.cell 2 26, .cell 3 29]) (by kernel_rfl) rfl rfl rfl rfl rfl (fun C => ?_)
  have hr : room = 140737488355328 := rfl
  have hbad : ∀ e, decM b = noM e → [SV.pv (.agg [.int .u64 0, .sl 1 [], .sl 2 [], .sl 1 []]), .pv (.int .i64 e)] = [SV.pv (manP (decM b).1), .pv (.int .i64 (decM b).2)] := fun e h => by rw [h]; rfl
  refine AW.seq ?_
  refine AW.region ?_
  refine AW.allocAt 1002 ?_
  refine AW.allocAt 1003 ?_
  refine AW.nilsOwnAt (.cell 1002 1) 5 ?_
  refine AW.freeze (p := .cell 1002 1) (by simp only [go_sem, ↓reduceIte, freeze, freezeO] <;> rfl) ?_
  refine AW.nilsOwnAt (.cell 1002 2) 40 ?_
  refine AW.freeze (p := .cell 1002 2) (by simp only [go_sem, ↓reduceIte, freeze, freezeO] <;> rfl) ?_
  refine AW.nilsOwnAt (.cell 1002 3) 5 ?_
  refine AW.freeze (p := .cell 1002 3) (by simp only [go_sem, ↓reduceIte, freeze, freezeO] <;> rfl) ?_
  refine AW.go ?_
  refine AW.defer [1002, 1003] ?_
  refine AW.go ?_
  refine AW.callE (fun _ => 4) (curNew_fn b (by omega)) (.pv _ .nil) ?_
  refine AW.go ?_
  refine AW.callPE (fun _ => 4) (taken_fn b 4 (by omega)) (.ptr rfl (.pv _ .nil)) (fun he ch hch => ?_) (fun he => ?_)
  · exact AW.finDP hch (mdecRec_fn _ _ _ _ _ _ hch) (.pv _ (.pv _ .nil)) ⟨hbad 2 (by unfold decM; rw [if_pos he]), rfl⟩
  have e1 : decM b = if b.take 4 ≠ [67, 83, 75, 49] then noM 3 else decM1 (b.drop 4) := by unfold decM; rw [if_neg (by omega)]
  rw [e1] at hbad ⊢
  have hu := ub_eq (l := b.take 4) (fun x hx => hb x (List.mem_of_mem_take hx))
  have hb1 : ∀ x ∈ b.drop 4, x < 256 := fun x hx => hb x (List.mem_of_mem_drop hx)
  have hl1 : (b.drop 4).length ≤ 2 ^ 40 := by rw [List.length_drop]; omega
  clear e1 he hb hl
  generalize b.take 4 = m4 at *
  generalize b.drop 4 = q1 at *
  refine AW.go ?_ (by simp only [go_sem, ↓reduceIte, numsOf_byt, ofNums_ub, hu] <;> rfl)
  refine AW.callPE (fun _ => 0) (unless_fn (decide (m4 = [67, 83, 75, 49])) 3 (by decide)) (.pv _ (.pv _ .nil)) (fun he ch hch => ?_) (fun he => ?_)
  · exact AW.finDP hch (mdecRec_fn _ _ _ _ _ _ hch) (.pv _ (.pv _ .nil)) ⟨hbad 3 (by rw [if_pos (of_decide_eq_false he)]), rfl⟩
  have e2 : (if m4 ≠ [67, 83, 75, 49] then noM 3 else decM1 q1) = decM1 q1 := if_neg (by simpa using of_decide_eq_true he)
  rw [e2] at hbad ⊢
  clear e2 he hu
  refine AW.go ?_
  refine AW.callE (fun _ => 4) (curFixed_fn q1 8 (by omega) (by omega) hb1) (.ptr rfl (.pv _ .nil)) ?_
  have hv := beN_lt (q1.take 8) (fun x hx => hb1 x (List.mem_of_mem_take hx))
  have hvp : 256 ^ (q1.take 8).length ≤ 256 ^ 8 := Nat.pow_le_pow_right (by omega) (by rw [List.length_take]; omega)
  have hb2 : ∀ x ∈ q1.drop 8, x < 256 := fun x hx => hb1 x (List.mem_of_mem_drop hx)
  have hl2 : (q1.drop 8).length ≤ 2 ^ 40 := by rw [List.length_drop]; omega
  by_cases h8 : q1.length < 8
  · have h8' : ¬ 8 ≤ q1.length := by omega
    simp only [if_neg h8']
    refine AW.go ?_
    refine AW.callPE (fun _ => 0) (got64_fn 0 2) (.pv _ (.pv _ .nil)) (fun he ch hch => ?_) (fun he => absurd he (by decide))
    exact AW.finDP hch (mdecRec_fn _ _ _ _ _ _ hch) (.pv _ (.pv _ .nil)) ⟨hbad 2 (by unfold decM1; rw [if_pos h8]), rfl⟩
  have h8' : 8 ≤ q1.length := by omega
  simp only [if_pos h8']
  have e3 : decM1 q1 = if beN (q1.take 8) = 18446744073709551615 then noM 3 else decM2 (beN (q1.take 8)) (q1.drop 8) := by unfold decM1; rw [if_neg h8]
  rw [e3] at hbad ⊢
  clear e3 h8 h8'
  generalize beN (q1.take 8) = v at *
  generalize q1.drop 8 = q2 at *
  clear hvp
  refine AW.go ?_
  refine AW.callPE (fun _ => 0) (got64_fn v 0) (.pv _ (.pv _ .nil)) (fun he ch hch => absurd rfl he) (fun he => ?_)
  clear he
  have dv : ((v : Int) != 18446744073709551615) = !decide (v = 18446744073709551615) := by rw [Bool.eq_iff_iff]; simp; omega
  refine AW.go ?_ (by simp only [go_sem, ↓reduceIte, dv] <;> rfl)
  refine AW.callPE (fun _ => 0) (unless_fn (!decide (v = 18446744073709551615)) 3 (by decide)) (.pv _ (.pv _ .nil)) (fun he ch hch => ?_) (fun he => ?_)
  · have hv1 : v = 18446744073709551615 := by simpa using he
    exact AW.finDP hch (mdecRec_fn _ _ _ _ _ _ hch) (.pv _ (.pv _ .nil)) ⟨hbad 3 (by rw [if_pos hv1]), rfl⟩
  have hv1 : v ≠ 18446744073709551615 := by simpa using he
  rw [if_neg hv1] at hbad ⊢
  clear he
  refine AW.go ?_
  refine AW.callPE (fun _ => 4) (taken_fn q2 32 (by omega)) (.ptr rfl (.pv _ .nil)) (fun he ch hch => ?_) (fun he => ?_)
  · exact AW.finDP hch (mdecRec_fn _ _ _ _ _ _ hch) (.pv _ (.pv _ .nil)) ⟨hbad 2 (by unfold decM2; rw [if_pos he]), rfl⟩
  have e4 : decM2 v q2 = decM3 v (q2.take 32) (q2.drop 32) := by unfold decM2; rw [if_neg (by omega)]
  rw [e4] at hbad ⊢
  have hb3 : ∀ x ∈ q2.drop 32, x < 256 := fun x hx => hb2 x (List.mem_of_mem_drop hx)
  have hl3 : (q2.drop 32).length ≤ 2 ^ 40 := by rw [List.length_drop]; omega
  clear e4 he
  generalize q2.take 32 = prev at *
  generalize q2.drop 32 = q3 at *
  refine AW.go ?_
  refine AW.callPE (fun _ => 4) (mtens_fn q3 (by omega) hb3) (.ptr rfl .nil) (fun he ch hch => ?_) (fun he => ?_)
  · exact AW.finDP hch (mdecRec_fn _ _ _ _ _ _ hch) (.pv _ (.pv _ .nil)) ⟨hbad _ (by unfold decM3; rw [if_pos he]), rfl⟩
  have e5 : decM3 v prev q3 = decM4 v prev (tensD q3).1 (tensD q3).2.2 := by unfold decM3; rw [if_neg (by simpa using he)]
  rw [e5] at hbad ⊢
  have hb4 := tensD_byte hb3
  have hl4 := tensD_len hb3
  have htl := tensD_n q3
  clear e5 he
  generalize (tensD q3).1 = ts at *
  generalize (tensD q3).2.2 = q4 at *
  refine AW.go ?_
  refine AW.callPE (fun _ => 4) (ments_fn ts (by omega) q4 (by omega) hb4) (.ptr rfl (.pv _ .nil)) (fun he ch hch => ?_) (fun he => ?_)
  · exact AW.finDP hch (mdecRec_fn _ _ _ _ _ _ hch) (.pv _ (.pv _ .nil)) ⟨hbad _ (by unfold decM4; rw [if_pos he]), rfl⟩
  have e6 : decM4 v prev ts q4 = decM5 v prev ts (entsD ts q4).1 (entsD ts q4).2.2 := by unfold decM4; rw [if_neg (by simpa using he)]
  rw [e6] at hbad ⊢
  have hb5 := entsD_byte ts hb4
  have hl5 := entsD_len ts q4
  have hel := entsD_n ts q4
  clear e6 he
  generalize (entsD ts q4).1 = es at *
  generalize (entsD ts q4).2.2 = q5 at *
  refine AW.go ?_
  refine AW.callPE (fun _ => 4) (taken_fn q5 32 (by omega)) (.ptr rfl (.pv _ .nil)) (fun he ch hch => ?_) (fun he => ?_)
  · exact AW.finDP hch (mdecRec_fn _ _ _ _ _ _ hch) (.pv _ (.pv _ .nil)) ⟨hbad 2 (by unfold decM5; rw [if_pos he]), rfl⟩
  have e7 : decM5 v prev ts es q5 = if q5.drop 32 ≠ [] then noM 3 else if (dirS es).length ≠ ts.length then noM 3 else (⟨v, prev, es, q5.take 32⟩, 0) := by unfold decM5; rw [if_neg (by omega)]
  rw [e7] at hbad ⊢
  clear e7 he
  generalize q5.take 32 = root at *
  generalize q5.drop 32 = q6 at *
  refine AW.go ?_
  refine AW.callE (fun _ => 4) (curEnd_fn q6) (.ptr rfl .nil) ?_
  refine AW.go ?_
  refine AW.callPE (fun _ => 0) (must_fn _) (.pv _ .nil) (fun he ch hch => ?_) (fun he => ?_)
  · have h6 : q6 ≠ [] := fun h => he (if_pos h)
    rw [if_neg h6] at hch
    exact AW.finDP hch (mdecRec_fn _ _ _ _ _ _ hch) (.pv _ (.pv _ .nil)) ⟨hbad _ (by rw [if_pos h6]), rfl⟩
  have h6 : q6 = [] := Classical.byContradiction fun h => by rw [if_neg h] at he; exact absurd he (by decide)
  rw [if_neg (by simpa using h6)] at hbad ⊢
  clear he
  have hdf := directory_fn es (by omega)
  have hdl := dirS_len es
  have hnl := nmS_len es
  generalize dirS es = ns at *
  refine AW.go ?_
  refine AW.callE (fun _ => 6) hdf (.pv _ .nil) ?_
  refine AW.go ?_
  refine AW.extractM rfl ⟨_, rfl⟩ ?_
  have dn : ((ns.length : Int) == (ts.length : Int)) = decide (ns.length = ts.length) := by rw [Bool.eq_iff_iff]; simp; omega
  refine AW.go ?_ (by simp only [go_sem, ↓reduceIte, dn] <;> rfl)
  refine AW.callPE (fun _ => 0) (unless_fn (decide (ns.length = ts.length)) 3 (by decide)) (.pv _ (.pv _ .nil)) (fun he ch hch => ?_) (fun he => ?_)
  · exact AW.finDP hch (mdecRec_fn _ _ _ _ _ _ hch) (.pv _ (.pv _ .nil)) ⟨hbad 3 (by rw [if_pos (of_decide_eq_false he)]), rfl⟩
  rw [if_neg (by simpa using of_decide_eq_true he)]
  refine AW.go ?_
  exact AW.finD (mdecRet_fn _ _ _ _ _) (.pv _ (.pv _ .nil)) ⟨rfl, rfl⟩
end Go.Ck

set_option linter.unusedVariables false
set_option maxRecDepth 100000
set_option maxHeartbeats 400000
namespace Go.Ck
open Go.Proofs
theorem refMSame_fn (m m2 : Man) (hl : m.es.length < 2 ^ 40) (hp : m.prev.length ≤ 2 ^ 40) (hr : m.root.length ≤ 2 ^ 40) : Fn Tryz.prog 23 [] [.pv (manP m), .pv (manP m2)] (fun rs H' => rs = [.pv (.bool (sameM m m2))] ∧ H' = []) := by
  refine Fn.of_body (fn := Tryz.f23) (n := 71) (res := [.tmp 4]) (by kernel_rfl) rfl rfl rfl rfl rfl (fun C => ?_)
  have hroom : room = 140737488355328 := rfl
  obtain ⟨v, p, es, r⟩ := m
  obtain ⟨v2, p2, es2, r2⟩ := m2
  have hm : ∀ v p es r, manP ⟨v, p, es, r⟩ = .agg [.int .u64 (v : Int), .sl 1 (bytes p), .sl 2 (entsP es), .sl 1 (bytes r)] := fun _ _ _ _ => rfl
  rw [hm, hm]
  simp only at hl hp hr
  unfold sameM
  simp only
  have dv : ((v : Int) != (v2 : Int)) = !decide (v = v2) := by rw [Bool.eq_iff_iff]; simp; omega
  have dl : ((es.length : Int) != (es2.length : Int)) = !decide (es.length = es2.length) := by rw [Bool.eq_iff_iff]; simp; omega
  have dl' : (es.length != es2.length) = !decide (es.length = es2.length) := by rw [Bool.eq_iff_iff]; simp
  by_cases hv : v = v2
  · rw [decide_eq_true hv] at dv
    refine AW.gg ?_ (by simp only [go_sem, ↓reduceIte, dv, Bool.not_true] <;> rfl)
    refine AW.guardT rfl rfl ?_
    refine AW.callE (fun _ => 0) (ref01Same_fn p p2 (by omega)) (.pv _ (.pv _ .nil)) ?_
    by_cases hpp : p = p2
    · rw [decide_eq_true hpp]
      refine AW.gg ?_
      refine AW.guardT rfl rfl ?_
      refine AW.callE (fun _ => 0) (ref01Same_fn r r2 (by omega)) (.pv _ (.pv _ .nil)) ?_
      by_cases hrr : r = r2
      · rw [decide_eq_true hrr]
        by_cases hll : es.length = es2.length
        · rw [decide_eq_true hll] at dl dl'
          refine AW.gg ?_ (by simp only [go_sem, ↓reduceIte, dl, dl', Bool.not_true] <;> rfl)
          refine AW.condF rfl ?_
          refine AW.go ?_
          refine AW.loopS (fun i : Nat => ⟨71, [(5, .pv (.int .i64 i)), (2, .ptr 2 0), (3, .ptr 3 0)], [(2, .cells 26 [.pv (.int .u64 (v : Int)), .pv (.sl 1 (bytes p)), .pv (.sl 2 (entsP es)), .pv (.sl 1 (bytes r))]), (3, .cells 26 [.pv (.int .u64 (v2 : Int)), .pv (.sl 1 (bytes p2)), .pv (.sl 2 (entsP es2)), .pv (.sl 1 (bytes r2))])]⟩) (fun i => i ≤ es.length ∧ es.take i = es2.take i) (fun i => es.length - i) [5, 2, 3] [2, 3] 0 ⟨Nat.zero_le _, rfl⟩ ?_
          rintro i ⟨hi, ht⟩ K hK
          refine AW.go ?_
          refine AW.cond rfl (fun hc => ?_) (fun hc => ?_)
          · have hlt : i < es.length := by have := of_decide_eq_true hc; omega
            obtain ⟨e, he⟩ : ∃ e, es[i]? = some e := ⟨es[i], List.getElem?_eq_getElem hlt⟩
            obtain ⟨e2, he2⟩ : ∃ e, es2[i]? = some e := ⟨es2[i], List.getElem?_eq_getElem (by omega)⟩
            have hg := entsP_get he
            have hg2 := entsP_get he2
            have e1 : IntKind.i64.wrap ((i : Int) + 1) = ((i + 1 : Nat) : Int) := wrap_i64_succ (by omega)
            have hne : e ≠ e2 → ¬ (v = v2 ∧ p = p2 ∧ r = r2 ∧ es = es2) := by
              rintro h ⟨_, _, _, h4⟩
              rw [h4, he2] at he
              exact h (by cases he; rfl)
            refine AW.go ?_
            by_cases ht1 : e.1 = e2.1
            · have d1 : (e.1 == e2.1) = true := by simpa using ht1
              have d1' : (e.1 != e2.1) = false := by simpa using ht1
              by_cases ht2 : e.2 = e2.2
              · have d2 : (e.2 != e2.2) = false := by simpa using ht2
                refine AW.sr mixed (by decide +kernel) ?_ (by simp only [go_sem, ↓reduceIte, hg, hg2, d1, d1', d2] <;> rfl)
                refine AW.go ?_
                refine AW.condF rfl ?_
                refine AW.go ?_ (by simp only [go_sem, ↓reduceIte, e1] <;> rfl)
                have hee : e = e2 := Prod.ext ht1 ht2
                exact AW.again hK (i + 1) (by exact ⟨hlt, by rw [List.take_add_one, List.take_add_one, he, he2, ht, hee]⟩) (by omega)
              · have d2 : (e.2 != e2.2) = true := by simpa using ht2
                rw [decide_eq_false (hne (fun h => ht2 (by rw [h])))]
                refine AW.sr mixed (by decide +kernel) ?_ (by simp only [go_sem, ↓reduceIte, hg, hg2, d1, d1', d2] <;> rfl)
                refine AW.go ?_
                refine AW.condT rfl ?_
                refine AW.go ?_
                exact AW.finE (.pv _ .nil) rfl
            · have d1 : (e.1 == e2.1) = false := by simpa using ht1
              have d1' : (e.1 != e2.1) = true := by simpa using ht1
              rw [decide_eq_false (hne (fun h => ht1 (by rw [h])))]
              refine AW.sr mixed (by decide +kernel) ?_ (by simp only [go_sem, ↓reduceIte, hg, hg2, d1, d1'] <;> rfl)
              refine AW.go ?_
              refine AW.condT rfl ?_
              refine AW.go ?_
              exact AW.finE (.pv _ .nil) rfl
          have hge : ¬ i < es.length := by have := of_decide_eq_false hc; omega
          rw [List.take_of_length_le (by omega), List.take_of_length_le (by omega)] at ht
          rw [decide_eq_true ⟨hv, hpp, hrr, ht⟩]
          refine AW.go ?_
          exact AW.finE (.pv _ .nil) rfl
        · rw [decide_eq_false hll] at dl dl'
          rw [decide_eq_false (fun h => hll (by rw [h.2.2.2]))]
          refine AW.gg ?_ (by simp only [go_sem, ↓reduceIte, dl, dl', Bool.not_false] <;> rfl)
          refine AW.condT rfl ?_
          refine AW.go ?_
          exact AW.finE (.pv _ .nil) rfl
      · rw [decide_eq_false hrr, decide_eq_false (fun h => hrr h.2.2.1)]
        refine AW.gg ?_
        refine AW.condT rfl ?_
        refine AW.go ?_
        exact AW.finE (.pv _ .nil) rfl
    · rw [decide_eq_false hpp, decide_eq_false (fun h => hpp h.2.1)]
      refine AW.gg ?_
      refine AW.condT rfl ?_
      refine AW.go ?_
      exact AW.finE (.pv _ .nil) rfl
  · rw [decide_eq_false hv] at dv
    rw [decide_eq_false (fun h => hv h.1)]
    refine AW.gg ?_ (by simp only [go_sem, ↓reduceIte, dv, Bool.not_false] <;> rfl)
    refine AW.condT rfl ?_
    refine AW.go ?_
    exact AW.finE (.pv _ .nil) rfl
theorem lawMSame_fn (m m2 : Man) (hl : m.es.length < 2 ^ 40) (hp : m.prev.length ≤ 2 ^ 40) (hr : m.root.length ≤ 2 ^ 40) : Fn Tryz.prog 11 [] [.pv (manP m), .pv (manP m2)] (fun rs H' => rs = [.pv (.bool (sameM m m2))] ∧ H' = []) := by
  refine Fn.of_body (fn := Tryz.f11) (n := 8) (res := [.tmp 4]) (by kernel_rfl) rfl rfl rfl rfl rfl (fun C => ?_)
  have hs := refMSame_fn m m2 hl hp hr
  obtain ⟨v, p, es, r⟩ := m
  obtain ⟨v2, p2, es2, r2⟩ := m2
  have hm : ∀ v p es r, manP ⟨v, p, es, r⟩ = .agg [.int .u64 (v : Int), .sl 1 (bytes p), .sl 2 (entsP es), .sl 1 (bytes r)] := fun _ _ _ _ => rfl
  rw [hm, hm] at hs ⊢
  refine AW.go ?_
  refine AW.callE (fun _ => 0) hs (.pv _ (.pv _ .nil)) ?_
  refine AW.go ?_
  exact AW.finE (.pv _ .nil) rfl
end Go.Ck

set_option linter.unusedVariables false
set_option maxRecDepth 100000
set_option maxHeartbeats 400000
namespace Go.Ck
open Go.Proofs
def verB (v : List Nat) (i : Nat) : Nat := beN (v.take i)
theorem verB_succ {v : List Nat} {i x : Nat} (h : v[i]? = some x) : verB v (i + 1) = verB v i * 256 + x := by
  unfold verB
  obtain ⟨hi, rfl⟩ := List.getElem?_eq_some_iff.1 h
  rw [List.take_succ_eq_append_getElem hi]
  unfold beN
  rw [List.foldl_append]
  rfl
theorem refDec_fn (b : List Nat) (hl : b.length ≤ 2 ^ 39) (hb : ∀ x ∈ b, x < 256) : Fn Tryz.prog 22 [] [.pv (.sl 1 (bytes b))]
    (fun rs H' => rs = [.pv (manP (refD b).1), .pv (.int .i64 (refD b).2)] ∧ H' = []) := by
  refine Fn.of_body (fn := Tryz.f22) (n := 154) (res := [.cell 2 26, .tmp 3]) (by kernel_rfl) rfl rfl rfl rfl rfl (fun C => ?_)
  have hr : room = 140737488355328 := rfl
  have hA1 := rdB_len (n := 4) (s := (b, 0))
  have hA2 := (rdB_byte (n := 4) (s := (b, 0)) hb).1
  have hA3 := rdB_take (n := 4) (s := (b, 0))
  have e0 : refD b = refD1 (rdN ((rdB 4 (b, 0)).1 == [67, 83, 75, 49]) 3 (rdB 4 (b, 0)).2) := rfl
  rw [e0]; clear e0
  refine AW.go ?_
  refine AW.callE (fun _ => 18) (rdB_fn (b, 0) 4 (by decide) (by simp only; omega)) (.ptr rfl (.pv _ .nil)) ?_
  generalize rdB 4 (b, 0) = h at *
  obtain ⟨h, s0⟩ := h
  simp only at hA1 hA2 hA3 ⊢
  refine AW.go ?_
  refine AW.callE (args := [.pv (.sl 1 (bytes h)), .pv (.sl 1 (bytes [67, 83, 75, 49]))]) (fun _ => 0) (ref01Same_fn h [67, 83, 75, 49] (by omega)) (.pv _ (.lend rfl co_5 .nil)) ?_
  have e1 : (h == [67, 83, 75, 49]) = decide (h = [67, 83, 75, 49]) := by rw [Bool.eq_iff_iff]; simp
  rw [e1]; clear e1
  refine AW.go ?_
  refine AW.callE (fun _ => 18) (rdN_fn s0 (decide (h = [67, 83, 75, 49])) 3) (.ptr rfl (.pv _ (.pv _ .nil))) ?_
  have hB1 : (rdN (decide (h = [67, 83, 75, 49])) 3 s0).1 = s0.1 := rdN_len
  generalize rdN (decide (h = [67, 83, 75, 49])) 3 s0 = s1 at *
  clear hA3
  obtain ⟨q1, x1⟩ := s1
  simp only at hB1
  subst hB1
  have hC1 := rdB_len (n := 8) (s := (s0.1, x1))
  have hC2 := rdB_byte (n := 8) (s := (s0.1, x1)) hA2
  have hC3 := rdB_take (n := 8) (s := (s0.1, x1))
  have e0 : refD1 (s0.1, x1) = refD2 (beN (rdB 8 (s0.1, x1)).1) (rdN (beN (rdB 8 (s0.1, x1)).1 != 18446744073709551615) 3 (rdB 8 (s0.1, x1)).2) := rfl
  rw [e0]; clear e0
  refine AW.go ?_
  refine AW.callE (fun _ => 18) (rdB_fn (s0.1, x1) 8 (by decide) (by simp only; omega)) (.ptr rfl (.pv _ .nil)) ?_
  generalize rdB 8 (s0.1, x1) = h at *
  obtain ⟨v, s2⟩ := h
  simp only at hC1 hC2 hC3 ⊢
  refine AW.go ?_
  refine AW.nilsOwnAt (.cell 2 1) 5 ?_
  refine AW.freeze (p := .cell 2 1) (by simp only [go_sem, ↓reduceIte, freeze, freezeO] <;> rfl) ?_
  refine AW.nilsOwnAt (.cell 2 2) 40 ?_
  refine AW.freeze (p := .cell 2 2) (by simp only [go_sem, ↓reduceIte, freeze, freezeO] <;> rfl) ?_
  refine AW.nilsOwnAt (.cell 2 3) 5 ?_
  refine AW.freeze (p := .cell 2 3) (by simp only [go_sem, ↓reduceIte, freeze, freezeO] <;> rfl) ?_
  refine AW.nilsOwnAt (.cell 6 1) 5 ?_
  refine AW.freeze (p := .cell 6 1) (by simp only [go_sem, ↓reduceIte, freeze, freezeO] <;> rfl) ?_
  refine AW.nilsOwnAt (.cell 6 3) 5 ?_
  refine AW.freeze (p := .cell 6 3) (by simp only [go_sem, ↓reduceIte, freeze, freezeO] <;> rfl) ?_
  refine AW.nilsOwnAt (.cell 6 2) 40 ?_
  obtain ⟨q2, x2⟩ := s2
  simp only at hC1 hC2 ⊢
  obtain ⟨hC2, hC4⟩ := hC2
  have hvl : ∀ i, verB v i < 2 ^ 64 := fun i => by
    have h1 := beN_lt (v.take i) (fun x hx => hC4 x (List.mem_of_mem_take hx))
    have h2 : 256 ^ (v.take i).length ≤ 256 ^ 8 := Nat.pow_le_pow_right (by omega) (by rw [List.length_take]; omega)
    unfold verB; omega
  refine AW.loopS (fun i : Nat => ⟨154, [(8, .pv (.int .i64 i)), (7, .pv (.sl 1 (bytes v))), (4, .ptr 18 0), (6, .ptr 6 0), (2, .ptr 2 0), (3, .pv (.int .i64 0))], [(6, .cells 26 [.pv (.int .u64 (verB v i)), .pv (.sl 1 []), .own 40 [], .pv (.sl 1 [])]), (18, .cells 72 [.pv (.sl 1 (bytes q2)), .pv (.int .i64 x2)]), (2, .cells 26 [.pv (.int .u64 0), .pv (.sl 1 []), .pv (.sl 2 []), .pv (.sl 1 [])])]⟩) (fun i => i ≤ v.length) (fun i => v.length - i) [8, 7, 4, 6, 2, 3] [6, 18, 2] 0 (Nat.zero_le _) ?_
  rintro i hi K hK
  refine AW.go ?_
  refine AW.cond rfl (fun hc => ?_) (fun hc => ?_)
  · have hlt : i < v.length := by have := of_decide_eq_true hc; omega
    obtain ⟨x, hx⟩ : ∃ x, v[i]? = some x := ⟨v[i], List.getElem?_eq_getElem hlt⟩
    have hx8 := hC4 x (List.mem_of_getElem? hx)
    have hg : (bytes v)[i]? = some (.int .u8 (x : Int)) := by unfold bytes; rw [List.getElem?_map, hx]; rfl
    have hs := verB_succ hx
    have hs2 := hvl (i + 1)
    have w1 : IntKind.u64.wrap ((verB v i : Int) * 256) = ((verB v i * 256 : Nat) : Int) := wrap_u64_lt (n := verB v i * 256) (by omega)
    have w2 : IntKind.u64.wrap (((verB v i * 256 : Nat) : Int) + (x : Int)) = ((verB v (i + 1) : Nat) : Int) := by rw [hs]; exact wrap_u64_lt (n := verB v i * 256 + x) (by omega)
    have w3 : IntKind.u64.wrap (x : Int) = (x : Int) := wrap_u64_lt (by omega)
    have ei : IntKind.i64.wrap ((i : Int) + 1) = ((i + 1 : Nat) : Int) := wrap_i64_succ (by omega)
    refine AW.go ?_
    refine AW.calmS ?_
    refine CK.reads [[], [35], [36], [], [], [38, 39], [40], [41], [37, 42]] ?_ (by simp only [go_sem, ↓reduceIte, hg, w1, w2, w3] <;> rfl)
    refine CK.done (M := 9) 2 mixed ?_
    refine AW.seqs (fuel := 0) (listed' := Array.replicate 11 true) [9, 10] ?_ (by decide +kernel)
    refine AW.gg ?_
    refine AW.anyDone (by decide +kernel) ?_
    refine AW.go ?_ (by simp only [go_sem, ↓reduceIte, ei] <;> rfl)
    exact AW.again hK (i + 1) (by omega) (by omega)
  have hge : i = v.length := by have := of_decide_eq_false hc; omega
  have hve : verB v i = beN v := by unfold verB; rw [List.take_of_length_le (by omega)]
  have hv64 := hvl i
  rw [hve] at hv64 ⊢
  clear hve hvl
  generalize beN v = ver at *
  clear hge hi hc hC3 hC4
  have dv : ((ver : Int) != 18446744073709551615) = (ver != 18446744073709551615) := by rw [Bool.eq_iff_iff]; simp; omega
  refine AW.go ?_ (by simp only [go_sem, ↓reduceIte, dv] <;> rfl)
  refine AW.callE (fun _ => 18) (rdN_fn (q2, x2) (ver != 18446744073709551615) 3) (.ptr rfl (.pv _ (.pv _ .nil))) ?_
  have hD1 : (rdN (ver != 18446744073709551615) 3 (q2, x2)).1 = q2 := rdN_len
  generalize rdN (ver != 18446744073709551615) 3 (q2, x2) = s3 at *
  obtain ⟨q3, x3⟩ := s3
  simp only at hD1
  subst hD1
  have hE1 := rdB_len (n := 32) (s := (q3, x3))
  have hE2 := (rdB_byte (n := 32) (s := (q3, x3)) hC2).1
  have e0 : refD2 ver (q3, x3) = refD3 ver (rdB 32 (q3, x3)).1 (rdB 32 (q3, x3)).2 := rfl
  rw [e0]; clear e0
  refine AW.go ?_
  refine AW.callE (fun _ => 18) (rdB_fn (q3, x3) 32 (by decide) (by simp only; omega)) (.ptr rfl (.pv _ .nil)) ?_
  generalize rdB 32 (q3, x3) = h at *
  obtain ⟨prev, q4, x4⟩ := h
  simp only at hE1 hE2 ⊢
  have e0 : refD3 ver prev (q4, x4) = refD4 ver prev (rdD (q4, x4)).1 (rdD (q4, x4)).2 := rfl
  rw [e0]; clear e0
  have hF1 := rdD_len (q4, x4) hE2
  have hF2 := rdD_byte (q4, x4) hE2
  have hF3 := rdD_n (q4, x4)
  refine AW.go ?_
  refine AW.callE (fun _ => 18) (rdD_fn (q4, x4) (by simp only; omega) hE2) (.ptr rfl .nil) ?_
  generalize rdD (q4, x4) = h at *
  obtain ⟨ts, q5, x5⟩ := h
  simp only at hF1 hF2 hF3 ⊢
  have e0 : refD4 ver prev ts (q5, x5) = refD5 ver prev (rdEs ts (q5, x5)).1 (rdEs ts (q5, x5)).2.1 (rdEs ts (q5, x5)).2.2 := rfl
  rw [e0]; clear e0
  have e0 : rdEs ts (q5, x5) = rdE ts (rdV (q5, x5)).1 (List.replicate ts.length false) [] (rdN (decide ((rdV (q5, x5)).1 ≤ 1048576)) 4 (rdV (q5, x5)).2) := rfl
  rw [e0]; clear e0
  have hG1 := rdV_len (s := (q5, x5))
  obtain ⟨hG2, hG3⟩ := rdV_byte (s := (q5, x5)) hF2
  refine AW.go ?_
  refine AW.callE (fun _ => 18) (rdV_fn (q5, x5) (by simp only; omega) hF2) (.ptr rfl .nil) ?_
  generalize rdV (q5, x5) = h at *
  obtain ⟨n, q6, x6⟩ := h
  simp only at hG1 hG2 hG3 ⊢
  have d1 : decide ((n : Int) ≤ 1048576) = decide (n ≤ 1048576) := by rw [Bool.eq_iff_iff]; simp; omega
  refine AW.go ?_ (by simp only [go_sem, ↓reduceIte, d1] <;> rfl)
  refine AW.callE (fun _ => 18) (rdN_fn (q6, x6) (decide (n ≤ 1048576)) 4) (.ptr rfl (.pv _ (.pv _ .nil))) ?_
  have hH1 : (rdN (decide (n ≤ 1048576)) 4 (q6, x6)).1 = q6 := rdN_len
  have hH2 : (rdN (decide (n ≤ 1048576)) 4 (q6, x6)).2 = 0 → n ≤ 1048576 := fun h => of_decide_eq_true (rdN_zero (by decide) h).2
  generalize rdN (decide (n ≤ 1048576)) 4 (q6, x6) = h at *
  obtain ⟨q7, x7⟩ := h
  simp only at hH1 hH2
  subst hH1
  have rt : (ts.length ≤ room) = True := eq_true (by omega)
  have hrep := bools_rep ts.length false
  refine AW.go ?_ (by simp only [go_sem, ↓reduceIte, rt, hrep, Int.toNat_natCast] <;> rfl)
  refine AW.loopS (fun a : Nat × List Bool × List Ent × RdS => ⟨154, [(12, .pv (.int .u64 a.1)), (10, .pv (.int .u64 n)), (4, .ptr 18 0), (9, .pv (.sl 1 (strs ts))), (11, .own 4 (bools a.2.1)), (6, .ptr 6 0), (2, .ptr 2 0), (3, .pv (.int .i64 0))], [(6, .cells 26 [.pv (.int .u64 ver), .pv (.sl 1 (bytes prev)), .own 40 (entsP a.2.2.1), .pv (.sl 1 [])]), (18, .cells 72 [.pv (.sl 1 (bytes a.2.2.2.1)), .pv (.int .i64 a.2.2.2.2)]), (2, .cells 26 [.pv (.int .u64 0), .pv (.sl 1 []), .pv (.sl 2 []), .pv (.sl 1 [])])]⟩) (fun a => a.1 ≤ n ∧ rdE ts (n - a.1) a.2.1 a.2.2.1 a.2.2.2 = rdE ts n (List.replicate ts.length false) [] (q7, x7) ∧ (∀ x ∈ a.2.2.2.1, x < 256) ∧ a.2.2.2.1.length ≤ b.length ∧ (a.2.2.2.2 = 0 → n ≤ 1048576) ∧ a.2.2.1.length ≤ a.1 ∧ a.2.1.length = ts.length) (fun a => n - a.1) [12, 10, 4, 9, 11, 6, 2, 3] [6, 18, 2] (0, List.replicate ts.length false, [], (q7, x7)) ⟨Nat.zero_le _, rfl, hG2, by simp only; omega, hH2, Nat.le_refl _, by simp⟩ ?_
  rintro ⟨i, us, es, ⟨q, x⟩⟩ ⟨hi, htn, hqb, hql, hn, hesl, husl⟩ K hK
  simp only at hi htn hqb hql hn hesl husl
  by_cases hc : i < n ∧ x = 0
  · obtain ⟨hlt, he⟩ := hc
    subst he
    have hn := hn rfl
    obtain ⟨m, hm⟩ : ∃ m, n - i = m + 1 := ⟨n - i - 1, by omega⟩
    have e0 : rdE ts (m + 1) us es (q, 0) = if (rdE2 ts (q, 0)).2 = 0 then rdE ts m (us.set (rdV (q, 0)).1 true) (es ++ [entD (ts.getD (rdV (q, 0)).1 []) ((rdB 1 (rdE1 ts (q, 0))).1.headD 0)]) (rdE2 ts (q, 0)) else rdE ts m us es (rdE2 ts (q, 0)) := by conv => lhs; unfold rdE; rw [if_neg (by simp)]
    rw [hm, e0] at htn
    clear e0
    have hz := rdE2_zero (ts := ts) (s := (q, 0))
    have e1 : rdE2 ts (q, 0) = rdN (okOne (rdB 1 (rdE1 ts (q, 0))).1) 3 (rdB 1 (rdE1 ts (q, 0))).2 := rfl
    rw [e1] at htn hz
    clear e1
    have e2 : rdE1 ts (q, 0) = rdN (decide ((rdV (q, 0)).1 < ts.length)) 3 (rdV (q, 0)).2 := rfl
    rw [e2] at htn hz
    clear e2
    have d1 : decide ((i : Int) < (n : Int)) = true := decide_eq_true (by omega)
    have d1' : decide (i < n) = true := decide_eq_true hlt
    have g0 : ((0 : Int) == 0) = true := rfl
    have ei : IntKind.u64.wrap ((i : Int) + 1) = ((i + 1 : Nat) : Int) := wrap_u64_lt (n := i + 1) (by omega)
    have hV1 := rdV_len (s := (q, 0))
    obtain ⟨hV2, hV3⟩ := rdV_byte (s := (q, 0)) hqb
    refine AW.gg ?_ (by simp only [go_sem, ↓reduceIte, g0, d1, d1'] <;> rfl)
    refine AW.condT rfl ?_
    refine AW.go ?_
    refine AW.callE (fun _ => 18) (rdV_fn (q, 0) (by simp only; omega) hqb) (.ptr rfl .nil) ?_
    generalize rdV (q, 0) = h at *
    obtain ⟨v, q8, x8⟩ := h
    simp only at hV1 hV2 hV3 htn hz
    have et : IntKind.u64.wrap (ts.length : Int) = (ts.length : Int) := wrap_u64_lt (by omega)
    have dv : decide ((v : Int) < (ts.length : Int)) = decide (v < ts.length) := by rw [Bool.eq_iff_iff]; simp
    refine AW.go ?_ (by simp only [go_sem, ↓reduceIte, et, dv] <;> rfl)
    refine AW.callE (fun _ => 18) (rdN_fn (q8, x8) (decide (v < ts.length)) 3) (.ptr rfl (.pv _ (.pv _ .nil))) ?_
    have hW1 : (rdN (decide (v < ts.length)) 3 (q8, x8)).1 = q8 := rdN_len
    generalize rdN (decide (v < ts.length)) 3 (q8, x8) = h at *
    obtain ⟨q9, x9⟩ := h
    simp only at hW1
    subst hW1
    have hB1 := rdB_len (n := 1) (s := (q9, x9))
    obtain ⟨hB2, hB3⟩ := rdB_byte (n := 1) (s := (q9, x9)) hV2
    have hB4 := rdB_take (n := 1) (s := (q9, x9))
    refine AW.go ?_
    refine AW.callE (fun _ => 18) (rdB_fn (q9, x9) 1 (by decide) (by simp only; omega)) (.ptr rfl (.pv _ .nil)) ?_
    generalize rdB 1 (q9, x9) = h at *
    obtain ⟨kb, q10, x10⟩ := h
    simp only at hB1 hB2 hB3 hB4 htn hz
    refine AW.go ?_
    refine via (T := ?Tok) (fun hT => ?_) ?_; rotate_left
    · by_cases hk1 : kb.length = 1
      · obtain ⟨y, hkb⟩ : ∃ y, kb = [y] := by
          match kb, hk1 with
          | [y], _ => exact ⟨y, rfl⟩
        have hgy : (bytes kb)[0]? = some (.int .u8 (y : Int)) := by rw [hkb]; rfl
        have dy : decide ((y : Int) ≤ 8) = okOne kb := by rw [hkb, okOne_one, Bool.eq_iff_iff]; simp; omega
        have d2 : ((kb.length : Int) == 1) = true := by rw [beq_iff_eq]; omega
        refine AW.gg ?_ (by simp only [go_sem, ↓reduceIte, hgy, dy, d2] <;> rfl)
        refine AW.callE (fun _ => 18) (rdN_fn (q10, x10) (okOne kb) 3) (.ptr rfl (.pv _ (.pv _ .nil))) ?_
        refine AW.keepB [12, 10, 4, 9, 11, 6, 2, 3, 13, 14] [6, 18, 2] (s' := ⟨154, [(12, .pv (.int .u64 i)), (10, .pv (.int .u64 n)), (4, .ptr 18 0), (9, .pv (.sl 1 (strs ts))), (11, .own 4 (bools us)), (6, .ptr 6 0), (2, .ptr 2 0), (3, .pv (.int .i64 0)), (13, .pv (.int .u64 v)), (14, .pv (.sl 1 (bytes kb)))], [(6, .cells 26 [.pv (.int .u64 ver), .pv (.sl 1 (bytes prev)), .own 40 (entsP es), .pv (.sl 1 [])]), (18, .cells 72 [.pv (.sl 1 (bytes (rdN (okOne kb) 3 (q10, x10)).1)), .pv (.int .i64 (rdN (okOne kb) 3 (q10, x10)).2)]), (2, .cells 26 [.pv (.int .u64 0), .pv (.sl 1 []), .pv (.sl 2 []), .pv (.sl 1 [])])]⟩) (by simp only [go_sem, ↓reduceIte]) (by simp only [go_sem, ↓reduceIte] <;> rfl) ?_
        exact hT ()
      · have hk0 : kb = [] := List.eq_nil_of_length_eq_zero (by omega)
        have hok : okOne kb = false := by rw [hk0]; rfl
        have d2 : ((kb.length : Int) == 1) = false := by rw [beq_eq_false_iff_ne]; omega
        refine AW.gg ?_ (by simp only [go_sem, ↓reduceIte, d2] <;> rfl)
        refine AW.callE (fun _ => 18) (rdN_fn (q10, x10) false 3) (.ptr rfl (.pv _ (.pv _ .nil))) ?_
        rw [show rdN false 3 (q10, x10) = rdN (okOne kb) 3 (q10, x10) by rw [hok]]
        refine AW.keepB [12, 10, 4, 9, 11, 6, 2, 3, 13, 14] [6, 18, 2] (s' := ⟨154, [(12, .pv (.int .u64 i)), (10, .pv (.int .u64 n)), (4, .ptr 18 0), (9, .pv (.sl 1 (strs ts))), (11, .own 4 (bools us)), (6, .ptr 6 0), (2, .ptr 2 0), (3, .pv (.int .i64 0)), (13, .pv (.int .u64 v)), (14, .pv (.sl 1 (bytes kb)))], [(6, .cells 26 [.pv (.int .u64 ver), .pv (.sl 1 (bytes prev)), .own 40 (entsP es), .pv (.sl 1 [])]), (18, .cells 72 [.pv (.sl 1 (bytes (rdN (okOne kb) 3 (q10, x10)).1)), .pv (.int .i64 (rdN (okOne kb) 3 (q10, x10)).2)]), (2, .cells 26 [.pv (.int .u64 0), .pv (.sl 1 []), .pv (.sl 2 []), .pv (.sl 1 [])])]⟩) (by simp only [go_sem, ↓reduceIte]) (by simp only [go_sem, ↓reduceIte] <;> rfl) ?_
        exact hT ()
    have hB5 : (rdN (okOne kb) 3 (q10, x10)).1 = q10 := rdN_len
    generalize rdN (okOne kb) 3 (q10, x10) = h at *
    obtain ⟨q11, x11⟩ := h
    simp only at hB5 htn hz
    subst hB5
    by_cases hx11 : x11 = 0
    · subst hx11
      obtain ⟨hvt, hok⟩ := hz rfl
      rw [if_pos rfl] at htn
      obtain ⟨y, hkb⟩ : ∃ y, kb = [y] := by
        unfold okOne at hok
        rw [Bool.and_eq_true] at hok
        match kb, of_decide_eq_true hok.1 with
        | [y], _ => exact ⟨y, rfl⟩
      subst hkb
      have hy := hB3 y (by simp)
      have hgt : ts[v]? = some (ts.getD v []) := by rw [List.getD_eq_getElem?_getD, List.getElem?_eq_getElem hvt]; rfl
      have hg := strs_get hgt
      have t3 : ([y] : List Nat).headD 0 = y := rfl
      rw [t3] at htn
      generalize ts.getD v [] = tn at *
      have hgy : (bytes [y])[0]? = some (.int .u8 (y : Int)) := rfl
      have hvu : (v < us.length) = True := eq_true (by omega)
      have hvu' : (v < (bools us).length) = True := by rw [bools_len]; exact hvu
      have hbs := bools_set us v true
      have hgu := bools_get (List.getElem?_eq_getElem (show v < us.length by omega))
      have ey : IntKind.i64.wrap (y : Int) = (y : Int) := wrap_i64_nat (by omega)
      have r1 : ((es.length + 1) * 24 ≤ room) = True := eq_true (by omega)
      have r2 : (es.length + 1 ≤ room) = True := eq_true (by omega)
      have hsn := entsP_snoc es tn y
      have hlen : (es ++ [entD tn y]).length = es.length + 1 := by simp
      refine AW.go ?_ (by simp only [go_sem, ↓reduceIte, g0] <;> rfl)
      refine AW.condT rfl ?_
      refine AW.go ?_ (by simp only [go_sem, ↓reduceIte, hvu, hvu', bools_len, hbs, hgu] <;> rfl)
      refine AW.calmS ?_
      refine CK.reads [[], [106], [], [], [108, 109], [110], [], [112], [113], [114]] ?_ (by simp only [go_sem, ↓reduceIte, hg, hgy, ey] <;> rfl)
      refine CK.build [111, 115] ?_ (hf := by simp only [go_sem, ↓reduceIte, hg, hgy, ey] <;> rfl)
      refine CK.list [116] ?_
      refine CK.done (M := 12) 3 mixed ?_
      refine AW.seqs (fuel := 0) (listed' := Array.replicate 15 true) [12, 13, 14] ?_ (by decide +kernel)
      refine AW.gg ?_ (by simp only [go_sem, ↓reduceIte, r1, r2, hsn, List.length_cons, List.length_nil, Nat.zero_add] <;> rfl)
      refine AW.anyDone (by decide +kernel) ?_
      refine AW.go ?_ (by simp only [go_sem, ↓reduceIte, ei] <;> rfl)
      refine AW.again hK (i + 1, us.set v true, es ++ [entD tn y], (q11, 0)) ⟨by simp only; omega, ?_, hB2, by simp only; omega, fun _ => hn, by simp only [hlen]; omega, by simp only [List.length_set]; exact husl⟩ (by simp only; omega)
      rw [← htn]
      simp only
      congr 1
      omega
    · have g1 : (x11 == 0) = false := beq_eq_false_iff_ne.2 hx11
      rw [if_neg hx11] at htn
      refine AW.go ?_ (by simp only [go_sem, ↓reduceIte, g1] <;> rfl)
      refine AW.condF rfl ?_
      refine AW.go ?_ (by simp only [go_sem, ↓reduceIte, ei] <;> rfl)
      refine AW.again hK (i + 1, us, es, (q11, x11)) ⟨by simp only; omega, ?_, hB2, by simp only; omega, fun _ => hn, by simp only; omega, husl⟩ (by simp only; omega)
      rw [← htn]
      simp only
      congr 1
      omega
  have hfin : rdE ts n (List.replicate ts.length false) [] (q7, x7) = (us, es, (q, x)) := by
    rw [← htn]
    by_cases h : x = 0
    · rw [show n - i = 0 by have := fun k => hc ⟨k, h⟩; omega]; rfl
    · exact rdE_err ts _ us es (s := (q, x)) h
  rw [hfin]
  clear hfin htn
  refine via (T := ?Tend) (fun hT => ?_) ?_; rotate_left
  · by_cases hlt : i < n
    · have d1 : decide ((i : Int) < (n : Int)) = true := decide_eq_true (by omega)
      have d1' : decide (i < n) = true := decide_eq_true (by omega)
      have g0 : (x == 0) = false := beq_eq_false_iff_ne.2 (fun k => hc ⟨hlt, k⟩)
      refine AW.gg ?_ (by simp only [go_sem, ↓reduceIte, g0, d1, d1'] <;> rfl)
      refine AW.keepB [73, 4, 11, 6, 2, 3] [6, 18, 2] (s' := ⟨154, [(73, .pv (.bool false)), (4, .ptr 18 0), (11, .own 4 (bools us)), (6, .ptr 6 0), (2, .ptr 2 0), (3, .pv (.int .i64 0))], [(6, .cells 26 [.pv (.int .u64 ver), .pv (.sl 1 (bytes prev)), .own 40 (entsP es), .pv (.sl 1 [])]), (18, .cells 72 [.pv (.sl 1 (bytes q)), .pv (.int .i64 x)]), (2, .cells 26 [.pv (.int .u64 0), .pv (.sl 1 []), .pv (.sl 2 []), .pv (.sl 1 [])])]⟩) (by simp only [go_sem, ↓reduceIte]) (by simp only [go_sem, ↓reduceIte] <;> rfl) ?_
      exact hT ()
    · have d1 : decide ((i : Int) < (n : Int)) = false := decide_eq_false (by omega)
      have d1' : decide (i < n) = false := decide_eq_false (by omega)
      refine AW.gg ?_ (by simp only [go_sem, ↓reduceIte, d1, d1'] <;> rfl)
      refine AW.keepB [73, 4, 11, 6, 2, 3] [6, 18, 2] (s' := ⟨154, [(73, .pv (.bool false)), (4, .ptr 18 0), (11, .own 4 (bools us)), (6, .ptr 6 0), (2, .ptr 2 0), (3, .pv (.int .i64 0))], [(6, .cells 26 [.pv (.int .u64 ver), .pv (.sl 1 (bytes prev)), .own 40 (entsP es), .pv (.sl 1 [])]), (18, .cells 72 [.pv (.sl 1 (bytes q)), .pv (.int .i64 x)]), (2, .cells 26 [.pv (.int .u64 0), .pv (.sl 1 []), .pv (.sl 2 []), .pv (.sl 1 [])])]⟩) (by simp only [go_sem, ↓reduceIte]) (by simp only [go_sem, ↓reduceIte] <;> rfl) ?_
      exact hT ()
  refine AW.condF rfl ?_
  have hP1 := rdB_len (n := 32) (s := (q, x))
  refine AW.go ?_
  refine AW.callE (fun _ => 18) (rdB_fn (q, x) 32 (by decide) (by simp only; omega)) (.ptr rfl (.pv _ .nil)) ?_
  have e0 : refD5 ver prev us es (q, x) = if (rdU us (rdN (decide ((rdB 32 (q, x)).2.1.length = 0)) 3 (rdB 32 (q, x)).2)).2 ≠ 0 then noM (rdU us (rdN (decide ((rdB 32 (q, x)).2.1.length = 0)) 3 (rdB 32 (q, x)).2)).2 else (⟨ver, prev, es, (rdB 32 (q, x)).1⟩, 0) := rfl
  rw [e0]
  clear e0
  generalize rdB 32 (q, x) = h at *
  obtain ⟨root, qa, xa⟩ := h
  simp only at hP1 ⊢
  have dq : ((qa.length : Int) == 0) = decide (qa.length = 0) := by rw [Bool.eq_iff_iff]; simp
  refine AW.go ?_ (by simp only [go_sem, ↓reduceIte, dq] <;> rfl)
  refine AW.callE (fun _ => 18) (rdN_fn (qa, xa) (decide (qa.length = 0)) 3) (.ptr rfl (.pv _ (.pv _ .nil))) ?_
  generalize rdN (decide (qa.length = 0)) 3 (qa, xa) = sb at *
  refine AW.go ?_
  refine AW.loopS (fun a : Nat × RdS => ⟨154, [(15, .pv (.int .i64 a.1)), (4, .ptr 18 0), (11, .own 4 (bools us)), (6, .ptr 6 0), (2, .ptr 2 0), (3, .pv (.int .i64 0))], [(6, .cells 26 [.pv (.int .u64 ver), .pv (.sl 1 (bytes prev)), .own 40 (entsP es), .pv (.sl 1 (bytes root))]), (18, .cells 72 [.pv (.sl 1 (bytes a.2.1)), .pv (.int .i64 a.2.2)]), (2, .cells 26 [.pv (.int .u64 0), .pv (.sl 1 []), .pv (.sl 2 []), .pv (.sl 1 [])])]⟩) (fun a => a.1 ≤ us.length ∧ rdU (us.drop a.1) a.2 = rdU us sb) (fun a => us.length - a.1) [15, 4, 11, 6, 2, 3] [6, 18, 2] (0, sb) ⟨Nat.zero_le _, rfl⟩ ?_
  rintro ⟨j, qc, xc⟩ ⟨hj, hju⟩ K hK
  simp only at hj hju
  refine AW.go ?_ (by simp only [go_sem, ↓reduceIte, bools_len] <;> rfl)
  refine AW.cond rfl (fun hc => ?_) (fun hc => ?_)
  · have hlt : j < us.length := by have := of_decide_eq_true hc; omega
    obtain ⟨u, hu⟩ : ∃ u, us[j]? = some u := ⟨us[j], List.getElem?_eq_getElem hlt⟩
    have hgu := bools_get hu
    have hul : (j < us.length) = True := eq_true hlt
    have ej : IntKind.i64.wrap ((j : Int) + 1) = ((j + 1 : Nat) : Int) := wrap_i64_succ (by omega)
    rw [rdU_at hu] at hju
    refine AW.go ?_ (by simp only [go_sem, ↓reduceIte, bools_len, hgu, hul] <;> rfl)
    refine AW.callE (fun _ => 18) (rdN_fn (qc, xc) u 3) (.ptr rfl (.pv _ (.pv _ .nil))) ?_
    refine AW.go ?_ (by simp only [go_sem, ↓reduceIte, ej] <;> rfl)
    exact AW.again hK (j + 1, rdN u 3 (qc, xc)) ⟨by simp only; omega, hju⟩ (by simp only; omega)
  have hge : us.length ≤ j := by have := of_decide_eq_false hc; omega
  rw [rdU_le hge] at hju
  rw [← hju]
  refine AW.go ?_
  refine AW.cond rfl (fun hc => ?_) (fun hc => ?_)
  · have hx : xc ≠ 0 := by simpa using hc
    rw [if_pos hx]
    refine AW.go ?_
    refine AW.any0 mixed ?_
    refine via (T := ?Tz) (fun hT => ?_) ?_; rotate_left
    · skip
      refine AW.takes (fuel := 6) [1] ?_ (by simp only [go_sem, ↓reduceIte] <;> rfl) Ends.noPanic (listed' := #[false, true, false, false, false, false, false]) (by decide +kernel) (by decide +kernel)
      refine AW.branch (fuel := 5) (rs := [0, 2]) ?_ (by decide +kernel) (by simp)
      intro j hj
      simp only [List.mem_cons, List.not_mem_nil, or_false] at hj
      rcases hj with rfl | rfl
      · skip
        refine AW.gg ?_
        refine AW.branch (fuel := 4) (rs := [2, 5]) ?_ (by decide +kernel) (by simp)
        intro j hj
        simp only [List.mem_cons, List.not_mem_nil, or_false] at hj
        rcases hj with rfl | rfl
        · skip
          refine AW.gg ?_
          refine AW.takes (fuel := 3) [3] ?_ (by simp only [go_sem, ↓reduceIte] <;> rfl) Ends.noPanic (listed' := #[true, true, true, true, false, false, false]) (by decide +kernel) (by decide +kernel)
          refine AW.branch (fuel := 2) (rs := [4, 5]) ?_ (by decide +kernel) (by simp)
          intro j hj
          simp only [List.mem_cons, List.not_mem_nil, or_false] at hj
          rcases hj with rfl | rfl
          · skip
            refine AW.gg ?_
            refine AW.seqs (fuel := 0) (listed' := #[true, true, true, true, true, true, true]) [5, 6] ?_ (by decide +kernel)
            refine AW.gg ?_
            refine AW.anyDone (by decide +kernel) ?_
            refine AW.keepB [3, 2] [2] (s' := ⟨154, [(3, .pv (.int .i64 xc)), (2, .ptr 2 0)], [(2, .cells 26 [.pv (.int .u64 0), .nils, .nils, .nils])]⟩) (by simp only [go_sem, ↓reduceIte]) (by simp only [go_sem, ↓reduceIte] <;> rfl) ?_
            exact hT ()
          · skip
            refine AW.gg ?_
            refine AW.seqs (fuel := 0) (listed' := #[true, true, true, true, true, true, true]) [4, 6] ?_ (by decide +kernel)
            refine AW.gg ?_
            refine AW.anyDone (by decide +kernel) ?_
            refine AW.keepB [3, 2] [2] (s' := ⟨154, [(3, .pv (.int .i64 xc)), (2, .ptr 2 0)], [(2, .cells 26 [.pv (.int .u64 0), .nils, .nils, .nils])]⟩) (by simp only [go_sem, ↓reduceIte]) (by simp only [go_sem, ↓reduceIte] <;> rfl) ?_
            exact hT ()
        · skip
          refine AW.gg ?_
          refine AW.seqs (fuel := 0) (listed' := #[true, true, true, true, true, true, true]) [2, 3, 4, 6] ?_ (by decide +kernel)
          refine AW.gg ?_
          refine AW.anyDone (by decide +kernel) ?_
          refine AW.keepB [3, 2] [2] (s' := ⟨154, [(3, .pv (.int .i64 xc)), (2, .ptr 2 0)], [(2, .cells 26 [.pv (.int .u64 0), .nils, .nils, .nils])]⟩) (by simp only [go_sem, ↓reduceIte]) (by simp only [go_sem, ↓reduceIte] <;> rfl) ?_
          exact hT ()
      · skip
        refine AW.gg ?_
        refine AW.takes (fuel := 4) [3] ?_ (by simp only [go_sem, ↓reduceIte] <;> rfl) Ends.noPanic (listed' := #[false, true, true, true, false, false, false]) (by decide +kernel) (by decide +kernel)
        refine AW.branch (fuel := 3) (rs := [0, 4]) ?_ (by decide +kernel) (by simp)
        intro j hj
        simp only [List.mem_cons, List.not_mem_nil, or_false] at hj
        rcases hj with rfl | rfl
        · skip
          refine AW.gg ?_
          refine AW.branch (fuel := 2) (rs := [4, 5]) ?_ (by decide +kernel) (by simp)
          intro j hj
          simp only [List.mem_cons, List.not_mem_nil, or_false] at hj
          rcases hj with rfl | rfl
          · skip
            refine AW.gg ?_
            refine AW.seqs (fuel := 0) (listed' := #[true, true, true, true, true, true, true]) [5, 6] ?_ (by decide +kernel)
            refine AW.gg ?_
            refine AW.anyDone (by decide +kernel) ?_
            refine AW.keepB [3, 2] [2] (s' := ⟨154, [(3, .pv (.int .i64 xc)), (2, .ptr 2 0)], [(2, .cells 26 [.pv (.int .u64 0), .nils, .nils, .nils])]⟩) (by simp only [go_sem, ↓reduceIte]) (by simp only [go_sem, ↓reduceIte] <;> rfl) ?_
            exact hT ()
          · skip
            refine AW.gg ?_
            refine AW.seqs (fuel := 0) (listed' := #[true, true, true, true, true, true, true]) [4, 6] ?_ (by decide +kernel)
            refine AW.gg ?_
            refine AW.anyDone (by decide +kernel) ?_
            refine AW.keepB [3, 2] [2] (s' := ⟨154, [(3, .pv (.int .i64 xc)), (2, .ptr 2 0)], [(2, .cells 26 [.pv (.int .u64 0), .nils, .nils, .nils])]⟩) (by simp only [go_sem, ↓reduceIte]) (by simp only [go_sem, ↓reduceIte] <;> rfl) ?_
            exact hT ()
        · skip
          refine AW.gg ?_
          refine AW.seqs (fuel := 0) (listed' := #[true, true, true, true, true, true, true]) [0, 5, 6] ?_ (by decide +kernel)
          refine AW.gg ?_
          refine AW.anyDone (by decide +kernel) ?_
          refine AW.keepB [3, 2] [2] (s' := ⟨154, [(3, .pv (.int .i64 xc)), (2, .ptr 2 0)], [(2, .cells 26 [.pv (.int .u64 0), .nils, .nils, .nils])]⟩) (by simp only [go_sem, ↓reduceIte]) (by simp only [go_sem, ↓reduceIte] <;> rfl) ?_
          exact hT ()
    refine AW.nilsOwnAt (.cell 2 1) 5 ?_
    refine AW.freeze (p := .cell 2 1) (by simp only [go_sem, ↓reduceIte, freeze, freezeO] <;> rfl) ?_
    refine AW.nilsOwnAt (.cell 2 2) 40 ?_
    refine AW.freeze (p := .cell 2 2) (by simp only [go_sem, ↓reduceIte, freeze, freezeO] <;> rfl) ?_
    refine AW.nilsOwnAt (.cell 2 3) 5 ?_
    refine AW.freeze (p := .cell 2 3) (by simp only [go_sem, ↓reduceIte, freeze, freezeO] <;> rfl) ?_
    refine AW.go ?_
    refine AW.finE (.pv _ (.pv _ .nil)) rfl
  have hx : ¬ xc ≠ 0 := by simpa using hc
  rw [if_neg hx]
  refine AW.freeze (p := .cell 6 2) (by simp only [go_sem, ↓reduceIte, freeze, freezeO] <;> rfl) ?_
  refine AW.go ?_
  refine AW.finE (.pv _ (.pv _ .nil)) rfl
end Go.Ck

set_option linter.unusedVariables false
set_option maxRecDepth 100000
set_option maxHeartbeats 400000
namespace Go.Ck
open Go.Proofs
theorem clone_fn (l : List Nat) (h0 : 0 < l.length) (hl : l.length ≤ room) : Fn Tryz.prog 15 [] [.pv (.sl 1 (bytes l))] (fun rs H' => rs = [.own 5 (bytes l)] ∧ H' = []) := by
  refine Fn.of_body (fn := Tryz.f15) (n := 8) (res := [.tmp 2]) (by kernel_rfl) rfl rfl rfl rfl rfl (fun C => ?_)
  refine AW.go ?_
  refine AW.eqNil (.inl rfl) rfl rfl rfl tk_22 rfl rfl rfl rfl (fun b hb => ?_)
  cases b with
  | true =>
    have : bytes l = [] := hb rfl
    have h2 : (bytes l).length = 0 := by rw [this]; rfl
    rw [bytes_length] at h2
    omega
  | false =>
    have r1 : (l.length ≤ room) = True := eq_true hl
    refine AW.go ?_
    refine AW.condF rfl ?_
    refine AW.go ?_ (by simp only [go_sem, ↓reduceIte, List.length_nil, Nat.zero_add, List.nil_append, r1] <;> rfl)
    exact AW.finE (.move rfl .nil) rfl
theorem sign_fn (key : List Nat) (m : Man) (hv : m.v < 2 ^ 64) (hl : m.es.length < 2 ^ 29) (hkb : ∀ x ∈ key, x < 256) : Fn Tryz.prog 6 [] [.pv (.sl 1 (bytes key)), .pv (manP m)] (fun rs H' => rs = [.own 5 (bytes (signM key m).1), .pv (.int .i64 (signM key m).2)] ∧ H' = []) := by
  refine Fn.of_body (fn := Tryz.f6) (n := 31) (res := [.tmp 4, .tmp 5]) (by kernel_rfl) rfl rfl rfl rfl rfl (fun C => ?_)
  have hroom : room = 140737488355328 := rfl
  have hm : manP m = .agg [.int .u64 (m.v : Int), .sl 1 (bytes m.prev), .sl 2 (entsP m.es), .sl 1 (bytes m.root)] := rfl
  have hef := manEnc_fn m hv hl
  have hel := encM_len m hv
  have hep := encM_pos m hv
  have hkb2 := dk_lt key 4 []
  have hkl2 := dk_len key 4 []
  rw [hm] at hef ⊢
  unfold signM
  generalize encM m = E at *
  obtain ⟨en, ee⟩ := E
  simp only at hef hel hep
  refine AW.go ?_
  refine AW.callE (fun _ => 0) (keyM_fn key hkb) (.pv _ .nil) ?_
  generalize dk key 4 [] = D at *
  obtain ⟨k, ke⟩ := D
  simp only at hkb2 hkl2
  simp only
  refine AW.go ?_
  refine AW.cond rfl (fun hc => ?_) (fun hc => ?_)
  · have hk0 : ke ≠ 0 := by rintro rfl; exact absurd hc (by decide)
    rw [if_pos hk0]
    refine AW.go ?_
    refine AW.finE (.move rfl (.pv _ .nil)) rfl
  have hk0 : ke = 0 := by
    have h2 : ((ke : Int) == 0) = true := by simpa [bne] using hc
    have := eq_of_beq h2
    omega
  rw [if_neg (by simp [hk0])]
  refine AW.go ?_
  refine AW.callE (fun _ => 0) hef (.pv _ .nil) ?_
  refine AW.go ?_
  refine AW.cond rfl (fun hc => ?_) (fun hc => ?_)
  · have he0 : ee ≠ 0 := by rintro rfl; exact absurd hc (by decide)
    rw [if_pos he0]
    refine AW.go ?_
    refine AW.finE (.move rfl (.pv _ .nil)) rfl
  have he0 : ee = 0 := by
    have h2 : ((ee : Int) == 0) = true := by simpa [bne] using hc
    have := eq_of_beq h2
    omega
  rw [if_neg (by simp [he0])]
  have hpos := hep he0
  refine AW.freeze (p := .slot 8) (by simp only [go_sem, ↓reduceIte, freeze, freezeO] <;> rfl) ?_
  refine AW.go ?_
  refine AW.callE (fun _ => 0) (clone_fn en hpos (by omega)) (.pv _ .nil) ?_
  refine AW.go ?_
  refine AW.callE (fun _ => 0) (mac_fn k en hkb2 (by omega) (by omega)) (.pv _ (.pv _ .nil)) ?_
  have hml := hmac_len k en
  have r1 : (en.length + (hmac k en).length ≤ room) = True := eq_true (by omega)
  refine AW.go ?_ (by simp only [go_sem, ↓reduceIte, r1] <;> rfl)
  refine AW.finE (.move rfl (.pv _ .nil)) rfl
end Go.Ck
