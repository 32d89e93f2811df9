/- What is proved here: parts of the proofs of this seat's statements (a verified evaluator for calls over pure values, its laws, and contracts of functions). No condition. -/
import Derived.Test.YthjibccogjggbaaKr
import Derived.Test.YthjibccogjggbaaKp
import Derived.Test.YthjibccogjggbaaKk
set_option linter.all false
set_option linter.unusedVariables false
set_option maxRecDepth 100000
set_option maxHeartbeats 400000
namespace Go.Ck
open Go.Proofs
theorem mtens_fn (q0 : List Nat) (hl : q0.length ≤ 2 ^ 40) (hb : ∀ x ∈ q0, x < 256) : FnP Try.prog 38 (curO q0) [.ptr 1000 0]
    (fun rs H' => (tensD q0).2.1 = 0 ∧ rs = [.pv (.sl 1 (strs (tensD q0).1))] ∧ H' = curO (tensD q0).2.2) (fun p H' => (tensD q0).2.1 ≠ 0 ∧ p = failE (tensD q0).2.1 ∧ H' = curO (tensD q0).2.2) := by
  refine FnP.of_body (fn := Try.f38) (n := 36) (res := [.tmp 2]) (by kernel_rfl) rfl rfl rfl rfl rfl (fun C => ?_)
  have hr : room = 140737488355328 := rfl
  refine AW.go ?_
  refine AW.callPE id (counted_fn q0 (by omega) hb) (.ptr rfl .nil) (fun he ch hch => ?_) (fun he => ?_)
  · have e1 : tensD q0 = ([], (cntD q0).2) := by unfold tensD; rw [if_pos he]
    rw [e1]
    exact AW.endP hch ⟨he, rfl, rfl⟩
  have e1 : tensD q0 = tnD (cntD q0).1 [] (cntD q0).2.2 := by unfold tensD; rw [if_neg (by simpa using he)]
  rw [e1]
  have hb1 := cntD_byte hb
  have hl1 := cntD_len q0
  have hn := cntD_le q0
  generalize (cntD q0).2.2 = q1 at *
  generalize (cntD q0).1 = n at *
  clear he e1
  refine AW.go ?_
  refine AW.loopS (fun a : List (List UInt8) × List Nat => ⟨36, [(7, .pv (.int .i64 a.1.length)), (6, .pv (.int .i64 n)), (0, .ptr 1000 0), (3, .own 9 (strs a.1))], [(1000, .cells 87 [.pv (.sl 1 (bytes a.2))])]⟩) (fun a => a.1.length ≤ n ∧ tnD (n - a.1.length) a.1 a.2 = tnD n [] q1 ∧ (∀ x ∈ a.2, x < 256) ∧ a.2.length ≤ q1.length) (fun a => n - a.1.length) [7, 6, 0, 3] [1000] ([], q1) ⟨Nat.zero_le _, rfl, hb1, Nat.le_refl _⟩ ?_
  rintro ⟨acc, q⟩ ⟨hi, htn, hqb, hql⟩ K hK
  simp only at hi htn hqb hql
  refine AW.go ?_
  refine AW.cond rfl (fun hc => ?_) (fun hc => ?_)
  · have hlt : acc.length < n := by have := of_decide_eq_true hc; omega
    obtain ⟨m, hm⟩ : ∃ m, n - acc.length = m + 1 := ⟨n - acc.length - 1, by omega⟩
    have e0 : tnD (m + 1) acc q = if (blk q 64).2.1 ≠ 0 then ([], (blk q 64).2.1, (blk q 64).2.2) else if okT acc (ub (blk q 64).1) = true then tnD m (acc ++ [ub (blk q 64).1]) (blk q 64).2.2 else ([], 3, (blk q 64).2.2) := rfl
    rw [hm, e0] at htn
    obtain ⟨hbb, hrb, _, hrl⟩ := blk_byte (m := 64) hqb
    refine AW.go ?_
    refine AW.callE id (curBlock_fn q 64 (by decide) (by omega) hqb) (.ptr rfl (.pv _ .nil)) ?_
    generalize blk q 64 = B at *
    obtain ⟨b, e, r⟩ := B
    simp only at htn hbb hrb hrl
    refine AW.go ?_
    refine AW.freeze (p := .slot 11) (by simp only [go_sem, ↓reduceIte, freeze, freezeO] <;> rfl) ?_
    refine AW.callPE (fun _ => 0) (gotB_fn b e) (.pv _ (.pv _ .nil)) (fun he ch hch => ?_) (fun he => ?_)
    · rw [← htn, if_pos he]
      exact AW.endP hch ⟨he, rfl, rfl⟩
    rw [if_neg (show ¬ e ≠ 0 by simpa using he)] at htn
    refine AW.go ?_
    have r1 : ((acc.length + 1) * 16 ≤ room) = True := eq_true (by omega)
    have r2 : (acc.length + 1 ≤ room) = True := eq_true (by omega)
    have ei : IntKind.i64.wrap ((acc.length : Int) + 1) = ((acc.length + 1 : Nat) : Int) := wrap_i64_succ (by omega)
    have hsn := strs_snoc acc (ub b)
    have hlen : (acc ++ [ub b]).length = acc.length + 1 := by simp
    refine via (T := okT acc (ub b) = true → ?Tok) (fun hT => ?_) ?_; rotate_left
    · by_cases hA : acc = []
      · have d0 : decide (acc.length = 0) = true := by rw [hA]; rfl
        have d0' : (((acc.length : Nat) : Int) == 0) = true := by rw [hA]; rfl
        have d0'' : (acc.length == 0) = true := by rw [hA]; rfl
        refine AW.srTail 14 mixed (by decide +kernel) ?_ (by simp only [go_sem, ↓reduceIte, d0, d0', d0'', List.take_succ_cons, List.take_zero] <;> rfl)
        refine AW.go ?_
        refine AW.callPE (fun _ => 0) (unless_fn true 3 (by decide)) (.pv _ (.pv _ .nil)) (fun he ch hch => absurd he (by decide)) (fun he => ?_)
        refine AW.keepB [7, 6, 0, 3, 4] [1000] (s' := ⟨36, [(7, .pv (.int .i64 acc.length)), (6, .pv (.int .i64 n)), (0, .ptr 1000 0), (3, .own 9 (strs acc)), (4, .pv (.sl 1 (bytes b)))], [(1000, .cells 87 [.pv (.sl 1 (bytes r))])]⟩) (by simp only [go_sem, ↓reduceIte]) (by simp only [go_sem, ↓reduceIte] <;> rfl) ?_
        exact hT () (by rw [hA]; rfl)
      · obtain ⟨l, hl⟩ : ∃ l, acc.getLast? = some l := ⟨acc.getLast hA, List.getLast?_eq_some_getLast hA⟩
        have hpos : 0 < acc.length := List.length_pos_iff.2 hA
        have hok := okT_last (ub b) hl
        rw [List.getLast?_eq_getElem?] at hl
        have hg := strs_get hl
        have hll : (acc.length - 1 < acc.length) = True := eq_true (by omega)
        have ej : IntKind.i64.wrap ((acc.length : Int) - 1) = ((acc.length - 1 : Nat) : Int) := by rw [wrap_i64_of (by omega) (by omega)]; omega
        have d0 : decide (acc.length = 0) = false := decide_eq_false (by omega)
        have d0' : (((acc.length : Nat) : Int) == 0) = false := by rw [beq_eq_false_iff_ne]; omega
        have d0'' : (acc.length == 0) = false := by rw [beq_eq_false_iff_ne]; omega
        have hbl : Op.bytesLess l (ub b) = okT acc (ub b) := by rw [bytesLess_eq, hok]
        refine AW.srTail 14 mixed (by decide +kernel) ?_ (by simp only [go_sem, ↓reduceIte, d0, d0', d0'', ej, hg, hll, numsOf_byt, ofNums_ub, hbl, List.take_succ_cons, List.take_zero] <;> rfl)
        refine AW.go ?_
        refine AW.callPE (fun _ => 0) (unless_fn (okT acc (ub b)) 3 (by decide)) (.pv _ (.pv _ .nil)) (fun he ch hch => ?_) (fun he => ?_)
        · rw [← htn, if_neg (by rw [he]; simp)]
          exact AW.endP hch ⟨by simp, rfl, rfl⟩
        refine AW.keepB [7, 6, 0, 3, 4] [1000] (s' := ⟨36, [(7, .pv (.int .i64 acc.length)), (6, .pv (.int .i64 n)), (0, .ptr 1000 0), (3, .own 9 (strs acc)), (4, .pv (.sl 1 (bytes b)))], [(1000, .cells 87 [.pv (.sl 1 (bytes r))])]⟩) (by simp only [go_sem, ↓reduceIte]) (by simp only [go_sem, ↓reduceIte] <;> rfl) ?_
        exact hT () he
    intro hok
    rw [if_pos hok] at htn
    refine AW.go ?_ (by simp only [go_sem, ↓reduceIte, numsOf_byt, ofNums_ub, r1, r2, ei, hsn, List.length_cons, List.length_nil, Nat.zero_add] <;> rfl)
    refine AW.again hK (acc ++ [ub b], r) ⟨by rw [hlen]; omega, ?_, hrb, by simp only; omega⟩ (by simp only [hlen]; omega) (hs := by simp only [go_sem, ↓reduceIte, hlen] <;> rfl)
    rw [← htn]
    simp only [hlen]
    congr 1
    omega
  have hge : acc.length = n := by have := of_decide_eq_false hc; omega
  rw [hge, Nat.sub_self] at htn
  rw [← htn]
  refine AW.freeze (p := .slot 3) (by simp only [go_sem, ↓reduceIte, freeze, freezeO] <;> rfl) ?_
  refine AW.go ?_
  refine AW.finP (.pv _ .nil) ⟨rfl, rfl, rfl⟩
end Go.Ck

set_option linter.unusedVariables false
set_option maxRecDepth 100000
set_option maxHeartbeats 400000
namespace Go.Ck
open Go.Proofs
theorem entsP_snoc (es : List Ent) (t : List UInt8) (x : Nat) : entsP es ++ [.agg [.str t, .int .i64 (x : Int)]] = entsP (es ++ [entD t x]) := by simp [entsP, entP, entD]
theorem padSz_pos (x : Nat) : decide (0 < padSz (x : Int)) = decide (x ≤ 8) := by
  rw [Bool.eq_iff_iff]
  have := padSz_zero (x : Int)
  simp only [decide_eq_true_eq]
  omega
theorem ments_fn (ts : List (List UInt8)) (htl : ts.length < 2 ^ 40) (q0 : List Nat) (hl : q0.length ≤ 2 ^ 40) (hb : ∀ x ∈ q0, x < 256) : FnP Try.prog 39 (curO q0) [.ptr 1000 0, .pv (.sl 1 (strs ts))]
    (fun rs H' => (entsD ts q0).2.1 = 0 ∧ rs = [.pv (.sl 2 (entsP (entsD ts q0).1))] ∧ H' = curO (entsD ts q0).2.2) (fun p H' => (entsD ts q0).2.1 ≠ 0 ∧ p = failE (entsD ts q0).2.1 ∧ H' = curO (entsD ts q0).2.2) := by
  refine FnP.of_body (fn := Try.f39) (n := 46) (res := [.tmp 4]) (by kernel_rfl) rfl rfl rfl rfl rfl (fun C => ?_)
  have hr : room = 140737488355328 := rfl
  refine AW.go ?_
  refine AW.callPE id (counted_fn q0 (by omega) hb) (.ptr rfl .nil) (fun he ch hch => ?_) (fun he => ?_)
  · have e1 : entsD ts q0 = ([], (cntD q0).2) := by unfold entsD; rw [if_pos he]
    rw [e1]
    exact AW.endP hch ⟨he, rfl, rfl⟩
  have e1 : entsD ts q0 = enD ts (cntD q0).1 [] (cntD q0).2.2 := by unfold entsD; rw [if_neg (by simpa using he)]
  rw [e1]
  have hb1 := cntD_byte hb
  have hl1 := cntD_len q0
  have hn := cntD_le q0
  generalize (cntD q0).2.2 = q1 at *
  generalize (cntD q0).1 = n at *
  clear he e1
  refine AW.go ?_
  refine AW.loopS (fun a : List Ent × List Nat => ⟨46, [(10, .pv (.int .i64 a.1.length)), (9, .pv (.int .i64 n)), (0, .ptr 1000 0), (1, .pv (.sl 1 (strs ts))), (5, .own 38 (entsP a.1))], [(1000, .cells 87 [.pv (.sl 1 (bytes a.2))])]⟩) (fun a => a.1.length ≤ n ∧ enD ts (n - a.1.length) a.1 a.2 = enD ts n [] q1 ∧ (∀ x ∈ a.2, x < 256) ∧ a.2.length ≤ q1.length) (fun a => n - a.1.length) [10, 9, 0, 1, 5] [1000] ([], q1) ⟨Nat.zero_le _, rfl, hb1, Nat.le_refl _⟩ ?_
  rintro ⟨acc, q⟩ ⟨hi, htn, hqb, hql⟩ K hK
  simp only at hi htn hqb hql
  refine AW.go ?_
  refine AW.cond rfl (fun hc => ?_) (fun hc => ?_)
  · have hlt : acc.length < n := by have := of_decide_eq_true hc; omega
    obtain ⟨m, hm⟩ : ∃ m, n - acc.length = m + 1 := ⟨n - acc.length - 1, by omega⟩
    rw [hm, enD] at htn
    have hb2 : ∀ x ∈ q.drop (readV q).2.1, x < 256 := fun x hx => hqb x (List.mem_of_mem_drop hx)
    have hl2 : (q.drop (readV q).2.1).length ≤ q.length := by rw [List.length_drop]; omega
    have hv := readV_lt hqb
    refine AW.go ?_
    refine AW.callE id (curVarint_fn q (by omega) hqb) (.ptr rfl .nil) ?_
    generalize q.drop (readV q).2.1 = q2 at *
    generalize readV q = B at *
    obtain ⟨v, k0, e⟩ := B
    simp only at htn hv
    refine AW.go ?_
    refine AW.callPE (fun _ => 0) (got64_fn v e) (.pv _ (.pv _ .nil)) (fun he ch hch => ?_) (fun he => ?_)
    · rw [← htn, if_pos he]
      exact AW.endP hch ⟨he, rfl, rfl⟩
    rw [if_neg (show ¬ e ≠ 0 by simpa using he)] at htn
    have et : IntKind.u64.wrap (ts.length : Int) = (ts.length : Int) := wrap_u64_lt (by omega)
    have d1 : decide ((v : Int) < (ts.length : Int)) = decide (v < ts.length) := by rw [Bool.eq_iff_iff]; simp
    refine AW.go ?_ (by simp only [go_sem, ↓reduceIte, et, d1] <;> rfl)
    refine AW.callPE (fun _ => 0) (unless_fn (decide (v < ts.length)) 3 (by decide)) (.pv _ (.pv _ .nil)) (fun he ch hch => ?_) (fun he => ?_)
    · have := of_decide_eq_false he
      rw [← htn, if_pos (by omega)]
      exact AW.endP hch ⟨by simp, rfl, rfl⟩
    have hvt := of_decide_eq_true he
    rw [if_neg (by omega)] at htn
    refine AW.go ?_
    refine AW.callPE id (taken_fn q2 1 (by omega)) (.ptr rfl (.pv _ .nil)) (fun he ch hch => ?_) (fun he => ?_)
    · rw [← htn, if_pos he]
      exact AW.endP hch ⟨by simp, rfl, rfl⟩
    obtain ⟨x, q3, rfl⟩ : ∃ x r, q2 = x :: r := by
      cases q2 with
      | nil => simp at he
      | cons x r => exact ⟨x, r, rfl⟩
    have t1 : (x :: q3).take 1 = [x] := rfl
    have t2 : (x :: q3).drop 1 = q3 := rfl
    have t3 : (x :: q3).headD 0 = x := rfl
    rw [if_neg (by omega)] at htn
    rw [t1, t2]
    rw [t2, t3] at htn
    have hx := hb2 x (by simp)
    have hb3 : ∀ y ∈ q3, y < 256 := fun y hy => hb2 y (by simp [hy])
    have hl3 : q3.length ≤ q1.length := by simp at hl2; omega
    have g0 : (bytes [x])[0]? = some (.int .u8 (x : Int)) := rfl
    have ex : IntKind.i64.wrap (x : Int) = (x : Int) := wrap_i64_nat (by omega)
    refine AW.go ?_ (by simp only [go_sem, ↓reduceIte, g0, ex] <;> rfl)
    refine AW.callE (fun _ => 0) (size_fn (x : Int)) (.pv _ .nil) ?_
    have dp := padSz_pos x
    have dp' : decide ((padSz (x : Int) : Int) > 0) = decide (x ≤ 8) := by rw [← dp, Bool.eq_iff_iff]; simp
    refine AW.go ?_ (by simp only [go_sem, ↓reduceIte, dp, dp'] <;> rfl)
    refine AW.callPE (fun _ => 0) (unless_fn (decide (x ≤ 8)) 3 (by decide)) (.pv _ (.pv _ .nil)) (fun he ch hch => ?_) (fun he => ?_)
    · have := of_decide_eq_false he
      rw [← htn, if_pos (by omega)]
      exact AW.endP hch ⟨by simp, rfl, rfl⟩
    have hx8 := of_decide_eq_true he
    rw [if_neg (by omega)] at htn
    have hgt : ts[v]? = some (ts.getD v []) := by rw [List.getD_eq_getElem?_getD, List.getElem?_eq_getElem hvt]; rfl
    have hg := strs_get hgt
    generalize ts.getD v [] = t at *
    have r1 : ((acc.length + 1) * 24 ≤ room) = True := eq_true (by omega)
    have r2 : (acc.length + 1 ≤ room) = True := eq_true (by omega)
    have ei : IntKind.i64.wrap ((acc.length : Int) + 1) = ((acc.length + 1 : Nat) : Int) := wrap_i64_succ (by omega)
    have hsn := entsP_snoc acc t x
    have hlen : (acc ++ [entD t x]).length = acc.length + 1 := by simp
    refine AW.go ?_
    refine AW.calmS ?_
    refine CK.reads [[], [], [], [33, 34], [35], [], [37], [38], [39]] ?_ (by simp only [go_sem, ↓reduceIte, hg, g0, ex] <;> rfl)
    refine CK.build [36, 40] ?_ (hf := by simp only [go_sem, ↓reduceIte, hg, g0, ex] <;> rfl)
    refine CK.list [41] ?_
    refine CK.done (M := 11) 2 mixed ?_
    refine AW.seqs (fuel := 0) (listed' := Array.replicate 13 true) [11, 12] ?_ (by decide +kernel)
    -- 11: t43 := call append(t32, t42)
    -- 12: t5 := = t43
    refine AW.gg ?_ (by simp only [go_sem, ↓reduceIte, r1, r2, hsn, List.length_cons, List.length_nil, Nat.zero_add] <;> rfl)
    refine AW.anyDone (by decide +kernel) ?_
    refine AW.go ?_ (by simp only [go_sem, ↓reduceIte, ei] <;> rfl)
    refine AW.again hK (acc ++ [entD t x], q3) ⟨by rw [hlen]; omega, ?_, hb3, hl3⟩ (by simp only [hlen]; omega) (hs := by simp only [go_sem, ↓reduceIte, hlen] <;> rfl)
    rw [← htn]
    simp only [hlen]
    congr 1
    omega
  have hge : acc.length = n := by have := of_decide_eq_false hc; omega
  rw [hge, Nat.sub_self] at htn
  rw [← htn]
  refine AW.freeze (p := .slot 5) (by simp only [go_sem, ↓reduceIte, freeze, freezeO] <;> rfl) ?_
  refine AW.go ?_
  refine AW.finP (.pv _ .nil) ⟨rfl, rfl, rfl⟩
end Go.Ck

set_option linter.unusedVariables false
set_option maxRecDepth 100000
set_option maxHeartbeats 400000
namespace Go.Ck
open Go.Proofs
def mO (a b c d : PV) (e : Int) : List (Nat × HO) := [(1002, .cells 26 [.pv a, .pv b, .pv c, .pv d]), (1003, .cells 29 [.pv (.int .i64 e)])]
attribute [go_sem] mO
theorem mdecRet_fn (a b c d : PV) (e : Int) : FnD Try.prog 32 (mO a b c d e) (ptrS [1002, 1003]) .returning .returning (fun H' => H' = mO a b c d e) := by
  refine FnD.of_rec (fn := Try.f32) (n := 14) (d := 5) (p := .nili) (by kernel_rfl) rfl rfl rfl rfl rfl rfl rfl rfl rfl (.inl ⟨rfl, rfl, rfl⟩) (fun C => ?_)
  refine AW.go ?_
  refine AW.eqNilI tk_20 ?_
  refine AW.condT (by simp only [go_sem, ↓reduceIte]) ?_
  refine AW.go ?_
  refine AW.finE .nil rfl
theorem mdecRec_fn (a b c d : PV) (e0 e : Int) {ch : List PanicEntry} (hch : Pan ch (failE e)) : FnD Try.prog 32 (mO a b c d e0) (ptrS [1002, 1003]) (.panicking ch) (recd ch) (fun H' => H' = mO (.int .u64 0) (.sl 1 []) (.sl 2 []) (.sl 1 []) e) := by
  refine FnD.of_rec (fn := Try.f32) (n := 14) (d := 5) (p := failE e) (by kernel_rfl) rfl rfl rfl rfl rfl rfl rfl rfl rfl (.inr ⟨ch, rfl, hch, rfl⟩) (fun C => ?_)
  refine AW.go ?_
  refine AW.eqNilI tk_20 ?_
  refine AW.condF (by simp only [go_sem, ↓reduceIte]) ?_
  refine AW.go ?_
  refine AW.assertT tk_56 ?_
  refine AW.go ?_
  refine AW.condT rfl ?_
  refine AW.go ?_
  refine AW.any0 mixed ?_
  refine AW.takes (fuel := 4) [1] ?_ (by simp only [go_sem, ↓reduceIte] <;> rfl) Ends.noPanic (listed' := #[false, true, false, false, false]) (by decide +kernel) (by decide +kernel)
  refine via (T := ?Tend) (fun hT => ?_) ?_; rotate_left
  · refine AW.branch (fuel := 3) (rs := [0, 2]) ?_ (by decide +kernel) (by simp)
    intro j hj
    simp only [List.mem_cons, List.not_mem_nil, or_false] at hj
    rcases hj with rfl | rfl
    · skip
      refine AW.gg ?_
      refine AW.branch (fuel := 2) (rs := [2, 3]) ?_ (by decide +kernel) (by simp)
      intro j hj
      simp only [List.mem_cons, List.not_mem_nil, or_false] at hj
      rcases hj with rfl | rfl
      · skip
        refine AW.gg ?_
        refine AW.seqs (fuel := 0) (listed' := #[true, true, true, true, true]) [3, 4] ?_ (by decide +kernel)
        refine AW.gg ?_
        refine AW.anyDone (by decide +kernel) ?_
        refine AW.keepB [] [1002, 1003] (s' := ⟨14, [], [(1002, .cells 26 [.pv (.int .u64 0), .nils, .nils, .nils]), (1003, .cells 29 [.pv (.int .i64 e)])]⟩) (by simp only [go_sem, ↓reduceIte]) (by simp only [go_sem, ↓reduceIte] <;> rfl) ?_
        exact hT ()
      · skip
        refine AW.gg ?_
        refine AW.seqs (fuel := 0) (listed' := #[true, true, true, true, true]) [2, 4] ?_ (by decide +kernel)
        refine AW.gg ?_
        refine AW.anyDone (by decide +kernel) ?_
        refine AW.keepB [] [1002, 1003] (s' := ⟨14, [], [(1002, .cells 26 [.pv (.int .u64 0), .nils, .nils, .nils]), (1003, .cells 29 [.pv (.int .i64 e)])]⟩) (by simp only [go_sem, ↓reduceIte]) (by simp only [go_sem, ↓reduceIte] <;> rfl) ?_
        exact hT ()
    · skip
      refine AW.gg ?_
      refine AW.seqs (fuel := 0) (listed' := #[true, true, true, true, true]) [0, 3, 4] ?_ (by decide +kernel)
      refine AW.gg ?_
      refine AW.anyDone (by decide +kernel) ?_
      refine AW.keepB [] [1002, 1003] (s' := ⟨14, [], [(1002, .cells 26 [.pv (.int .u64 0), .nils, .nils, .nils]), (1003, .cells 29 [.pv (.int .i64 e)])]⟩) (by simp only [go_sem, ↓reduceIte]) (by simp only [go_sem, ↓reduceIte] <;> rfl) ?_
      exact hT ()
  refine AW.go ?_
  refine AW.nilsOwnAt (.cell 1002 1) 5 ?_
  refine AW.freeze (p := .cell 1002 1) (by simp only [go_sem, ↓reduceIte, freeze, freezeO] <;> rfl) ?_
  refine AW.nilsOwnAt (.cell 1002 2) 38 ?_
  refine AW.freeze (p := .cell 1002 2) (by simp only [go_sem, ↓reduceIte, freeze, freezeO] <;> rfl) ?_
  refine AW.nilsOwnAt (.cell 1002 3) 5 ?_
  refine AW.freeze (p := .cell 1002 3) (by simp only [go_sem, ↓reduceIte, freeze, freezeO] <;> rfl) ?_
  refine AW.finE .nil rfl
theorem ub_eq {l : List Nat} (hb : ∀ x ∈ l, x < 256) : (ub l == [67, 83, 75, 49]) = decide (l = [67, 83, 75, 49]) := by
  rw [Bool.eq_iff_iff]
  simp only [beq_iff_eq, decide_eq_true_eq]
  constructor
  · intro h
    rw [← nb_ub hb, h]; rfl
  · rintro rfl; rfl
theorem manDec_fn (b : List Nat) (hl : b.length ≤ 2 ^ 40) (hb : ∀ x ∈ b, x < 256) : Fn Try.prog 14 [] [.pv (.sl 1 (bytes b))]
    (fun rs H' => rs = [.pv (manP (decM b).1), .pv (.int .i64 (decM b).2)] ∧ H' = []) := by
  refine Fn.of_bodyD 32 [1002, 1003] (fn := Try.f14) (n := 55) (res := [.cell 2 26, .cell 3 29]) (by kernel_rfl) rfl rfl rfl rfl rfl (fun C => ?_)
  have hr : room = 140737488355328 := rfl
  have hbad : ∀ e, decM b = noM e → [SV.pv (.agg [.int .u64 0, .sl 1 [], .sl 2 [], .sl 1 []]), .pv (.int .i64 e)] = [SV.pv (manP (decM b).1), .pv (.int .i64 (decM b).2)] := fun e h => by rw [h]; rfl
  refine AW.seq ?_
  refine AW.region ?_
  refine AW.allocAt 1002 ?_
  refine AW.allocAt 1003 ?_
  refine AW.nilsOwnAt (.cell 1002 1) 5 ?_
  refine AW.freeze (p := .cell 1002 1) (by simp only [go_sem, ↓reduceIte, freeze, freezeO] <;> rfl) ?_
  refine AW.nilsOwnAt (.cell 1002 2) 38 ?_
  refine AW.freeze (p := .cell 1002 2) (by simp only [go_sem, ↓reduceIte, freeze, freezeO] <;> rfl) ?_
  refine AW.nilsOwnAt (.cell 1002 3) 5 ?_
  refine AW.freeze (p := .cell 1002 3) (by simp only [go_sem, ↓reduceIte, freeze, freezeO] <;> rfl) ?_
  refine AW.go ?_
  refine AW.defer [1002, 1003] ?_
  refine AW.go ?_
  refine AW.callE (fun _ => 4) (curNew_fn b (by omega)) (.pv _ .nil) ?_
  refine AW.go ?_
  refine AW.callPE (fun _ => 4) (taken_fn b 4 (by omega)) (.ptr rfl (.pv _ .nil)) (fun he ch hch => ?_) (fun he => ?_)
  · exact AW.finDP hch (mdecRec_fn _ _ _ _ _ _ hch) (.pv _ (.pv _ .nil)) ⟨hbad 2 (by unfold decM; rw [if_pos he]), rfl⟩
  have e1 : decM b = if b.take 4 ≠ [67, 83, 75, 49] then noM 3 else decM1 (b.drop 4) := by unfold decM; rw [if_neg (by omega)]
  rw [e1] at hbad ⊢
  have hu := ub_eq (l := b.take 4) (fun x hx => hb x (List.mem_of_mem_take hx))
  have hb1 : ∀ x ∈ b.drop 4, x < 256 := fun x hx => hb x (List.mem_of_mem_drop hx)
  have hl1 : (b.drop 4).length ≤ 2 ^ 40 := by rw [List.length_drop]; omega
  clear e1 he hb hl
  generalize b.take 4 = m4 at *
  generalize b.drop 4 = q1 at *
  refine AW.go ?_ (by simp only [go_sem, ↓reduceIte, numsOf_byt, ofNums_ub, hu] <;> rfl)
  refine AW.callPE (fun _ => 0) (unless_fn (decide (m4 = [67, 83, 75, 49])) 3 (by decide)) (.pv _ (.pv _ .nil)) (fun he ch hch => ?_) (fun he => ?_)
  · exact AW.finDP hch (mdecRec_fn _ _ _ _ _ _ hch) (.pv _ (.pv _ .nil)) ⟨hbad 3 (by rw [if_pos (of_decide_eq_false he)]), rfl⟩
  have e2 : (if m4 ≠ [67, 83, 75, 49] then noM 3 else decM1 q1) = decM1 q1 := if_neg (by simpa using of_decide_eq_true he)
  rw [e2] at hbad ⊢
  clear e2 he hu
  refine AW.go ?_
  refine AW.callE (fun _ => 4) (curFixed_fn q1 8 (by omega) (by omega) hb1) (.ptr rfl (.pv _ .nil)) ?_
  have hv := beN_lt (q1.take 8) (fun x hx => hb1 x (List.mem_of_mem_take hx))
  have hvp : 256 ^ (q1.take 8).length ≤ 256 ^ 8 := Nat.pow_le_pow_right (by omega) (by rw [List.length_take]; omega)
  have hb2 : ∀ x ∈ q1.drop 8, x < 256 := fun x hx => hb1 x (List.mem_of_mem_drop hx)
  have hl2 : (q1.drop 8).length ≤ 2 ^ 40 := by rw [List.length_drop]; omega
  by_cases h8 : q1.length < 8
  · have h8' : ¬ 8 ≤ q1.length := by omega
    simp only [if_neg h8']
    refine AW.go ?_
    refine AW.callPE (fun _ => 0) (got64_fn 0 2) (.pv _ (.pv _ .nil)) (fun he ch hch => ?_) (fun he => absurd he (by decide))
    exact AW.finDP hch (mdecRec_fn _ _ _ _ _ _ hch) (.pv _ (.pv _ .nil)) ⟨hbad 2 (by unfold decM1; rw [if_pos h8]), rfl⟩
  have h8' : 8 ≤ q1.length := by omega
  simp only [if_pos h8']
  have e3 : decM1 q1 = if beN (q1.take 8) = 18446744073709551615 then noM 3 else decM2 (beN (q1.take 8)) (q1.drop 8) := by unfold decM1; rw [if_neg h8]
  rw [e3] at hbad ⊢
  clear e3 h8 h8'
  generalize beN (q1.take 8) = v at *
  generalize q1.drop 8 = q2 at *
  clear hvp
  refine AW.go ?_
  refine AW.callPE (fun _ => 0) (got64_fn v 0) (.pv _ (.pv _ .nil)) (fun he ch hch => absurd rfl he) (fun he => ?_)
  clear he
  have dv : ((v : Int) != 18446744073709551615) = !decide (v = 18446744073709551615) := by rw [Bool.eq_iff_iff]; simp; omega
  refine AW.go ?_ (by simp only [go_sem, ↓reduceIte, dv] <;> rfl)
  refine AW.callPE (fun _ => 0) (unless_fn (!decide (v = 18446744073709551615)) 3 (by decide)) (.pv _ (.pv _ .nil)) (fun he ch hch => ?_) (fun he => ?_)
  · have hv1 : v = 18446744073709551615 := by simpa using he
    exact AW.finDP hch (mdecRec_fn _ _ _ _ _ _ hch) (.pv _ (.pv _ .nil)) ⟨hbad 3 (by rw [if_pos hv1]), rfl⟩
  have hv1 : v ≠ 18446744073709551615 := by simpa using he
  rw [if_neg hv1] at hbad ⊢
  clear he
  refine AW.go ?_
  refine AW.callPE (fun _ => 4) (taken_fn q2 32 (by omega)) (.ptr rfl (.pv _ .nil)) (fun he ch hch => ?_) (fun he => ?_)
  · exact AW.finDP hch (mdecRec_fn _ _ _ _ _ _ hch) (.pv _ (.pv _ .nil)) ⟨hbad 2 (by unfold decM2; rw [if_pos he]), rfl⟩
  have e4 : decM2 v q2 = decM3 v (q2.take 32) (q2.drop 32) := by unfold decM2; rw [if_neg (by omega)]
  rw [e4] at hbad ⊢
  have hb3 : ∀ x ∈ q2.drop 32, x < 256 := fun x hx => hb2 x (List.mem_of_mem_drop hx)
  have hl3 : (q2.drop 32).length ≤ 2 ^ 40 := by rw [List.length_drop]; omega
  clear e4 he
  generalize q2.take 32 = prev at *
  generalize q2.drop 32 = q3 at *
  refine AW.go ?_
  refine AW.callPE (fun _ => 4) (mtens_fn q3 (by omega) hb3) (.ptr rfl .nil) (fun he ch hch => ?_) (fun he => ?_)
  · exact AW.finDP hch (mdecRec_fn _ _ _ _ _ _ hch) (.pv _ (.pv _ .nil)) ⟨hbad _ (by unfold decM3; rw [if_pos he]), rfl⟩
  have e5 : decM3 v prev q3 = decM4 v prev (tensD q3).1 (tensD q3).2.2 := by unfold decM3; rw [if_neg (by simpa using he)]
  rw [e5] at hbad ⊢
  have hb4 := tensD_byte hb3
  have hl4 := tensD_len hb3
  have htl := tensD_n q3
  clear e5 he
  generalize (tensD q3).1 = ts at *
  generalize (tensD q3).2.2 = q4 at *
  refine AW.go ?_
  refine AW.callPE (fun _ => 4) (ments_fn ts (by omega) q4 (by omega) hb4) (.ptr rfl (.pv _ .nil)) (fun he ch hch => ?_) (fun he => ?_)
  · exact AW.finDP hch (mdecRec_fn _ _ _ _ _ _ hch) (.pv _ (.pv _ .nil)) ⟨hbad _ (by unfold decM4; rw [if_pos he]), rfl⟩
  have e6 : decM4 v prev ts q4 = decM5 v prev ts (entsD ts q4).1 (entsD ts q4).2.2 := by unfold decM4; rw [if_neg (by simpa using he)]
  rw [e6] at hbad ⊢
  have hb5 := entsD_byte ts hb4
  have hl5 := entsD_len ts q4
  have hel := entsD_n ts q4
  clear e6 he
  generalize (entsD ts q4).1 = es at *
  generalize (entsD ts q4).2.2 = q5 at *
  refine AW.go ?_
  refine AW.callPE (fun _ => 4) (taken_fn q5 32 (by omega)) (.ptr rfl (.pv _ .nil)) (fun he ch hch => ?_) (fun he => ?_)
  · exact AW.finDP hch (mdecRec_fn _ _ _ _ _ _ hch) (.pv _ (.pv _ .nil)) ⟨hbad 2 (by unfold decM5; rw [if_pos he]), rfl⟩
  have e7 : decM5 v prev ts es q5 = if q5.drop 32 ≠ [] then noM 3 else if (dirS es).length ≠ ts.length then noM 3 else (⟨v, prev, es, q5.take 32⟩, 0) := by unfold decM5; rw [if_neg (by omega)]
  rw [e7] at hbad ⊢
  clear e7 he
  generalize q5.take 32 = root at *
  generalize q5.drop 32 = q6 at *
  refine AW.go ?_
  refine AW.callE (fun _ => 4) (curEnd_fn q6) (.ptr rfl .nil) ?_
  refine AW.go ?_
  refine AW.callPE (fun _ => 0) (must_fn _) (.pv _ .nil) (fun he ch hch => ?_) (fun he => ?_)
  · have h6 : q6 ≠ [] := fun h => he (if_pos h)
    rw [if_neg h6] at hch
    exact AW.finDP hch (mdecRec_fn _ _ _ _ _ _ hch) (.pv _ (.pv _ .nil)) ⟨hbad _ (by rw [if_pos h6]), rfl⟩
  have h6 : q6 = [] := Classical.byContradiction fun h => by rw [if_neg h] at he; exact absurd he (by decide)
  rw [if_neg (by simpa using h6)] at hbad ⊢
  clear he
  have hdf := directory_fn es (by omega)
  have hdl := dirS_len es
  have hnl := nmS_len es
  generalize dirS es = ns at *
  refine AW.go ?_
  refine AW.callE (fun _ => 6) hdf (.pv _ .nil) ?_
  refine AW.go ?_
  refine AW.extractM rfl ⟨_, rfl⟩ ?_
  have dn : ((ns.length : Int) == (ts.length : Int)) = decide (ns.length = ts.length) := by rw [Bool.eq_iff_iff]; simp; omega
  refine AW.go ?_ (by simp only [go_sem, ↓reduceIte, dn] <;> rfl)
  refine AW.callPE (fun _ => 0) (unless_fn (decide (ns.length = ts.length)) 3 (by decide)) (.pv _ (.pv _ .nil)) (fun he ch hch => ?_) (fun he => ?_)
  · exact AW.finDP hch (mdecRec_fn _ _ _ _ _ _ hch) (.pv _ (.pv _ .nil)) ⟨hbad 3 (by rw [if_pos (of_decide_eq_false he)]), rfl⟩
  rw [if_neg (by simpa using of_decide_eq_true he)]
  refine AW.go ?_
  exact AW.finD (mdecRet_fn _ _ _ _ _) (.pv _ (.pv _ .nil)) ⟨rfl, rfl⟩
end Go.Ck

set_option linter.unusedVariables false
namespace Go.Ck
def sameM (a b : Man) : Bool := decide (a.v = b.v ∧ a.prev = b.prev ∧ a.root = b.root ∧ a.es = b.es)
theorem sameM_eq (a b : Man) : sameM a b = true ↔ a = b := by
  obtain ⟨v, p, es, r⟩ := a
  obtain ⟨v2, p2, es2, r2⟩ := b
  simp only [sameM, decide_eq_true_eq, Man.mk.injEq]
  constructor
  · rintro ⟨h1, h2, h3, h4⟩; exact ⟨h1, h2, h4, h3⟩
  · rintro ⟨h1, h2, h4, h3⟩; exact ⟨h1, h2, h3, h4⟩
theorem sameM_self (a : Man) : sameM a a = true := (sameM_eq a a).2 rfl
end Go.Ck

set_option linter.unusedVariables false
set_option maxRecDepth 100000
set_option maxHeartbeats 400000
namespace Go.Ck
open Go.Proofs
theorem refMSame_fn (m m2 : Man) (hl : m.es.length < 2 ^ 40) (hp : m.prev.length ≤ 2 ^ 40) (hr : m.root.length ≤ 2 ^ 40) : Fn Try.prog 46 [] [.pv (manP m), .pv (manP m2)] (fun rs H' => rs = [.pv (.bool (sameM m m2))] ∧ H' = []) := by
  refine Fn.of_body (fn := Try.f46) (n := 71) (res := [.tmp 4]) (by kernel_rfl) rfl rfl rfl rfl rfl (fun C => ?_)
  have hroom : room = 140737488355328 := rfl
  obtain ⟨v, p, es, r⟩ := m
  obtain ⟨v2, p2, es2, r2⟩ := m2
  have hm : ∀ v p es r, manP ⟨v, p, es, r⟩ = .agg [.int .u64 (v : Int), .sl 1 (bytes p), .sl 2 (entsP es), .sl 1 (bytes r)] := fun _ _ _ _ => rfl
  rw [hm, hm]
  simp only at hl hp hr
  unfold sameM
  simp only
  have dv : ((v : Int) != (v2 : Int)) = !decide (v = v2) := by rw [Bool.eq_iff_iff]; simp; omega
  have dl : ((es.length : Int) != (es2.length : Int)) = !decide (es.length = es2.length) := by rw [Bool.eq_iff_iff]; simp; omega
  have dl' : (es.length != es2.length) = !decide (es.length = es2.length) := by rw [Bool.eq_iff_iff]; simp
  by_cases hv : v = v2
  · rw [decide_eq_true hv] at dv
    refine AW.gg ?_ (by simp only [go_sem, ↓reduceIte, dv, Bool.not_true] <;> rfl)
    refine AW.guardT rfl rfl ?_
    refine AW.callE (fun _ => 0) (ref01Same_fn p p2 (by omega)) (.pv _ (.pv _ .nil)) ?_
    by_cases hpp : p = p2
    · rw [decide_eq_true hpp]
      refine AW.gg ?_
      refine AW.guardT rfl rfl ?_
      refine AW.callE (fun _ => 0) (ref01Same_fn r r2 (by omega)) (.pv _ (.pv _ .nil)) ?_
      by_cases hrr : r = r2
      · rw [decide_eq_true hrr]
        by_cases hll : es.length = es2.length
        · rw [decide_eq_true hll] at dl dl'
          refine AW.gg ?_ (by simp only [go_sem, ↓reduceIte, dl, dl', Bool.not_true] <;> rfl)
          refine AW.condF rfl ?_
          refine AW.go ?_
          refine AW.loopS (fun i : Nat => ⟨71, [(5, .pv (.int .i64 i)), (2, .ptr 2 0), (3, .ptr 3 0)], [(2, .cells 26 [.pv (.int .u64 (v : Int)), .pv (.sl 1 (bytes p)), .pv (.sl 2 (entsP es)), .pv (.sl 1 (bytes r))]), (3, .cells 26 [.pv (.int .u64 (v2 : Int)), .pv (.sl 1 (bytes p2)), .pv (.sl 2 (entsP es2)), .pv (.sl 1 (bytes r2))])]⟩) (fun i => i ≤ es.length ∧ es.take i = es2.take i) (fun i => es.length - i) [5, 2, 3] [2, 3] 0 ⟨Nat.zero_le _, rfl⟩ ?_
          rintro i ⟨hi, ht⟩ K hK
          refine AW.go ?_
          refine AW.cond rfl (fun hc => ?_) (fun hc => ?_)
          · have hlt : i < es.length := by have := of_decide_eq_true hc; omega
            obtain ⟨e, he⟩ : ∃ e, es[i]? = some e := ⟨es[i], List.getElem?_eq_getElem hlt⟩
            obtain ⟨e2, he2⟩ : ∃ e, es2[i]? = some e := ⟨es2[i], List.getElem?_eq_getElem (by omega)⟩
            have hg := entsP_get he
            have hg2 := entsP_get he2
            have e1 : IntKind.i64.wrap ((i : Int) + 1) = ((i + 1 : Nat) : Int) := wrap_i64_succ (by omega)
            have hne : e ≠ e2 → ¬ (v = v2 ∧ p = p2 ∧ r = r2 ∧ es = es2) := by
              rintro h ⟨_, _, _, h4⟩
              rw [h4, he2] at he
              exact h (by cases he; rfl)
            refine AW.go ?_
            by_cases ht1 : e.1 = e2.1
            · have d1 : (e.1 == e2.1) = true := by simpa using ht1
              have d1' : (e.1 != e2.1) = false := by simpa using ht1
              by_cases ht2 : e.2 = e2.2
              · have d2 : (e.2 != e2.2) = false := by simpa using ht2
                refine AW.sr mixed (by decide +kernel) ?_ (by simp only [go_sem, ↓reduceIte, hg, hg2, d1, d1', d2] <;> rfl)
                refine AW.go ?_
                refine AW.condF rfl ?_
                refine AW.go ?_ (by simp only [go_sem, ↓reduceIte, e1] <;> rfl)
                have hee : e = e2 := Prod.ext ht1 ht2
                exact AW.again hK (i + 1) (by exact ⟨hlt, by rw [List.take_add_one, List.take_add_one, he, he2, ht, hee]⟩) (by omega)
              · have d2 : (e.2 != e2.2) = true := by simpa using ht2
                rw [decide_eq_false (hne (fun h => ht2 (by rw [h])))]
                refine AW.sr mixed (by decide +kernel) ?_ (by simp only [go_sem, ↓reduceIte, hg, hg2, d1, d1', d2] <;> rfl)
                refine AW.go ?_
                refine AW.condT rfl ?_
                refine AW.go ?_
                exact AW.finE (.pv _ .nil) rfl
            · have d1 : (e.1 == e2.1) = false := by simpa using ht1
              have d1' : (e.1 != e2.1) = true := by simpa using ht1
              rw [decide_eq_false (hne (fun h => ht1 (by rw [h])))]
              refine AW.sr mixed (by decide +kernel) ?_ (by simp only [go_sem, ↓reduceIte, hg, hg2, d1, d1'] <;> rfl)
              refine AW.go ?_
              refine AW.condT rfl ?_
              refine AW.go ?_
              exact AW.finE (.pv _ .nil) rfl
          have hge : ¬ i < es.length := by have := of_decide_eq_false hc; omega
          rw [List.take_of_length_le (by omega), List.take_of_length_le (by omega)] at ht
          rw [decide_eq_true ⟨hv, hpp, hrr, ht⟩]
          refine AW.go ?_
          exact AW.finE (.pv _ .nil) rfl
        · rw [decide_eq_false hll] at dl dl'
          rw [decide_eq_false (fun h => hll (by rw [h.2.2.2]))]
          refine AW.gg ?_ (by simp only [go_sem, ↓reduceIte, dl, dl', Bool.not_false] <;> rfl)
          refine AW.condT rfl ?_
          refine AW.go ?_
          exact AW.finE (.pv _ .nil) rfl
      · rw [decide_eq_false hrr, decide_eq_false (fun h => hrr h.2.2.1)]
        refine AW.gg ?_
        refine AW.condT rfl ?_
        refine AW.go ?_
        exact AW.finE (.pv _ .nil) rfl
    · rw [decide_eq_false hpp, decide_eq_false (fun h => hpp h.2.1)]
      refine AW.gg ?_
      refine AW.condT rfl ?_
      refine AW.go ?_
      exact AW.finE (.pv _ .nil) rfl
  · rw [decide_eq_false hv] at dv
    rw [decide_eq_false (fun h => hv h.1)]
    refine AW.gg ?_ (by simp only [go_sem, ↓reduceIte, dv, Bool.not_false] <;> rfl)
    refine AW.condT rfl ?_
    refine AW.go ?_
    exact AW.finE (.pv _ .nil) rfl
theorem lawMSame_fn (m m2 : Man) (hl : m.es.length < 2 ^ 40) (hp : m.prev.length ≤ 2 ^ 40) (hr : m.root.length ≤ 2 ^ 40) : Fn Try.prog 16 [] [.pv (manP m), .pv (manP m2)] (fun rs H' => rs = [.pv (.bool (sameM m m2))] ∧ H' = []) := by
  refine Fn.of_body (fn := Try.f16) (n := 8) (res := [.tmp 4]) (by kernel_rfl) rfl rfl rfl rfl rfl (fun C => ?_)
  have hs := refMSame_fn m m2 hl hp hr
  obtain ⟨v, p, es, r⟩ := m
  obtain ⟨v2, p2, es2, r2⟩ := m2
  have hm : ∀ v p es r, manP ⟨v, p, es, r⟩ = .agg [.int .u64 (v : Int), .sl 1 (bytes p), .sl 2 (entsP es), .sl 1 (bytes r)] := fun _ _ _ _ => rfl
  rw [hm, hm] at hs ⊢
  refine AW.go ?_
  refine AW.callE (fun _ => 0) hs (.pv _ (.pv _ .nil)) ?_
  refine AW.go ?_
  exact AW.finE (.pv _ .nil) rfl
end Go.Ck

set_option linter.unusedVariables false
namespace Go.Ck
def signM (key : List Nat) (m : Man) : List Nat × Int :=
  if (dk key 4 []).2 ≠ 0 then ([], ((dk key 4 []).2 : Int)) else if (encM m).2 ≠ 0 then ([], ((encM m).2 : Int)) else ((encM m).1 ++ hmac (dk key 4 []).1 (encM m).1, 0)
theorem bodyM_len (m : Man) (h : wrongM m = 0) (hv : m.v < 2 ^ 64) : (bodyM m).length ≤ 2 ^ 28 ∧ 0 < (bodyM m).length := by
  obtain ⟨w1, w2, w3, w4, w5, w6⟩ := wrongM_zero h
  have hnl : (dirS m.es).length ≤ m.es.length := by rw [dirS_len]; exact nmS_len _
  have hn64 : ∀ s ∈ dirS m.es, s.length ≤ 64 := by
    intro s hs
    obtain ⟨e, he, rfl⟩ := (dirS_mem m.es s).1 hs
    exact w6 e he
  have h1 := flatMap_le blkS 74 (dirS m.es) (fun s hs => blkS_len s (hn64 s hs))
  have h2 := flatMap_le (entB (dirS m.es)) 11 m.es (fun s hs => entB_len _ s (by omega))
  have l1 := leb_len10 (v := (dirS m.es).length) (by omega)
  have l2 := leb_len10 (v := m.es.length) (by omega)
  have hb := beB_len m.v 8
  simp only [bodyM, headM, List.length_append, List.length_cons, List.length_nil]
  omega
theorem encM_len (m : Man) (hv : m.v < 2 ^ 64) : (encM m).1.length ≤ 2 ^ 28 := by
  unfold encM
  split
  · simp
  · rename_i h
    exact (bodyM_len m (by simpa using h) hv).1
theorem encM_pos (m : Man) (hv : m.v < 2 ^ 64) (h : (encM m).2 = 0) : 0 < (encM m).1.length := by
  unfold encM at h ⊢
  split at h
  · rename_i h1
    exact absurd h h1
  · rename_i h1
    rw [if_neg h1]
    exact (bodyM_len m (by simpa using h1) hv).2
end Go.Ck

set_option linter.unusedVariables false
set_option maxRecDepth 100000
set_option maxHeartbeats 400000
namespace Go.Ck
open Go.Proofs
theorem clone_fn (l : List Nat) (h0 : 0 < l.length) (hl : l.length ≤ room) : Fn Try.prog 48 [] [.pv (.sl 1 (bytes l))] (fun rs H' => rs = [.own 5 (bytes l)] ∧ H' = []) := by
  refine Fn.of_body (fn := Try.f48) (n := 8) (res := [.tmp 2]) (by kernel_rfl) rfl rfl rfl rfl rfl (fun C => ?_)
  refine AW.go ?_
  refine AW.eqNil (.inl rfl) rfl rfl rfl tk_23 rfl rfl rfl rfl (fun b hb => ?_)
  cases b with
  | true =>
    have : bytes l = [] := hb rfl
    have h2 : (bytes l).length = 0 := by rw [this]; rfl
    rw [bytes_length] at h2
    omega
  | false =>
    have r1 : (l.length ≤ room) = True := eq_true hl
    refine AW.go ?_
    refine AW.condF rfl ?_
    refine AW.go ?_ (by simp only [go_sem, ↓reduceIte, List.length_nil, Nat.zero_add, List.nil_append, r1] <;> rfl)
    exact AW.finE (.move rfl .nil) rfl
theorem sign_fn (key : List Nat) (m : Man) (hv : m.v < 2 ^ 64) (hl : m.es.length < 2 ^ 29) (hkb : ∀ x ∈ key, x < 256) (hkl : key.length < 2 ^ 50) : Fn Try.prog 17 [] [.pv (.sl 1 (bytes key)), .pv (manP m)] (fun rs H' => rs = [.own 5 (bytes (signM key m).1), .pv (.int .i64 (signM key m).2)] ∧ H' = []) := by
  refine Fn.of_body (fn := Try.f17) (n := 31) (res := [.tmp 4, .tmp 5]) (by kernel_rfl) rfl rfl rfl rfl rfl (fun C => ?_)
  have hroom : room = 140737488355328 := rfl
  have hm : manP m = .agg [.int .u64 (m.v : Int), .sl 1 (bytes m.prev), .sl 2 (entsP m.es), .sl 1 (bytes m.root)] := rfl
  have hef := manEnc_fn m hv hl
  have hel := encM_len m hv
  have hep := encM_pos m hv
  have hkb2 := dk_lt key 4 []
  have hkl2 := dk_len key 4 []
  rw [hm] at hef ⊢
  unfold signM
  generalize encM m = E at *
  obtain ⟨en, ee⟩ := E
  simp only at hef hel hep
  refine AW.go ?_
  refine AW.callE (fun _ => 0) (keyM_fn key hkb hkl) (.pv _ .nil) ?_
  generalize dk key 4 [] = D at *
  obtain ⟨k, ke⟩ := D
  simp only at hkb2 hkl2
  simp only
  refine AW.go ?_
  refine AW.cond rfl (fun hc => ?_) (fun hc => ?_)
  · have hk0 : ke ≠ 0 := by rintro rfl; exact absurd hc (by decide)
    rw [if_pos hk0]
    refine AW.go ?_
    refine AW.finE (.move rfl (.pv _ .nil)) rfl
  have hk0 : ke = 0 := by
    have h2 : ((ke : Int) == 0) = true := by simpa [bne] using hc
    have := eq_of_beq h2
    omega
  rw [if_neg (by simp [hk0])]
  refine AW.go ?_
  refine AW.callE (fun _ => 0) hef (.pv _ .nil) ?_
  refine AW.go ?_
  refine AW.cond rfl (fun hc => ?_) (fun hc => ?_)
  · have he0 : ee ≠ 0 := by rintro rfl; exact absurd hc (by decide)
    rw [if_pos he0]
    refine AW.go ?_
    refine AW.finE (.move rfl (.pv _ .nil)) rfl
  have he0 : ee = 0 := by
    have h2 : ((ee : Int) == 0) = true := by simpa [bne] using hc
    have := eq_of_beq h2
    omega
  rw [if_neg (by simp [he0])]
  have hpos := hep he0
  refine AW.freeze (p := .slot 8) (by simp only [go_sem, ↓reduceIte, freeze, freezeO] <;> rfl) ?_
  refine AW.go ?_
  refine AW.callE (fun _ => 0) (clone_fn en hpos (by omega)) (.pv _ .nil) ?_
  refine AW.go ?_
  refine AW.callE (fun _ => 0) (mac_fn k en hkb2 (by omega) (by omega)) (.pv _ (.pv _ .nil)) ?_
  have hml := hmac_len k en
  have r1 : (en.length + (hmac k en).length ≤ room) = True := eq_true (by omega)
  refine AW.go ?_ (by simp only [go_sem, ↓reduceIte, r1] <;> rfl)
  refine AW.finE (.move rfl (.pv _ .nil)) rfl
end Go.Ck

set_option linter.unusedVariables false
namespace Go.Ck
def z32 : List Nat := List.replicate 32 0
theorem z32_byte : ∀ x ∈ z32, x < 256 := by decide
def awM : Man := ⟨1, z32, [], z32⟩
theorem dirS_nil : dirS [] = [] := by simp [dirS, nmS, sortS]
theorem awM_wrong : wrongM awM = 0 := by decide
theorem awM_body : bodyM awM = [67, 83, 75, 49] ++ beB 1 8 ++ z32 ++ [0] ++ [0] ++ z32 := by
  unfold bodyM headM awM
  have h0 : leb ([] : List Ent).length = [0] := by show leb 0 = [0]; rw [leb]; simp
  have h1 : leb ([] : List (List UInt8)).length = [0] := by show leb 0 = [0]; rw [leb]; simp
  simp only [dirS_nil]
  rw [h0, h1]
  rfl
theorem awM_enc : encM awM = ([67, 83, 75, 49] ++ beB 1 8 ++ z32 ++ [0] ++ [0] ++ z32, 0) := by
  unfold encM; rw [if_neg (by rw [awM_wrong]; simp), awM_body]
theorem awM_dec : decM ([67, 83, 75, 49] ++ beB 1 8 ++ z32 ++ [0] ++ [0] ++ z32) = (awM, 0) := by
  have e1 : decM ([67, 83, 75, 49] ++ beB 1 8 ++ z32 ++ [0] ++ [0] ++ z32) = decM1 (beB 1 8 ++ z32 ++ [0] ++ [0] ++ z32) := rfl
  have e2 : decM1 (beB 1 8 ++ z32 ++ [0] ++ [0] ++ z32) = decM2 1 (z32 ++ [0] ++ [0] ++ z32) := rfl
  have e3 : decM2 1 (z32 ++ [0] ++ [0] ++ z32) = decM3 1 z32 ([0] ++ [0] ++ z32) := rfl
  have e4 : decM3 1 z32 ([0] ++ [0] ++ z32) = decM4 1 z32 [] ([0] ++ z32) := rfl
  have e5 : decM4 1 z32 [] ([0] ++ z32) = decM5 1 z32 [] [] z32 := rfl
  rw [e1, e2, e3, e4, e5]
  unfold decM5
  rw [dirS_nil]
  rfl
theorem awM_sign : (signM z32 awM).2 = 0 ∧ (signM z32 awM).1.length = 110 := by
  have h : (dk z32 4 []).2 = 0 := rfl
  unfold signM
  rw [h, awM_enc]
  simp only [ne_eq, not_true_eq_false, if_false]
  refine ⟨trivial, ?_⟩
  rw [List.length_append, hmac_len]
  rfl
/-- What the laws look at. -/
def fewM (m : Man) : Bool := decide (m.es.length ≤ 100 ∧ m.prev.length ≤ 300 ∧ m.root.length ≤ 300 ∧ ∀ e ∈ m.es, e.1.length ≤ 200)
end Go.Ck

set_option linter.unusedVariables false
set_option maxRecDepth 100000
set_option maxHeartbeats 400000
namespace Go.Ck
open Go.Proofs
theorem few_fn (m : Man) (hl : m.es.length < 2 ^ 63) : Fn Try.prog 10 [] [.pv (manP m)] (fun rs H' => rs = [.pv (.bool (fewM m))] ∧ H' = []) := by
  refine Fn.of_body (fn := Try.f10) (n := 35) (res := [.tmp 2]) (by kernel_rfl) rfl rfl rfl rfl rfl (fun C => ?_)
  obtain ⟨v, prev, es, root⟩ := m
  have hm : manP ⟨v, prev, es, root⟩ = .agg [.int .u64 (v : Int), .sl 1 (bytes prev), .sl 2 (entsP es), .sl 1 (bytes root)] := rfl
  rw [hm]
  unfold fewM
  simp only at *
  obtain ⟨b1, hb1⟩ : ∃ b, b = decide (100 < es.length) := ⟨_, rfl⟩
  obtain ⟨b2, hb2⟩ : ∃ b, b = decide (300 < prev.length) := ⟨_, rfl⟩
  obtain ⟨b3, hb3⟩ : ∃ b, b = decide (300 < root.length) := ⟨_, rfl⟩
  have d1 : decide ((es.length : Int) > 100) = b1 := by rw [hb1, Bool.eq_iff_iff]; simp; omega
  have d2 : decide ((prev.length : Int) > 300) = b2 := by rw [hb2, Bool.eq_iff_iff]; simp; omega
  have d3 : decide ((root.length : Int) > 300) = b3 := by rw [hb3, Bool.eq_iff_iff]; simp; omega
  have d1' := hb1.symm
  have d2' := hb2.symm
  have d3' := hb3.symm
  by_cases hB : (b1 || (b2 || b3)) = true
  · have hno : ¬ (es.length ≤ 100 ∧ prev.length ≤ 300 ∧ root.length ≤ 300 ∧ ∀ e ∈ es, e.1.length ≤ 200) := by
      rintro ⟨h1, h2, h3, _⟩
      rw [hb1, hb2, hb3] at hB
      simp at hB
      omega
    rw [decide_eq_false hno]
    clear hb1 hb2 hb3 hno
    cases b1 with
    | true =>
      refine AW.gg ?_ (by simp only [go_sem, ↓reduceIte, d1, d2, d3, d1', d2', d3'] <;> rfl)
      refine AW.condT rfl ?_
      refine AW.go ?_
      exact AW.finE (.pv _ .nil) rfl
    | false =>
      cases b2 with
      | true =>
        refine AW.gg ?_ (by simp only [go_sem, ↓reduceIte, d1, d2, d3, d1', d2', d3'] <;> rfl)
        refine AW.condT rfl ?_
        refine AW.go ?_
        exact AW.finE (.pv _ .nil) rfl
      | false =>
        cases b3 with
        | true =>
          refine AW.gg ?_ (by simp only [go_sem, ↓reduceIte, d1, d2, d3, d1', d2', d3'] <;> rfl)
          refine AW.condT rfl ?_
          refine AW.go ?_
          exact AW.finE (.pv _ .nil) rfl
        | false => cases hB
  have hB2 : (b1 || (b2 || b3)) = false := by simpa only [Bool.not_eq_true] using hB
  rw [Bool.or_eq_false_iff, Bool.or_eq_false_iff] at hB2
  obtain ⟨hc1, hc2, hc3⟩ := hB2
  rw [hc1] at d1 d1' hb1
  rw [hc2] at d2 d2' hb2
  rw [hc3] at d3 d3' hb3
  have f1 := of_decide_eq_false d1'
  have f2 := of_decide_eq_false d2'
  have f3 := of_decide_eq_false d3'
  refine AW.gg ?_ (by simp only [go_sem, ↓reduceIte, d1, d2, d3, d1', d2', d3'] <;> rfl)
  refine AW.condF rfl ?_
  refine AW.go ?_
  refine AW.loopS (fun i : Nat => ⟨35, [(3, .pv (.int .i64 i)), (1, .ptr 1 0)], [(1, .cells 26 [.pv (.int .u64 (v : Int)), .pv (.sl 1 (bytes prev)), .pv (.sl 2 (entsP es)), .pv (.sl 1 (bytes root))])]⟩) (fun i => i ≤ es.length ∧ ∀ e ∈ es.take i, e.1.length ≤ 200) (fun i => es.length - i) [3, 1] [1] 0 ⟨Nat.zero_le _, by simp⟩ ?_
  rintro i ⟨hi, hn⟩ K hK
  refine AW.go ?_
  refine AW.cond rfl (fun hc => ?_) (fun hc => ?_)
  · have hlt : i < es.length := by have := of_decide_eq_true hc; omega
    obtain ⟨e, he⟩ : ∃ e, es[i]? = some e := ⟨es[i], List.getElem?_eq_getElem hlt⟩
    have hg := entsP_get he
    have e1 : IntKind.i64.wrap ((i : Int) + 1) = ((i + 1 : Nat) : Int) := wrap_i64_succ (by omega)
    by_cases hL : 200 < e.1.length
    · have d7 : decide (200 < e.1.length) = true := decide_eq_true hL
      have d7' : decide ((e.1.length : Int) > 200) = true := decide_eq_true (by omega)
      rw [decide_eq_false (fun h => by have := h.2.2.2 e (List.mem_of_getElem? he); omega)]
      refine AW.gg ?_ (by simp only [go_sem, ↓reduceIte, hg, d7, d7'] <;> rfl)
      refine AW.condT rfl ?_
      refine AW.go ?_
      exact AW.finE (.pv _ .nil) rfl
    · have d7 : decide (200 < e.1.length) = false := decide_eq_false hL
      have d7' : decide ((e.1.length : Int) > 200) = false := decide_eq_false (by omega)
      refine AW.gg ?_ (by simp only [go_sem, ↓reduceIte, hg, d7, d7'] <;> rfl)
      refine AW.condF rfl ?_
      refine AW.go ?_ (by simp only [go_sem, ↓reduceIte, e1] <;> rfl)
      exact AW.again hK (i + 1) (by exact ⟨by omega, by rw [List.take_add_one, he]; intro x hx; rcases List.mem_append.1 hx with hx | hx; exact hn x hx; simp at hx; subst hx; omega⟩) (by omega)
  have hge : i = es.length := by have := of_decide_eq_false hc; omega
  subst hge
  rw [List.take_length] at hn
  rw [decide_eq_true ⟨by omega, by omega, by omega, hn⟩]
  refine AW.go ?_
  exact AW.finE (.pv _ .nil) rfl
theorem awake_fn : Fn Try.prog 9 [] [] (fun rs H' => rs = [.pv (.bool true)] ∧ H' = []) := by
  refine Fn.of_body (fn := Try.f9) (n := 64) (res := [.tmp 0]) (by kernel_rfl) rfl rfl rfl rfl rfl (fun C => ?_)
  have m32 : (32 ≤ maxLen) = True := eq_true (le_maxLen 32)
  refine AW.go ?_
  refine AW.any0 mixed ?_
  refine via (T := ?Tend) (fun hT => ?_) ?_; rotate_left
  · skip
    refine AW.branch (fuel := 4) (rs := [0, 1, 3]) ?_ (by decide +kernel) (by simp)
    intro j hj
    simp only [List.mem_cons, List.not_mem_nil, or_false] at hj
    rcases hj with rfl | rfl | rfl
    · skip
      refine AW.gg ?_ (by simp only [go_sem, ↓reduceIte, m32] <;> rfl)
      refine AW.branch (fuel := 3) (rs := [1, 3]) ?_ (by decide +kernel) (by simp)
      intro j hj
      simp only [List.mem_cons, List.not_mem_nil, or_false] at hj
      rcases hj with rfl | rfl
      · skip
        refine AW.gg ?_ (by simp only [go_sem, ↓reduceIte, m32] <;> rfl)
        refine AW.branch (fuel := 2) (rs := [2, 3]) ?_ (by decide +kernel) (by simp)
        intro j hj
        simp only [List.mem_cons, List.not_mem_nil, or_false] at hj
        rcases hj with rfl | rfl
        · skip
          refine AW.gg ?_ (by simp only [go_sem, ↓reduceIte, m32] <;> rfl)
          refine AW.seqs (fuel := 0) (listed' := #[true, true, true, true, true]) [3, 4] ?_ (by decide +kernel)
          refine AW.gg ?_ (by simp only [go_sem, ↓reduceIte, m32] <;> rfl)
          refine AW.anyDone (by decide +kernel) ?_
          refine AW.keepB [1] [1] (s' := ⟨64, [(1, .ptr 1 0)], [(1, .cells 26 [.pv (.int .u64 1), .pv (.sl 1 (bytes z32)), .nils, .pv (.sl 1 (bytes z32))])]⟩) (by simp only [go_sem, ↓reduceIte]) (by simp only [go_sem, ↓reduceIte] <;> rfl) ?_
          exact hT ()
        · skip
          refine AW.gg ?_ (by simp only [go_sem, ↓reduceIte, m32] <;> rfl)
          refine AW.seqs (fuel := 0) (listed' := #[true, true, true, true, true]) [2, 4] ?_ (by decide +kernel)
          refine AW.gg ?_ (by simp only [go_sem, ↓reduceIte, m32] <;> rfl)
          refine AW.anyDone (by decide +kernel) ?_
          refine AW.keepB [1] [1] (s' := ⟨64, [(1, .ptr 1 0)], [(1, .cells 26 [.pv (.int .u64 1), .pv (.sl 1 (bytes z32)), .nils, .pv (.sl 1 (bytes z32))])]⟩) (by simp only [go_sem, ↓reduceIte]) (by simp only [go_sem, ↓reduceIte] <;> rfl) ?_
          exact hT ()
      · skip
        refine AW.gg ?_ (by simp only [go_sem, ↓reduceIte, m32] <;> rfl)
        refine AW.seqs (fuel := 0) (listed' := #[true, true, true, true, true]) [1, 2, 4] ?_ (by decide +kernel)
        refine AW.gg ?_ (by simp only [go_sem, ↓reduceIte, m32] <;> rfl)
        refine AW.anyDone (by decide +kernel) ?_
        refine AW.keepB [1] [1] (s' := ⟨64, [(1, .ptr 1 0)], [(1, .cells 26 [.pv (.int .u64 1), .pv (.sl 1 (bytes z32)), .nils, .pv (.sl 1 (bytes z32))])]⟩) (by simp only [go_sem, ↓reduceIte]) (by simp only [go_sem, ↓reduceIte] <;> rfl) ?_
        exact hT ()
    · skip
      refine AW.gg ?_ (by simp only [go_sem, ↓reduceIte, m32] <;> rfl)
      refine AW.branch (fuel := 3) (rs := [0, 3]) ?_ (by decide +kernel) (by simp)
      intro j hj
      simp only [List.mem_cons, List.not_mem_nil, or_false] at hj
      rcases hj with rfl | rfl
      · skip
        refine AW.gg ?_ (by simp only [go_sem, ↓reduceIte, m32] <;> rfl)
        refine AW.branch (fuel := 2) (rs := [2, 3]) ?_ (by decide +kernel) (by simp)
        intro j hj
        simp only [List.mem_cons, List.not_mem_nil, or_false] at hj
        rcases hj with rfl | rfl
        · skip
          refine AW.gg ?_ (by simp only [go_sem, ↓reduceIte, m32] <;> rfl)
          refine AW.seqs (fuel := 0) (listed' := #[true, true, true, true, true]) [3, 4] ?_ (by decide +kernel)
          refine AW.gg ?_ (by simp only [go_sem, ↓reduceIte, m32] <;> rfl)
          refine AW.anyDone (by decide +kernel) ?_
          refine AW.keepB [1] [1] (s' := ⟨64, [(1, .ptr 1 0)], [(1, .cells 26 [.pv (.int .u64 1), .pv (.sl 1 (bytes z32)), .nils, .pv (.sl 1 (bytes z32))])]⟩) (by simp only [go_sem, ↓reduceIte]) (by simp only [go_sem, ↓reduceIte] <;> rfl) ?_
          exact hT ()
        · skip
          refine AW.gg ?_ (by simp only [go_sem, ↓reduceIte, m32] <;> rfl)
          refine AW.seqs (fuel := 0) (listed' := #[true, true, true, true, true]) [2, 4] ?_ (by decide +kernel)
          refine AW.gg ?_ (by simp only [go_sem, ↓reduceIte, m32] <;> rfl)
          refine AW.anyDone (by decide +kernel) ?_
          refine AW.keepB [1] [1] (s' := ⟨64, [(1, .ptr 1 0)], [(1, .cells 26 [.pv (.int .u64 1), .pv (.sl 1 (bytes z32)), .nils, .pv (.sl 1 (bytes z32))])]⟩) (by simp only [go_sem, ↓reduceIte]) (by simp only [go_sem, ↓reduceIte] <;> rfl) ?_
          exact hT ()
      · skip
        refine AW.gg ?_ (by simp only [go_sem, ↓reduceIte, m32] <;> rfl)
        refine AW.seqs (fuel := 0) (listed' := #[true, true, true, true, true]) [0, 2, 4] ?_ (by decide +kernel)
        refine AW.gg ?_ (by simp only [go_sem, ↓reduceIte, m32] <;> rfl)
        refine AW.anyDone (by decide +kernel) ?_
        refine AW.keepB [1] [1] (s' := ⟨64, [(1, .ptr 1 0)], [(1, .cells 26 [.pv (.int .u64 1), .pv (.sl 1 (bytes z32)), .nils, .pv (.sl 1 (bytes z32))])]⟩) (by simp only [go_sem, ↓reduceIte]) (by simp only [go_sem, ↓reduceIte] <;> rfl) ?_
        exact hT ()
    · skip
      refine AW.gg ?_ (by simp only [go_sem, ↓reduceIte, m32] <;> rfl)
      refine AW.branch (fuel := 3) (rs := [0, 1]) ?_ (by decide +kernel) (by simp)
      intro j hj
      simp only [List.mem_cons, List.not_mem_nil, or_false] at hj
      rcases hj with rfl | rfl
      · skip
        refine AW.gg ?_ (by simp only [go_sem, ↓reduceIte, m32] <;> rfl)
        refine AW.seqs (fuel := 0) (listed' := #[true, true, true, true, true]) [1, 2, 4] ?_ (by decide +kernel)
        refine AW.gg ?_ (by simp only [go_sem, ↓reduceIte, m32] <;> rfl)
        refine AW.anyDone (by decide +kernel) ?_
        refine AW.keepB [1] [1] (s' := ⟨64, [(1, .ptr 1 0)], [(1, .cells 26 [.pv (.int .u64 1), .pv (.sl 1 (bytes z32)), .nils, .pv (.sl 1 (bytes z32))])]⟩) (by simp only [go_sem, ↓reduceIte]) (by simp only [go_sem, ↓reduceIte] <;> rfl) ?_
        exact hT ()
      · skip
        refine AW.gg ?_ (by simp only [go_sem, ↓reduceIte, m32] <;> rfl)
        refine AW.seqs (fuel := 0) (listed' := #[true, true, true, true, true]) [0, 2, 4] ?_ (by decide +kernel)
        refine AW.gg ?_ (by simp only [go_sem, ↓reduceIte, m32] <;> rfl)
        refine AW.anyDone (by decide +kernel) ?_
        refine AW.keepB [1] [1] (s' := ⟨64, [(1, .ptr 1 0)], [(1, .cells 26 [.pv (.int .u64 1), .pv (.sl 1 (bytes z32)), .nils, .pv (.sl 1 (bytes z32))])]⟩) (by simp only [go_sem, ↓reduceIte]) (by simp only [go_sem, ↓reduceIte] <;> rfl) ?_
        exact hT ()
  have hM : manP awM = .agg [.int .u64 1, .sl 1 (bytes z32), .sl 2 [], .sl 1 (bytes z32)] := rfl
  have hef := manEnc_fn awM (by decide) (by decide)
  have hE1 := awM_enc
  have hE2 := awM_dec
  obtain ⟨hS1, hS2⟩ := awM_sign
  have hsf := sign_fn z32 awM (by decide) (by decide) z32_byte (by decide)
  have hE3 : ([67, 83, 75, 49] ++ beB 1 8 ++ z32 ++ [0] ++ [0] ++ z32 : List Nat).length = 78 := rfl
  have hE4 : (bytes ([67, 83, 75, 49] ++ beB 1 8 ++ z32 ++ [0] ++ [0] ++ z32))[0]? = some (.int .u8 67) := rfl
  have hE5 : (bytes ([67, 83, 75, 49] ++ beB 1 8 ++ z32 ++ [0] ++ [0] ++ z32))[11]? = some (.int .u8 1) := rfl
  have hE6 : ∀ x ∈ ([67, 83, 75, 49] ++ beB 1 8 ++ z32 ++ [0] ++ [0] ++ z32 : List Nat), x < 256 := by decide
  generalize [67, 83, 75, 49] ++ beB 1 8 ++ z32 ++ [0] ++ [0] ++ z32 = E at *
  have hdf := manDec_fn E (by omega) hE6
  rw [hE2, hM] at hdf
  rw [hE1, hM] at hef
  rw [hS1, hM] at hsf
  generalize (signM z32 awM).1 = S at *
  have hss := lawMSame_fn awM awM (by decide) (by decide) (by decide)
  rw [hM, sameM_self] at hss
  simp only [show ((0 : Nat) : Int) = 0 from rfl] at hdf hef
  refine AW.nilsOwnAt (.cell 1 2) 38 ?_
  refine AW.freeze (p := .cell 1 2) (by simp only [go_sem, ↓reduceIte, freeze, freezeO] <;> rfl) ?_
  refine AW.go ?_
  refine AW.callE (fun _ => 0) hef (.pv _ .nil) ?_
  refine AW.goM 9 ?_
  refine AW.freeze (p := .slot 14) (by simp only [go_sem, ↓reduceIte, freeze, freezeO] <;> rfl) ?_
  refine AW.go ?_
  refine AW.callE (fun _ => 0) hdf (.pv _ .nil) ?_
  refine AW.go ?_
  refine AW.any0 mixed ?_
  refine via (T := ?Tend2) (fun hT => ?_) ?_; rotate_left
  · skip
    refine AW.branch (fuel := 7) (rs := [0, 1]) ?_ (by decide +kernel) (by simp)
    intro j hj
    simp only [List.mem_cons, List.not_mem_nil, or_false] at hj
    rcases hj with rfl | rfl
    · skip
      refine AW.gg ?_ (by simp only [go_sem, ↓reduceIte, m32] <;> rfl)
      refine AW.seqs (fuel := 4) (listed' := #[true, true, true, true, false, false, false, false]) [1, 2, 3] ?_ (by decide +kernel)
      refine AW.gg ?_ (by simp only [go_sem, ↓reduceIte, m32] <;> rfl)
      refine AW.freeze (p := .slot 22) (by simp only [go_sem, ↓reduceIte, freeze, freezeO] <;> rfl) ?_
      refine AW.callE (fun _ => 0) hsf (.pv _ (.pv _ .nil)) ?_
      refine AW.gg ?_
      refine AW.takes (fuel := 0) [4, 5, 6, 7] ?_ (by simp only [go_sem, ↓reduceIte, m32] <;> rfl) Ends.noPanic (listed' := #[true, true, true, true, true, true, true, true]) (by decide +kernel) (by decide +kernel)
      refine AW.anyDone (by decide +kernel) ?_
      refine AW.keepB [1, 2, 3, 4, 5, 6, 7] [1, 4] (s' := ⟨64, [(1, .ptr 1 0), (2, .pv (.sl 1 (bytes E))), (3, .pv (.int .i64 0)), (4, .ptr 4 0), (5, .pv (.int .i64 0)), (6, .own 5 (bytes S)), (7, .pv (.int .i64 0))], [(1, .cells 26 [.pv (.int .u64 1), .pv (.sl 1 (bytes z32)), .pv (.sl 2 []), .pv (.sl 1 (bytes z32))]), (4, .cells 26 [.pv (.int .u64 1), .pv (.sl 1 (bytes z32)), .pv (.sl 2 []), .pv (.sl 1 (bytes z32))])]⟩) (by simp only [go_sem, ↓reduceIte]) (by simp only [go_sem, ↓reduceIte] <;> rfl) ?_
      exact hT ()
    · skip
      refine AW.gg ?_ (by simp only [go_sem, ↓reduceIte, m32] <;> rfl)
      refine AW.seqs (fuel := 4) (listed' := #[true, true, true, true, false, false, false, false]) [0, 2, 3] ?_ (by decide +kernel)
      refine AW.gg ?_ (by simp only [go_sem, ↓reduceIte, m32] <;> rfl)
      refine AW.freeze (p := .slot 22) (by simp only [go_sem, ↓reduceIte, freeze, freezeO] <;> rfl) ?_
      refine AW.callE (fun _ => 0) hsf (.pv _ (.pv _ .nil)) ?_
      refine AW.gg ?_
      refine AW.takes (fuel := 0) [4, 5, 6, 7] ?_ (by simp only [go_sem, ↓reduceIte, m32] <;> rfl) Ends.noPanic (listed' := #[true, true, true, true, true, true, true, true]) (by decide +kernel) (by decide +kernel)
      refine AW.anyDone (by decide +kernel) ?_
      refine AW.keepB [1, 2, 3, 4, 5, 6, 7] [1, 4] (s' := ⟨64, [(1, .ptr 1 0), (2, .pv (.sl 1 (bytes E))), (3, .pv (.int .i64 0)), (4, .ptr 4 0), (5, .pv (.int .i64 0)), (6, .own 5 (bytes S)), (7, .pv (.int .i64 0))], [(1, .cells 26 [.pv (.int .u64 1), .pv (.sl 1 (bytes z32)), .pv (.sl 2 []), .pv (.sl 1 (bytes z32))]), (4, .cells 26 [.pv (.int .u64 1), .pv (.sl 1 (bytes z32)), .pv (.sl 2 []), .pv (.sl 1 (bytes z32))])]⟩) (by simp only [go_sem, ↓reduceIte]) (by simp only [go_sem, ↓reduceIte] <;> rfl) ?_
      exact hT ()
  have d78 : ((E.length : Int) == 78) = true := by rw [hE3]; rfl
  have d110 : ((S.length : Int) == 110) = true := by rw [hS2]; rfl
  have l0 : (0 < E.length) = True := eq_true (by omega)
  have l11 : (11 < E.length) = True := eq_true (by omega)
  have g67 : ((67 : Int) == 67) = true := rfl
  have g1 : ((1 : Int) == 1) = true := rfl
  have g0 : ((0 : Int) == 0) = true := rfl
  refine AW.gg ?_ (by simp only [go_sem, ↓reduceIte, d78, d110, hE4, hE5, l0, l11, g67, g1, g0] <;> rfl)
  refine AW.guardT rfl rfl ?_
  refine AW.callE (fun _ => 0) hss (.pv _ (.pv _ .nil)) ?_
  refine AW.gg ?_ (by simp only [go_sem, ↓reduceIte, d110, g0] <;> rfl)
  refine AW.go ?_
  exact AW.finE (.pv _ .nil) rfl
end Go.Ck

set_option linter.unusedVariables false
set_option maxRecDepth 100000
set_option maxHeartbeats 400000
namespace Go.Ck
open Go.Proofs
theorem law21encodes_fn (m : Man) (hv : m.v < 2 ^ 64) (hl : m.es.length < 2 ^ 63) : Fn Try.prog 3 [] [.pv (manP m)] (fun rs H' => rs = [.pv (.bool true)] ∧ H' = []) := by
  refine Fn.of_body (fn := Try.f3) (n := 34) (res := [.tmp 2]) (by kernel_rfl) rfl rfl rfl rfl rfl (fun C => ?_)
  have hroom : room = 140737488355328 := rfl
  have hff := few_fn m hl
  have hE := encM_len m hv
  have hm : manP m = .agg [.int .u64 (m.v : Int), .sl 1 (bytes m.prev), .sl 2 (entsP m.es), .sl 1 (bytes m.root)] := rfl
  have hfw : fewM m = true → m.es.length ≤ 100 := fun h => by unfold fewM at h; exact (of_decide_eq_true h).1
  have hef := fun (h : fewM m = true) => manEnc_fn m hv (by have := hfw h; omega)
  have hrf := fun (h : fewM m = true) => ref21Enc_fn m hv (by have := hfw h; omega)
  rw [hm] at hff hef hrf ⊢
  generalize encM m = E at *
  obtain ⟨en, ee⟩ := E
  simp only at hE hef hrf
  refine AW.go ?_
  refine AW.callE (fun _ => 0) awake_fn .nil ?_
  refine AW.go ?_
  refine AW.callE (fun _ => 0) hff (.pv _ .nil) ?_
  cases hfb : fewM m with
  | false =>
    refine AW.go ?_
    refine AW.condT rfl ?_
    refine AW.go ?_
    exact AW.finE (.pv _ .nil) rfl
  | true =>
    refine AW.go ?_
    refine AW.condF rfl ?_
    refine AW.go ?_
    refine AW.callE (fun _ => 0) (hef hfb) (.pv _ .nil) ?_
    refine AW.go ?_
    refine AW.callE (fun _ => 0) (hrf hfb) (.pv _ .nil) ?_
    have hee : ((ee : Int) == (ee : Int)) = true := by simp
    refine AW.gg ?_ (by simp only [go_sem, ↓reduceIte, hee] <;> rfl)
    refine AW.guardT rfl rfl ?_
    refine AW.callE (fun _ => 0) (ref01Same_fn en en (by omega)) (.lend rfl co_5 (.lend rfl co_5 .nil)) ?_
    try rw [decide_eq_true (rfl : en = en)]
    refine AW.gg ?_
    refine AW.go ?_
    exact AW.finE (.pv _ .nil) rfl
end Go.Ck

set_option linter.unusedVariables false
namespace Go.Ck
def stTypes (P : Program) (t : TypeId) : Option (List TypeId) := match P.underlying t with
  | some (.struct fs) => some (fs.toList.map (·.type))
  | _ => none
section
variable {P : Program} {n : Nat} {t : TypeId} {p : PV}
theorem PT_st2 {a b : TypeId} (hu : stTypes P t = some [a, b]) (h : PT P (n + 1) t p.cells) (h1 : p.one = !isAggT P t) : ∃ ps qs, p = .agg (ps ++ qs) ∧ PT P n a ps ∧ PT P n b qs := by
  unfold stTypes at hu
  unfold isAggT at h1
  unfold PT at h
  split at hu
  · rename_i fs hus
    rw [hus] at h1 h
    simp only [Option.some.injEq] at hu
    obtain ⟨pss, e1, e2, e3⟩ := h
    have hl : fs.toList.length = 2 := by have := congrArg List.length hu; simpa using this
    match hfl : fs.toList, hl with
    | [f, g], _ =>
      rw [hfl] at hu
      simp only [List.map_cons, List.map_nil, List.cons.injEq, and_true] at hu
      have hsz : fs.size = 2 := by rw [← Array.length_toList, hfl]; rfl
      have hf : fs[0]? = some f := by rw [← Array.getElem?_toList, hfl]; rfl
      have hg : fs[1]? = some g := by rw [← Array.getElem?_toList, hfl]; rfl
      match pss, (by rw [e2, hsz] : pss.length = 2) with
      | [ps, qs], _ =>
        have k1 := (e3 0 f ps hf rfl).1
        have k2 := (e3 1 g qs hg rfl).1
        rw [hu.1] at k1
        rw [hu.2] at k2
        refine ⟨ps, qs, ?_, k1, k2⟩
        simp only [List.flatten_cons, List.flatten_nil, List.append_nil] at e1
        cases p <;> simp [PV.one] at h1
        simp only [PV.cells] at e1
        rw [e1]
  · cases hu
theorem PTc_int {k : IntKind} {ps : List PV} (hu : P.underlying t = some (.int k)) (h : PT P (n + 1) t ps) : ∃ m, ps = [.int k m] ∧ (Lit.int k m).wf = true := by
  unfold PT at h
  rw [hu] at h
  exact h
theorem PTc_u64 {ps : List PV} (hu : P.underlying t = some (.int .u64)) (h : PT P (n + 1) t ps) : ∃ v : Nat, ps = [.int .u64 v] ∧ v < 2 ^ 64 := by
  obtain ⟨m, rfl, hm⟩ := PTc_int hu h
  obtain ⟨r, hr, h4⟩ := nats_of (k := .u64) rfl [m] (by simpa using hm)
  match r, hr with
  | [a], hr => simp at hr; subst hr; exact ⟨a, rfl, h4 a (by simp)⟩
theorem PTc_str {ps : List PV} (hu : P.underlying t = some .string) (h : PT P (n + 1) t ps) : ∃ s, ps = [.str s] ∧ s.length ≤ maxLen := by
  unfold PT at h
  rw [hu] at h
  exact h
theorem PTc_slice {e : TypeId} {ps : List PV} (hu : P.underlying t = some (.slice e)) (h : PT P (n + 1) t ps) : ∃ xs, ps = [.sl (P.cellsOf e) xs] ∧ xs.length ≤ maxLen ∧ ∀ x ∈ xs, PT P n e x.cells ∧ x.one = !isAggT P e := by
  unfold PT at h
  rw [hu] at h
  exact h
theorem sms_of {a b e : TypeId} (hu : stTypes P e = some [a, b]) (ha : P.underlying a = some (.int .i64)) (hb : P.underlying b = some (.int .u64)) : ∀ xs : List PV, (∀ x ∈ xs, PT P (n + 2) e x.cells ∧ x.one = !isAggT P e) → ∃ l : List Sm, xs = sms l ∧ smOK l
  | [], _ => ⟨[], rfl, by intro x hx; cases hx⟩
  | x :: r, h => by
    obtain ⟨ps, qs, rfl, k1, k2⟩ := PT_st2 (n := n + 1) hu (h x (by simp)).1 (h x (by simp)).2
    obtain ⟨m, rfl, hm⟩ := PTc_int ha k1
    obtain ⟨v, rfl, hv⟩ := PTc_u64 hb k2
    obtain ⟨l, rfl, hl⟩ := sms_of hu ha hb r (fun y hy => h y (by simp [hy]))
    refine ⟨(m, v) :: l, rfl, fun y hy => ?_⟩
    rcases List.mem_cons.1 hy with rfl | hy
    · exact ⟨wf_i64 hm, hv⟩
    · exact hl y hy
theorem PT_chunk {s l e a b : TypeId} (hu : stTypes P t = some [s, l]) (hs : P.underlying s = some .string) (hl : P.underlying l = some (.slice e)) (hc : P.cellsOf e = 2) (he : stTypes P e = some [a, b]) (ha : P.underlying a = some (.int .i64)) (hb : P.underlying b = some (.int .u64))
    (h : PT P (n + 4) t p.cells) (h1 : p.one = !isAggT P t) : ∃ (c : List UInt8) (xs : List Sm), p = chP (c, xs) ∧ c.length ≤ maxLen ∧ smOK xs := by
  obtain ⟨ps, qs, rfl, k1, k2⟩ := PT_st2 (n := n + 3) hu h h1
  obtain ⟨c, rfl, hcl⟩ := PTc_str hs k1
  obtain ⟨xs, rfl, _, hx⟩ := PTc_slice hl k2
  obtain ⟨r, rfl, hr⟩ := sms_of he ha hb xs hx
  exact ⟨c, r, by rw [hc]; rfl, hcl, hr⟩
end
end Go.Ck

set_option linter.unusedVariables false
namespace Go.Ck
section
variable {P : Program} {n : Nat} {t : TypeId} {p : PV}
theorem PT_st {ts : List TypeId} (hu : stTypes P t = some ts) (h : PT P (n + 1) t p.cells) (h1 : p.one = !isAggT P t) : ∃ pss : List (List PV), p = .agg pss.flatten ∧ pss.length = ts.length ∧ ∀ (i : Nat) (a : TypeId) (ps : List PV), ts[i]? = some a → pss[i]? = some ps → PT P n a ps := by
  unfold stTypes at hu
  unfold isAggT at h1
  unfold PT at h
  split at hu
  · rename_i fs hus
    rw [hus] at h1 h
    simp only [Option.some.injEq] at hu
    obtain ⟨pss, e1, e2, e3⟩ := h
    refine ⟨pss, ?_, by rw [e2, ← hu]; simp, fun i a ps hi hp => ?_⟩
    · cases p <;> simp [PV.one] at h1
      simp only [PV.cells] at e1
      rw [e1]
    · rw [← hu, List.getElem?_map] at hi
      cases hf : fs.toList[i]? with
      | none => rw [hf] at hi; cases hi
      | some f =>
        rw [hf] at hi
        cases hi
        exact (e3 i f ps (by rw [← Array.getElem?_toList, hf]) hp).1
  · cases hu
theorem ents_of {a b e : TypeId} (hu : stTypes P e = some [a, b]) (ha : P.underlying a = some .string) (hb : P.underlying b = some (.int .i64)) : ∀ xs : List PV, (∀ x ∈ xs, PT P (n + 2) e x.cells ∧ x.one = !isAggT P e) → ∃ l : List Ent, xs = entsP l
  | [], _ => ⟨[], rfl⟩
  | x :: r, h => by
    obtain ⟨ps, qs, rfl, k1, k2⟩ := PT_st2 (n := n + 1) hu (h x (by simp)).1 (h x (by simp)).2
    obtain ⟨s, rfl, _⟩ := PTc_str ha k1
    obtain ⟨m, rfl, _⟩ := PTc_int hb k2
    obtain ⟨l, rfl⟩ := ents_of hu ha hb r (fun y hy => h y (by simp [hy]))
    exact ⟨(s, m) :: l, rfl⟩
theorem PTc_bytes {u : TypeId} {ps : List PV} {e : TypeId} (hu : P.underlying u = some (.slice e)) (he : P.underlying e = some (.int .u8)) (hc : P.cellsOf e = 1) (ha : isAggT P u = false) (h : PT P (n + 3) u ps) : ∃ l : List Nat, ps = [.sl 1 (bytes l)] ∧ l.length ≤ maxLen ∧ ∀ x ∈ l, x < 256 := by
  obtain ⟨xs, rfl, h2, h3⟩ := PTc_slice hu h
  obtain ⟨l, e1, e2, e3⟩ := PT_bytes (n := n + 1) (p := .sl (P.cellsOf e) xs) hu he hc h (by rw [ha]; rfl)
  rw [e1]
  exact ⟨l, rfl, e2, e3⟩
theorem PT_man {u b l e s i : TypeId} (hu : stTypes P t = some [u, b, l, b]) (h64 : P.underlying u = some (.int .u64)) (hb : P.underlying b = some (.slice e)) (he : P.underlying e = some (.int .u8)) (hc : P.cellsOf e = 1) (hab : isAggT P b = false)
    {en : TypeId} (hl : P.underlying l = some (.slice en)) (hce : P.cellsOf en = 2) (hen : stTypes P en = some [s, i]) (hs : P.underlying s = some .string) (hi : P.underlying i = some (.int .i64))
    (h : PT P (n + 4) t p.cells) (h1 : p.one = !isAggT P t) : ∃ m : Man, p = manP m ∧ m.v < 2 ^ 64 ∧ m.es.length ≤ maxLen ∧ m.prev.length ≤ maxLen ∧ m.root.length ≤ maxLen ∧ (∀ x ∈ m.prev, x < 256) ∧ (∀ x ∈ m.root, x < 256) := by
  obtain ⟨pss, rfl, e2, e3⟩ := PT_st (n := n + 3) hu h h1
  match pss, e2 with
  | [p1, p2, p3, p4], _ =>
    obtain ⟨v, rfl, hv⟩ := PTc_u64 h64 (e3 0 u p1 rfl rfl)
    obtain ⟨pv, rfl, hp1, hp2⟩ := PTc_bytes (n := n) hb he hc hab (e3 1 b p2 rfl rfl)
    obtain ⟨xs, rfl, hx1, hx2⟩ := PTc_slice hl (e3 2 l p3 rfl rfl)
    obtain ⟨rt, rfl, hr1, hr2⟩ := PTc_bytes (n := n) hb he hc hab (e3 3 b p4 rfl rfl)
    obtain ⟨es, rfl⟩ := ents_of hen hs hi xs hx2
    refine ⟨⟨v, pv, es, rt⟩, ?_, hv, by simpa [entsP_len] using hx1, hp1, hr1, hp2, hr2⟩
    rw [hce]; rfl
end
end Go.Ck
