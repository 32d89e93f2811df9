/- What is proved here: parts of the proofs of this seat's statements (a verified evaluator for calls over pure values, its laws, and contracts of functions). No condition. -/
import Derived.Test.YthjibccogjggbaaKw
import Derived.Test.YthjibccogjggbaaKu
set_option linter.all false
set_option linter.unusedVariables false
set_option maxRecDepth 100000
set_option maxHeartbeats 400000
namespace Go.Ck
open Go.Proofs
def mO (a b c d : PV) (e : Int) : List (Nat × HO) := [(1002, .cells 26 [.pv a, .pv b, .pv c, .pv d]), (1003, .cells 29 [.pv (.int .i64 e)])]
attribute [go_sem] mO
theorem mdecRet_fn (a b c d : PV) (e : Int) : FnD Try.prog 32 (mO a b c d e) (ptrS [1002, 1003]) .returning .returning (fun H' => H' = mO a b c d e) := by
  refine FnD.of_rec (fn := Try.f32) (n := 14) (d := 5) (p := .nili) (by kernel_rfl) rfl rfl rfl rfl rfl rfl rfl rfl rfl (.inl ⟨rfl, rfl, rfl⟩) (fun C => ?_)
  refine AW.go ?_
  refine AW.eqNilI tk_20 ?_
  refine AW.condT (by simp only [go_sem, ↓reduceIte]) ?_
  refine AW.go ?_
  refine AW.finE .nil rfl
theorem mdecRec_fn (a b c d : PV) (e0 e : Int) {ch : List PanicEntry} (hch : Pan ch (failE e)) : FnD Try.prog 32 (mO a b c d e0) (ptrS [1002, 1003]) (.panicking ch) (recd ch) (fun H' => H' = mO (.int .u64 0) (.sl 1 []) (.sl 2 []) (.sl 1 []) e) := by
  refine FnD.of_rec (fn := Try.f32) (n := 14) (d := 5) (p := failE e) (by kernel_rfl) rfl rfl rfl rfl rfl rfl rfl rfl rfl (.inr ⟨ch, rfl, hch, rfl⟩) (fun C => ?_)
  refine AW.go ?_
  refine AW.eqNilI tk_20 ?_
  refine AW.condF (by simp only [go_sem, ↓reduceIte]) ?_
  refine AW.go ?_
  refine AW.assertT tk_56 ?_
  refine AW.go ?_
  refine AW.condT rfl ?_
  refine AW.go ?_
  refine AW.any0 mixed ?_
  refine AW.takes (fuel := 4) [1] ?_ (by simp only [go_sem, ↓reduceIte] <;> rfl) Ends.noPanic (listed' := #[false, true, false, false, false]) (by decide +kernel) (by decide +kernel)
  refine via (T := ?Tend) (fun hT => ?_) ?_; rotate_left
  · refine AW.branch (fuel := 3) (rs := [0, 2]) ?_ (by decide +kernel) (by simp)
    intro j hj
    simp only [List.mem_cons, List.not_mem_nil, or_false] at hj
    rcases hj with rfl | rfl
    · skip
      refine AW.gg ?_
      refine AW.branch (fuel := 2) (rs := [2, 3]) ?_ (by decide +kernel) (by simp)
      intro j hj
      simp only [List.mem_cons, List.not_mem_nil, or_false] at hj
      rcases hj with rfl | rfl
      · skip
        refine AW.gg ?_
        refine AW.seqs (fuel := 0) (listed' := #[true, true, true, true, true]) [3, 4] ?_ (by decide +kernel)
        refine AW.gg ?_
        refine AW.anyDone (by decide +kernel) ?_
        refine AW.keepB [] [1002, 1003] (s' := ⟨14, [], [(1002, .cells 26 [.pv (.int .u64 0), .nils, .nils, .nils]), (1003, .cells 29 [.pv (.int .i64 e)])]⟩) (by simp only [go_sem, ↓reduceIte]) (by simp only [go_sem, ↓reduceIte] <;> rfl) ?_
        exact hT ()
      · skip
        refine AW.gg ?_
        refine AW.seqs (fuel := 0) (listed' := #[true, true, true, true, true]) [2, 4] ?_ (by decide +kernel)
        refine AW.gg ?_
        refine AW.anyDone (by decide +kernel) ?_
        refine AW.keepB [] [1002, 1003] (s' := ⟨14, [], [(1002, .cells 26 [.pv (.int .u64 0), .nils, .nils, .nils]), (1003, .cells 29 [.pv (.int .i64 e)])]⟩) (by simp only [go_sem, ↓reduceIte]) (by simp only [go_sem, ↓reduceIte] <;> rfl) ?_
        exact hT ()
    · skip
      refine AW.gg ?_
      refine AW.seqs (fuel := 0) (listed' := #[true, true, true, true, true]) [0, 3, 4] ?_ (by decide +kernel)
      refine AW.gg ?_
      refine AW.anyDone (by decide +kernel) ?_
      refine AW.keepB [] [1002, 1003] (s' := ⟨14, [], [(1002, .cells 26 [.pv (.int .u64 0), .nils, .nils, .nils]), (1003, .cells 29 [.pv (.int .i64 e)])]⟩) (by simp only [go_sem, ↓reduceIte]) (by simp only [go_sem, ↓reduceIte] <;> rfl) ?_
      exact hT ()
  refine AW.go ?_
  refine AW.nilsOwnAt (.cell 1002 1) 5 ?_
  refine AW.freeze (p := .cell 1002 1) (by simp only [go_sem, ↓reduceIte, freeze, freezeO] <;> rfl) ?_
  refine AW.nilsOwnAt (.cell 1002 2) 38 ?_
  refine AW.freeze (p := .cell 1002 2) (by simp only [go_sem, ↓reduceIte, freeze, freezeO] <;> rfl) ?_
  refine AW.nilsOwnAt (.cell 1002 3) 5 ?_
  refine AW.freeze (p := .cell 1002 3) (by simp only [go_sem, ↓reduceIte, freeze, freezeO] <;> rfl) ?_
  refine AW.finE .nil rfl
theorem ub_eq {l : List Nat} (hb : ∀ x ∈ l, x < 256) : (ub l == [67, 83, 75, 49]) = decide (l = [67, 83, 75, 49]) := by
  rw [Bool.eq_iff_iff]
  simp only [beq_iff_eq, decide_eq_true_eq]
  constructor
  · intro h
    rw [← nb_ub hb, h]; rfl
  · rintro rfl; rfl
theorem manDec_fn (b : List Nat) (hl : b.length ≤ 2 ^ 40) (hb : ∀ x ∈ b, x < 256) : Fn Try.prog 14 [] [.pv (.sl 1 (bytes b))]
    (fun rs H' => rs = [.pv (manP (decM b).1), .pv (.int .i64 (decM b).2)] ∧ H' = []) := by
  refine Fn.of_bodyD 32 [1002, 1003] (fn := Try.f14) (n := 55) (res := [.cell 2 26, .cell 3 29]) (by kernel_rfl) rfl rfl rfl rfl rfl (fun C => ?_)
  have hr : room = 140737488355328 := rfl
  have hbad : ∀ e, decM b = noM e → [SV.pv (.agg [.int .u64 0, .sl 1 [], .sl 2 [], .sl 1 []]), .pv (.int .i64 e)] = [SV.pv (manP (decM b).1), .pv (.int .i64 (decM b).2)] := fun e h => by rw [h]; rfl
  refine AW.seq ?_
  refine AW.region ?_
  refine AW.allocAt 1002 ?_
  refine AW.allocAt 1003 ?_
  refine AW.nilsOwnAt (.cell 1002 1) 5 ?_
  refine AW.freeze (p := .cell 1002 1) (by simp only [go_sem, ↓reduceIte, freeze, freezeO] <;> rfl) ?_
  refine AW.nilsOwnAt (.cell 1002 2) 38 ?_
  refine AW.freeze (p := .cell 1002 2) (by simp only [go_sem, ↓reduceIte, freeze, freezeO] <;> rfl) ?_
  refine AW.nilsOwnAt (.cell 1002 3) 5 ?_
  refine AW.freeze (p := .cell 1002 3) (by simp only [go_sem, ↓reduceIte, freeze, freezeO] <;> rfl) ?_
  refine AW.go ?_
  refine AW.defer [1002, 1003] ?_
  refine AW.go ?_
  refine AW.callE (fun _ => 4) (curNew_fn b (by omega)) (.pv _ .nil) ?_
  refine AW.go ?_
  refine AW.callPE (fun _ => 4) (taken_fn b 4 (by omega)) (.ptr rfl (.pv _ .nil)) (fun he ch hch => ?_) (fun he => ?_)
  · exact AW.finDP hch (mdecRec_fn _ _ _ _ _ _ hch) (.pv _ (.pv _ .nil)) ⟨hbad 2 (by unfold decM; rw [if_pos he]), rfl⟩
  have e1 : decM b = if b.take 4 ≠ [67, 83, 75, 49] then noM 3 else decM1 (b.drop 4) := by unfold decM; rw [if_neg (by omega)]
  rw [e1] at hbad ⊢
  have hu := ub_eq (l := b.take 4) (fun x hx => hb x (List.mem_of_mem_take hx))
  have hb1 : ∀ x ∈ b.drop 4, x < 256 := fun x hx => hb x (List.mem_of_mem_drop hx)
  have hl1 : (b.drop 4).length ≤ 2 ^ 40 := by rw [List.length_drop]; omega
  clear e1 he hb hl
  generalize b.take 4 = m4 at *
  generalize b.drop 4 = q1 at *
  refine AW.go ?_ (by simp only [go_sem, ↓reduceIte, numsOf_byt, ofNums_ub, hu] <;> rfl)
  refine AW.callPE (fun _ => 0) (unless_fn (decide (m4 = [67, 83, 75, 49])) 3 (by decide)) (.pv _ (.pv _ .nil)) (fun he ch hch => ?_) (fun he => ?_)
  · exact AW.finDP hch (mdecRec_fn _ _ _ _ _ _ hch) (.pv _ (.pv _ .nil)) ⟨hbad 3 (by rw [if_pos (of_decide_eq_false he)]), rfl⟩
  have e2 : (if m4 ≠ [67, 83, 75, 49] then noM 3 else decM1 q1) = decM1 q1 := if_neg (by simpa using of_decide_eq_true he)
  rw [e2] at hbad ⊢
  clear e2 he hu
  refine AW.go ?_
  refine AW.callE (fun _ => 4) (curFixed_fn q1 8 (by omega) (by omega) hb1) (.ptr rfl (.pv _ .nil)) ?_
  have hv := beN_lt (q1.take 8) (fun x hx => hb1 x (List.mem_of_mem_take hx))
  have hvp : 256 ^ (q1.take 8).length ≤ 256 ^ 8 := Nat.pow_le_pow_right (by omega) (by rw [List.length_take]; omega)
  have hb2 : ∀ x ∈ q1.drop 8, x < 256 := fun x hx => hb1 x (List.mem_of_mem_drop hx)
  have hl2 : (q1.drop 8).length ≤ 2 ^ 40 := by rw [List.length_drop]; omega
  by_cases h8 : q1.length < 8
  · have h8' : ¬ 8 ≤ q1.length := by omega
    simp only [if_neg h8']
    refine AW.go ?_
    refine AW.callPE (fun _ => 0) (got64_fn 0 2) (.pv _ (.pv _ .nil)) (fun he ch hch => ?_) (fun he => absurd he (by decide))
    exact AW.finDP hch (mdecRec_fn _ _ _ _ _ _ hch) (.pv _ (.pv _ .nil)) ⟨hbad 2 (by unfold decM1; rw [if_pos h8]), rfl⟩
  have h8' : 8 ≤ q1.length := by omega
  simp only [if_pos h8']
  have e3 : decM1 q1 = if beN (q1.take 8) = 18446744073709551615 then noM 3 else decM2 (beN (q1.take 8)) (q1.drop 8) := by unfold decM1; rw [if_neg h8]
  rw [e3] at hbad ⊢
  clear e3 h8 h8'
  generalize beN (q1.take 8) = v at *
  generalize q1.drop 8 = q2 at *
  clear hvp
  refine AW.go ?_
  refine AW.callPE (fun _ => 0) (got64_fn v 0) (.pv _ (.pv _ .nil)) (fun he ch hch => absurd rfl he) (fun he => ?_)
  clear he
  have dv : ((v : Int) != 18446744073709551615) = !decide (v = 18446744073709551615) := by rw [Bool.eq_iff_iff]; simp; omega
  refine AW.go ?_ (by simp only [go_sem, ↓reduceIte, dv] <;> rfl)
  refine AW.callPE (fun _ => 0) (unless_fn (!decide (v = 18446744073709551615)) 3 (by decide)) (.pv _ (.pv _ .nil)) (fun he ch hch => ?_) (fun he => ?_)
  · have hv1 : v = 18446744073709551615 := by simpa using he
    exact AW.finDP hch (mdecRec_fn _ _ _ _ _ _ hch) (.pv _ (.pv _ .nil)) ⟨hbad 3 (by rw [if_pos hv1]), rfl⟩
  have hv1 : v ≠ 18446744073709551615 := by simpa using he
  rw [if_neg hv1] at hbad ⊢
  clear he
  refine AW.go ?_
  refine AW.callPE (fun _ => 4) (taken_fn q2 32 (by omega)) (.ptr rfl (.pv _ .nil)) (fun he ch hch => ?_) (fun he => ?_)
  · exact AW.finDP hch (mdecRec_fn _ _ _ _ _ _ hch) (.pv _ (.pv _ .nil)) ⟨hbad 2 (by unfold decM2; rw [if_pos he]), rfl⟩
  have e4 : decM2 v q2 = decM3 v (q2.take 32) (q2.drop 32) := by unfold decM2; rw [if_neg (by omega)]
  rw [e4] at hbad ⊢
  have hb3 : ∀ x ∈ q2.drop 32, x < 256 := fun x hx => hb2 x (List.mem_of_mem_drop hx)
  have hl3 : (q2.drop 32).length ≤ 2 ^ 40 := by rw [List.length_drop]; omega
  clear e4 he
  generalize q2.take 32 = prev at *
  generalize q2.drop 32 = q3 at *
  refine AW.go ?_
  refine AW.callPE (fun _ => 4) (mtens_fn q3 (by omega) hb3) (.ptr rfl .nil) (fun he ch hch => ?_) (fun he => ?_)
  · exact AW.finDP hch (mdecRec_fn _ _ _ _ _ _ hch) (.pv _ (.pv _ .nil)) ⟨hbad _ (by unfold decM3; rw [if_pos he]), rfl⟩
  have e5 : decM3 v prev q3 = decM4 v prev (tensD q3).1 (tensD q3).2.2 := by unfold decM3; rw [if_neg (by simpa using he)]
  rw [e5] at hbad ⊢
  have hb4 := tensD_byte hb3
  have hl4 := tensD_len hb3
  have htl := tensD_n q3
  clear e5 he
  generalize (tensD q3).1 = ts at *
  generalize (tensD q3).2.2 = q4 at *
  refine AW.go ?_
  refine AW.callPE (fun _ => 4) (ments_fn ts (by omega) q4 (by omega) hb4) (.ptr rfl (.pv _ .nil)) (fun he ch hch => ?_) (fun he => ?_)
  · exact AW.finDP hch (mdecRec_fn _ _ _ _ _ _ hch) (.pv _ (.pv _ .nil)) ⟨hbad _ (by unfold decM4; rw [if_pos he]), rfl⟩
  have e6 : decM4 v prev ts q4 = decM5 v prev ts (entsD ts q4).1 (entsD ts q4).2.2 := by unfold decM4; rw [if_neg (by simpa using he)]
  rw [e6] at hbad ⊢
  have hb5 := entsD_byte ts hb4
  have hl5 := entsD_len ts q4
  have hel := entsD_n ts q4
  clear e6 he
  generalize (entsD ts q4).1 = es at *
  generalize (entsD ts q4).2.2 = q5 at *
  refine AW.go ?_
  refine AW.callPE (fun _ => 4) (taken_fn q5 32 (by omega)) (.ptr rfl (.pv _ .nil)) (fun he ch hch => ?_) (fun he => ?_)
  · exact AW.finDP hch (mdecRec_fn _ _ _ _ _ _ hch) (.pv _ (.pv _ .nil)) ⟨hbad 2 (by unfold decM5; rw [if_pos he]), rfl⟩
  have e7 : decM5 v prev ts es q5 = if q5.drop 32 ≠ [] then noM 3 else if (dirS es).length ≠ ts.length then noM 3 else (⟨v, prev, es, q5.take 32⟩, 0) := by unfold decM5; rw [if_neg (by omega)]
  rw [e7] at hbad ⊢
  clear e7 he
  generalize q5.take 32 = root at *
  generalize q5.drop 32 = q6 at *
  refine AW.go ?_
  refine AW.callE (fun _ => 4) (curEnd_fn q6) (.ptr rfl .nil) ?_
  refine AW.go ?_
  refine AW.callPE (fun _ => 0) (must_fn _) (.pv _ .nil) (fun he ch hch => ?_) (fun he => ?_)
  · have h6 : q6 ≠ [] := fun h => he (if_pos h)
    rw [if_neg h6] at hch
    exact AW.finDP hch (mdecRec_fn _ _ _ _ _ _ hch) (.pv _ (.pv _ .nil)) ⟨hbad _ (by rw [if_pos h6]), rfl⟩
  have h6 : q6 = [] := Classical.byContradiction fun h => by rw [if_neg h] at he; exact absurd he (by decide)
  rw [if_neg (by simpa using h6)] at hbad ⊢
  clear he
  have hdf := directory_fn es (by omega)
  have hdl := dirS_len es
  have hnl := nmS_len es
  generalize dirS es = ns at *
  refine AW.go ?_
  refine AW.callE (fun _ => 6) hdf (.pv _ .nil) ?_
  refine AW.go ?_
  refine AW.extractM rfl ⟨_, rfl⟩ ?_
  have dn : ((ns.length : Int) == (ts.length : Int)) = decide (ns.length = ts.length) := by rw [Bool.eq_iff_iff]; simp; omega
  refine AW.go ?_ (by simp only [go_sem, ↓reduceIte, dn] <;> rfl)
  refine AW.callPE (fun _ => 0) (unless_fn (decide (ns.length = ts.length)) 3 (by decide)) (.pv _ (.pv _ .nil)) (fun he ch hch => ?_) (fun he => ?_)
  · exact AW.finDP hch (mdecRec_fn _ _ _ _ _ _ hch) (.pv _ (.pv _ .nil)) ⟨hbad 3 (by rw [if_pos (of_decide_eq_false he)]), rfl⟩
  rw [if_neg (by simpa using of_decide_eq_true he)]
  refine AW.go ?_
  exact AW.finD (mdecRet_fn _ _ _ _ _) (.pv _ (.pv _ .nil)) ⟨rfl, rfl⟩
end Go.Ck

set_option linter.unusedVariables false
namespace Go.Ck
def sameM (a b : Man) : Bool := decide (a.v = b.v ∧ a.prev = b.prev ∧ a.root = b.root ∧ a.es = b.es)
theorem sameM_eq (a b : Man) : sameM a b = true ↔ a = b := by
  obtain ⟨v, p, es, r⟩ := a
  obtain ⟨v2, p2, es2, r2⟩ := b
  simp only [sameM, decide_eq_true_eq, Man.mk.injEq]
  constructor
  · rintro ⟨h1, h2, h3, h4⟩; exact ⟨h1, h2, h4, h3⟩
  · rintro ⟨h1, h2, h4, h3⟩; exact ⟨h1, h2, h3, h4⟩
theorem sameM_self (a : Man) : sameM a a = true := (sameM_eq a a).2 rfl
end Go.Ck

set_option linter.unusedVariables false
set_option maxRecDepth 100000
set_option maxHeartbeats 400000
namespace Go.Ck
open Go.Proofs
theorem refMSame_fn (m m2 : Man) (hl : m.es.length < 2 ^ 40) (hp : m.prev.length ≤ 2 ^ 40) (hr : m.root.length ≤ 2 ^ 40) : Fn Try.prog 46 [] [.pv (manP m), .pv (manP m2)] (fun rs H' => rs = [.pv (.bool (sameM m m2))] ∧ H' = []) := by
  refine Fn.of_body (fn := Try.f46) (n := 71) (res := [.tmp 4]) (by kernel_rfl) rfl rfl rfl rfl rfl (fun C => ?_)
  have hroom : room = 140737488355328 := rfl
  obtain ⟨v, p, es, r⟩ := m
  obtain ⟨v2, p2, es2, r2⟩ := m2
  have hm : ∀ v p es r, manP ⟨v, p, es, r⟩ = .agg [.int .u64 (v : Int), .sl 1 (bytes p), .sl 2 (entsP es), .sl 1 (bytes r)] := fun _ _ _ _ => rfl
  rw [hm, hm]
  simp only at hl hp hr
  unfold sameM
  simp only
  have dv : ((v : Int) != (v2 : Int)) = !decide (v = v2) := by rw [Bool.eq_iff_iff]; simp; omega
  have dl : ((es.length : Int) != (es2.length : Int)) = !decide (es.length = es2.length) := by rw [Bool.eq_iff_iff]; simp; omega
  have dl' : (es.length != es2.length) = !decide (es.length = es2.length) := by rw [Bool.eq_iff_iff]; simp
  by_cases hv : v = v2
  · rw [decide_eq_true hv] at dv
    refine AW.gg ?_ (by simp only [go_sem, ↓reduceIte, dv, Bool.not_true] <;> rfl)
    refine AW.guardT rfl rfl ?_
    refine AW.callE (fun _ => 0) (ref01Same_fn p p2 (by omega)) (.pv _ (.pv _ .nil)) ?_
    by_cases hpp : p = p2
    · rw [decide_eq_true hpp]
      refine AW.gg ?_
      refine AW.guardT rfl rfl ?_
      refine AW.callE (fun _ => 0) (ref01Same_fn r r2 (by omega)) (.pv _ (.pv _ .nil)) ?_
      by_cases hrr : r = r2
      · rw [decide_eq_true hrr]
        by_cases hll : es.length = es2.length
        · rw [decide_eq_true hll] at dl dl'
          refine AW.gg ?_ (by simp only [go_sem, ↓reduceIte, dl, dl', Bool.not_true] <;> rfl)
          refine AW.condF rfl ?_
          refine AW.go ?_
          refine AW.loopS (fun i : Nat => ⟨71, [(5, .pv (.int .i64 i)), (2, .ptr 2 0), (3, .ptr 3 0)], [(2, .cells 26 [.pv (.int .u64 (v : Int)), .pv (.sl 1 (bytes p)), .pv (.sl 2 (entsP es)), .pv (.sl 1 (bytes r))]), (3, .cells 26 [.pv (.int .u64 (v2 : Int)), .pv (.sl 1 (bytes p2)), .pv (.sl 2 (entsP es2)), .pv (.sl 1 (bytes r2))])]⟩) (fun i => i ≤ es.length ∧ es.take i = es2.take i) (fun i => es.length - i) [5, 2, 3] [2, 3] 0 ⟨Nat.zero_le _, rfl⟩ ?_
          rintro i ⟨hi, ht⟩ K hK
          refine AW.go ?_
          refine AW.cond rfl (fun hc => ?_) (fun hc => ?_)
          · have hlt : i < es.length := by have := of_decide_eq_true hc; omega
            obtain ⟨e, he⟩ : ∃ e, es[i]? = some e := ⟨es[i], List.getElem?_eq_getElem hlt⟩
            obtain ⟨e2, he2⟩ : ∃ e, es2[i]? = some e := ⟨es2[i], List.getElem?_eq_getElem (by omega)⟩
            have hg := entsP_get he
            have hg2 := entsP_get he2
            have e1 : IntKind.i64.wrap ((i : Int) + 1) = ((i + 1 : Nat) : Int) := wrap_i64_succ (by omega)
            have hne : e ≠ e2 → ¬ (v = v2 ∧ p = p2 ∧ r = r2 ∧ es = es2) := by
              rintro h ⟨_, _, _, h4⟩
              rw [h4, he2] at he
              exact h (by cases he; rfl)
            refine AW.go ?_
            by_cases ht1 : e.1 = e2.1
            · have d1 : (e.1 == e2.1) = true := by simpa using ht1
              have d1' : (e.1 != e2.1) = false := by simpa using ht1
              by_cases ht2 : e.2 = e2.2
              · have d2 : (e.2 != e2.2) = false := by simpa using ht2
                refine AW.sr mixed (by decide +kernel) ?_ (by simp only [go_sem, ↓reduceIte, hg, hg2, d1, d1', d2] <;> rfl)
                refine AW.go ?_
                refine AW.condF rfl ?_
                refine AW.go ?_ (by simp only [go_sem, ↓reduceIte, e1] <;> rfl)
                have hee : e = e2 := Prod.ext ht1 ht2
                exact AW.again hK (i + 1) (by exact ⟨hlt, by rw [List.take_add_one, List.take_add_one, he, he2, ht, hee]⟩) (by omega)
              · have d2 : (e.2 != e2.2) = true := by simpa using ht2
                rw [decide_eq_false (hne (fun h => ht2 (by rw [h])))]
                refine AW.sr mixed (by decide +kernel) ?_ (by simp only [go_sem, ↓reduceIte, hg, hg2, d1, d1', d2] <;> rfl)
                refine AW.go ?_
                refine AW.condT rfl ?_
                refine AW.go ?_
                exact AW.finE (.pv _ .nil) rfl
            · have d1 : (e.1 == e2.1) = false := by simpa using ht1
              have d1' : (e.1 != e2.1) = true := by simpa using ht1
              rw [decide_eq_false (hne (fun h => ht1 (by rw [h])))]
              refine AW.sr mixed (by decide +kernel) ?_ (by simp only [go_sem, ↓reduceIte, hg, hg2, d1, d1'] <;> rfl)
              refine AW.go ?_
              refine AW.condT rfl ?_
              refine AW.go ?_
              exact AW.finE (.pv _ .nil) rfl
          have hge : ¬ i < es.length := by have := of_decide_eq_false hc; omega
          rw [List.take_of_length_le (by omega), List.take_of_length_le (by omega)] at ht
          rw [decide_eq_true ⟨hv, hpp, hrr, ht⟩]
          refine AW.go ?_
          exact AW.finE (.pv _ .nil) rfl
        · rw [decide_eq_false hll] at dl dl'
          rw [decide_eq_false (fun h => hll (by rw [h.2.2.2]))]
          refine AW.gg ?_ (by simp only [go_sem, ↓reduceIte, dl, dl', Bool.not_false] <;> rfl)
          refine AW.condT rfl ?_
          refine AW.go ?_
          exact AW.finE (.pv _ .nil) rfl
      · rw [decide_eq_false hrr, decide_eq_false (fun h => hrr h.2.2.1)]
        refine AW.gg ?_
        refine AW.condT rfl ?_
        refine AW.go ?_
        exact AW.finE (.pv _ .nil) rfl
    · rw [decide_eq_false hpp, decide_eq_false (fun h => hpp h.2.1)]
      refine AW.gg ?_
      refine AW.condT rfl ?_
      refine AW.go ?_
      exact AW.finE (.pv _ .nil) rfl
  · rw [decide_eq_false hv] at dv
    rw [decide_eq_false (fun h => hv h.1)]
    refine AW.gg ?_ (by simp only [go_sem, ↓reduceIte, dv, Bool.not_false] <;> rfl)
    refine AW.condT rfl ?_
    refine AW.go ?_
    exact AW.finE (.pv _ .nil) rfl
theorem lawMSame_fn (m m2 : Man) (hl : m.es.length < 2 ^ 40) (hp : m.prev.length ≤ 2 ^ 40) (hr : m.root.length ≤ 2 ^ 40) : Fn Try.prog 16 [] [.pv (manP m), .pv (manP m2)] (fun rs H' => rs = [.pv (.bool (sameM m m2))] ∧ H' = []) := by
  refine Fn.of_body (fn := Try.f16) (n := 8) (res := [.tmp 4]) (by kernel_rfl) rfl rfl rfl rfl rfl (fun C => ?_)
  have hs := refMSame_fn m m2 hl hp hr
  obtain ⟨v, p, es, r⟩ := m
  obtain ⟨v2, p2, es2, r2⟩ := m2
  have hm : ∀ v p es r, manP ⟨v, p, es, r⟩ = .agg [.int .u64 (v : Int), .sl 1 (bytes p), .sl 2 (entsP es), .sl 1 (bytes r)] := fun _ _ _ _ => rfl
  rw [hm, hm] at hs ⊢
  refine AW.go ?_
  refine AW.callE (fun _ => 0) hs (.pv _ (.pv _ .nil)) ?_
  refine AW.go ?_
  exact AW.finE (.pv _ .nil) rfl
end Go.Ck

set_option linter.unusedVariables false
namespace Go.Ck
def signM (key : List Nat) (m : Man) : List Nat × Int :=
  if (dk key 4 []).2 ≠ 0 then ([], ((dk key 4 []).2 : Int)) else if (encM m).2 ≠ 0 then ([], ((encM m).2 : Int)) else ((encM m).1 ++ hmac (dk key 4 []).1 (encM m).1, 0)
def checkM (key b : List Nat) : Man × Int :=
  if (dk key 4 []).2 ≠ 0 then noM ((dk key 4 []).2 : Int) else if b.length < 32 then noM 2 else if hmac (dk key 4 []).1 (b.take (b.length - 32)) ≠ b.drop (b.length - 32) then noM 5 else decM (b.take (b.length - 32))
theorem bodyM_len (m : Man) (h : wrongM m = 0) (hv : m.v < 2 ^ 64) : (bodyM m).length ≤ 2 ^ 28 ∧ 0 < (bodyM m).length := by
  obtain ⟨w1, w2, w3, w4, w5, w6⟩ := wrongM_zero h
  have hnl : (dirS m.es).length ≤ m.es.length := by rw [dirS_len]; exact nmS_len _
  have hn64 : ∀ s ∈ dirS m.es, s.length ≤ 64 := by
    intro s hs
    obtain ⟨e, he, rfl⟩ := (dirS_mem m.es s).1 hs
    exact w6 e he
  have h1 := flatMap_le blkS 74 (dirS m.es) (fun s hs => blkS_len s (hn64 s hs))
  have h2 := flatMap_le (entB (dirS m.es)) 11 m.es (fun s hs => entB_len _ s (by omega))
  have l1 := leb_len10 (v := (dirS m.es).length) (by omega)
  have l2 := leb_len10 (v := m.es.length) (by omega)
  have hb := beB_len m.v 8
  simp only [bodyM, headM, List.length_append, List.length_cons, List.length_nil]
  omega
theorem encM_len (m : Man) (hv : m.v < 2 ^ 64) : (encM m).1.length ≤ 2 ^ 28 := by
  unfold encM
  split
  · simp
  · rename_i h
    exact (bodyM_len m (by simpa using h) hv).1
theorem encM_pos (m : Man) (hv : m.v < 2 ^ 64) (h : (encM m).2 = 0) : 0 < (encM m).1.length := by
  unfold encM at h ⊢
  split at h
  · rename_i h1
    exact absurd h h1
  · rename_i h1
    rw [if_neg h1]
    exact (bodyM_len m (by simpa using h1) hv).2
end Go.Ck

set_option linter.unusedVariables false
set_option maxRecDepth 100000
set_option maxHeartbeats 400000
namespace Go.Ck
open Go.Proofs
theorem clone_fn (l : List Nat) (h0 : 0 < l.length) (hl : l.length ≤ room) : Fn Try.prog 48 [] [.pv (.sl 1 (bytes l))] (fun rs H' => rs = [.own 5 (bytes l)] ∧ H' = []) := by
  refine Fn.of_body (fn := Try.f48) (n := 8) (res := [.tmp 2]) (by kernel_rfl) rfl rfl rfl rfl rfl (fun C => ?_)
  refine AW.go ?_
  refine AW.eqNil (.inl rfl) rfl rfl rfl tk_23 rfl rfl rfl rfl (fun b hb => ?_)
  cases b with
  | true =>
    have : bytes l = [] := hb rfl
    have h2 : (bytes l).length = 0 := by rw [this]; rfl
    rw [bytes_length] at h2
    omega
  | false =>
    have r1 : (l.length ≤ room) = True := eq_true hl
    refine AW.go ?_
    refine AW.condF rfl ?_
    refine AW.go ?_ (by simp only [go_sem, ↓reduceIte, List.length_nil, Nat.zero_add, List.nil_append, r1] <;> rfl)
    exact AW.finE (.move rfl .nil) rfl
theorem sign_fn (key : List Nat) (m : Man) (hv : m.v < 2 ^ 64) (hl : m.es.length < 2 ^ 29) (hkb : ∀ x ∈ key, x < 256) : Fn Try.prog 17 [] [.pv (.sl 1 (bytes key)), .pv (manP m)] (fun rs H' => rs = [.own 5 (bytes (signM key m).1), .pv (.int .i64 (signM key m).2)] ∧ H' = []) := by
  refine Fn.of_body (fn := Try.f17) (n := 31) (res := [.tmp 4, .tmp 5]) (by kernel_rfl) rfl rfl rfl rfl rfl (fun C => ?_)
  have hroom : room = 140737488355328 := rfl
  have hm : manP m = .agg [.int .u64 (m.v : Int), .sl 1 (bytes m.prev), .sl 2 (entsP m.es), .sl 1 (bytes m.root)] := rfl
  have hef := manEnc_fn m hv hl
  have hel := encM_len m hv
  have hep := encM_pos m hv
  have hkb2 := dk_lt key 4 []
  have hkl2 := dk_len key 4 []
  rw [hm] at hef ⊢
  unfold signM
  generalize encM m = E at *
  obtain ⟨en, ee⟩ := E
  simp only at hef hel hep
  refine AW.go ?_
  refine AW.callE (fun _ => 0) (keyM_fn key hkb) (.pv _ .nil) ?_
  generalize dk key 4 [] = D at *
  obtain ⟨k, ke⟩ := D
  simp only at hkb2 hkl2
  simp only
  refine AW.go ?_
  refine AW.cond rfl (fun hc => ?_) (fun hc => ?_)
  · have hk0 : ke ≠ 0 := by rintro rfl; exact absurd hc (by decide)
    rw [if_pos hk0]
    refine AW.go ?_
    refine AW.finE (.move rfl (.pv _ .nil)) rfl
  have hk0 : ke = 0 := by
    have h2 : ((ke : Int) == 0) = true := by simpa [bne] using hc
    have := eq_of_beq h2
    omega
  rw [if_neg (by simp [hk0])]
  refine AW.go ?_
  refine AW.callE (fun _ => 0) hef (.pv _ .nil) ?_
  refine AW.go ?_
  refine AW.cond rfl (fun hc => ?_) (fun hc => ?_)
  · have he0 : ee ≠ 0 := by rintro rfl; exact absurd hc (by decide)
    rw [if_pos he0]
    refine AW.go ?_
    refine AW.finE (.move rfl (.pv _ .nil)) rfl
  have he0 : ee = 0 := by
    have h2 : ((ee : Int) == 0) = true := by simpa [bne] using hc
    have := eq_of_beq h2
    omega
  rw [if_neg (by simp [he0])]
  have hpos := hep he0
  refine AW.freeze (p := .slot 8) (by simp only [go_sem, ↓reduceIte, freeze, freezeO] <;> rfl) ?_
  refine AW.go ?_
  refine AW.callE (fun _ => 0) (clone_fn en hpos (by omega)) (.pv _ .nil) ?_
  refine AW.go ?_
  refine AW.callE (fun _ => 0) (mac_fn k en hkb2 (by omega) (by omega)) (.pv _ (.pv _ .nil)) ?_
  have hml := hmac_len k en
  have r1 : (en.length + (hmac k en).length ≤ room) = True := eq_true (by omega)
  refine AW.go ?_ (by simp only [go_sem, ↓reduceIte, r1] <;> rfl)
  refine AW.finE (.move rfl (.pv _ .nil)) rfl
end Go.Ck

set_option linter.unusedVariables false
namespace Go.Ck
def z32 : List Nat := List.replicate 32 0
theorem z32_byte : ∀ x ∈ z32, x < 256 := by decide
def awM : Man := ⟨1, z32, [], z32⟩
theorem dirS_nil : dirS [] = [] := by simp [dirS, nmS, sortS]
theorem awM_wrong : wrongM awM = 0 := by decide
theorem awM_body : bodyM awM = [67, 83, 75, 49] ++ beB 1 8 ++ z32 ++ [0] ++ [0] ++ z32 := by
  unfold bodyM headM awM
  have h0 : leb ([] : List Ent).length = [0] := by show leb 0 = [0]; rw [leb]; simp
  have h1 : leb ([] : List (List UInt8)).length = [0] := by show leb 0 = [0]; rw [leb]; simp
  simp only [dirS_nil]
  rw [h0, h1]
  rfl
theorem awM_enc : encM awM = ([67, 83, 75, 49] ++ beB 1 8 ++ z32 ++ [0] ++ [0] ++ z32, 0) := by
  unfold encM; rw [if_neg (by rw [awM_wrong]; simp), awM_body]
theorem awM_dec : decM ([67, 83, 75, 49] ++ beB 1 8 ++ z32 ++ [0] ++ [0] ++ z32) = (awM, 0) := by
  have e1 : decM ([67, 83, 75, 49] ++ beB 1 8 ++ z32 ++ [0] ++ [0] ++ z32) = decM1 (beB 1 8 ++ z32 ++ [0] ++ [0] ++ z32) := rfl
  have e2 : decM1 (beB 1 8 ++ z32 ++ [0] ++ [0] ++ z32) = decM2 1 (z32 ++ [0] ++ [0] ++ z32) := rfl
  have e3 : decM2 1 (z32 ++ [0] ++ [0] ++ z32) = decM3 1 z32 ([0] ++ [0] ++ z32) := rfl
  have e4 : decM3 1 z32 ([0] ++ [0] ++ z32) = decM4 1 z32 [] ([0] ++ z32) := rfl
  have e5 : decM4 1 z32 [] ([0] ++ z32) = decM5 1 z32 [] [] z32 := rfl
  rw [e1, e2, e3, e4, e5]
  unfold decM5
  rw [dirS_nil]
  rfl
theorem awM_sign : (signM z32 awM).2 = 0 ∧ (signM z32 awM).1.length = 110 := by
  have h : (dk z32 4 []).2 = 0 := rfl
  unfold signM
  rw [h, awM_enc]
  simp only [ne_eq, not_true_eq_false, if_false]
  refine ⟨trivial, ?_⟩
  rw [List.length_append, hmac_len]
  rfl
/-- What the laws look at. -/
def fewM (m : Man) : Bool := decide (m.es.length ≤ 100 ∧ m.prev.length ≤ 300 ∧ m.root.length ≤ 300 ∧ ∀ e ∈ m.es, e.1.length ≤ 200)
end Go.Ck

set_option linter.unusedVariables false
set_option maxRecDepth 100000
set_option maxHeartbeats 400000
namespace Go.Ck
open Go.Proofs
theorem few_fn (m : Man) (hl : m.es.length < 2 ^ 63) : Fn Try.prog 10 [] [.pv (manP m)] (fun rs H' => rs = [.pv (.bool (fewM m))] ∧ H' = []) := by
  refine Fn.of_body (fn := Try.f10) (n := 35) (res := [.tmp 2]) (by kernel_rfl) rfl rfl rfl rfl rfl (fun C => ?_)
  obtain ⟨v, prev, es, root⟩ := m
  have hm : manP ⟨v, prev, es, root⟩ = .agg [.int .u64 (v : Int), .sl 1 (bytes prev), .sl 2 (entsP es), .sl 1 (bytes root)] := rfl
  rw [hm]
  unfold fewM
  simp only at *
  obtain ⟨b1, hb1⟩ : ∃ b, b = decide (100 < es.length) := ⟨_, rfl⟩
  obtain ⟨b2, hb2⟩ : ∃ b, b = decide (300 < prev.length) := ⟨_, rfl⟩
  obtain ⟨b3, hb3⟩ : ∃ b, b = decide (300 < root.length) := ⟨_, rfl⟩
  have d1 : decide ((es.length : Int) > 100) = b1 := by rw [hb1, Bool.eq_iff_iff]; simp; omega
  have d2 : decide ((prev.length : Int) > 300) = b2 := by rw [hb2, Bool.eq_iff_iff]; simp; omega
  have d3 : decide ((root.length : Int) > 300) = b3 := by rw [hb3, Bool.eq_iff_iff]; simp; omega
  have d1' := hb1.symm
  have d2' := hb2.symm
  have d3' := hb3.symm
  by_cases hB : (b1 || (b2 || b3)) = true
  · have hno : ¬ (es.length ≤ 100 ∧ prev.length ≤ 300 ∧ root.length ≤ 300 ∧ ∀ e ∈ es, e.1.length ≤ 200) := by
      rintro ⟨h1, h2, h3, _⟩
      rw [hb1, hb2, hb3] at hB
      simp at hB
      omega
    rw [decide_eq_false hno]
    clear hb1 hb2 hb3 hno
    cases b1 with
    | true =>
      refine AW.gg ?_ (by simp only [go_sem, ↓reduceIte, d1, d2, d3, d1', d2', d3'] <;> rfl)
      refine AW.condT rfl ?_
      refine AW.go ?_
      exact AW.finE (.pv _ .nil) rfl
    | false =>
      cases b2 with
      | true =>
        refine AW.gg ?_ (by simp only [go_sem, ↓reduceIte, d1, d2, d3, d1', d2', d3'] <;> rfl)
        refine AW.condT rfl ?_
        refine AW.go ?_
        exact AW.finE (.pv _ .nil) rfl
      | false =>
        cases b3 with
        | true =>
          refine AW.gg ?_ (by simp only [go_sem, ↓reduceIte, d1, d2, d3, d1', d2', d3'] <;> rfl)
          refine AW.condT rfl ?_
          refine AW.go ?_
          exact AW.finE (.pv _ .nil) rfl
        | false => cases hB
  have hB2 : (b1 || (b2 || b3)) = false := by simpa only [Bool.not_eq_true] using hB
  rw [Bool.or_eq_false_iff, Bool.or_eq_false_iff] at hB2
  obtain ⟨hc1, hc2, hc3⟩ := hB2
  rw [hc1] at d1 d1' hb1
  rw [hc2] at d2 d2' hb2
  rw [hc3] at d3 d3' hb3
  have f1 := of_decide_eq_false d1'
  have f2 := of_decide_eq_false d2'
  have f3 := of_decide_eq_false d3'
  refine AW.gg ?_ (by simp only [go_sem, ↓reduceIte, d1, d2, d3, d1', d2', d3'] <;> rfl)
  refine AW.condF rfl ?_
  refine AW.go ?_
  refine AW.loopS (fun i : Nat => ⟨35, [(3, .pv (.int .i64 i)), (1, .ptr 1 0)], [(1, .cells 26 [.pv (.int .u64 (v : Int)), .pv (.sl 1 (bytes prev)), .pv (.sl 2 (entsP es)), .pv (.sl 1 (bytes root))])]⟩) (fun i => i ≤ es.length ∧ ∀ e ∈ es.take i, e.1.length ≤ 200) (fun i => es.length - i) [3, 1] [1] 0 ⟨Nat.zero_le _, by simp⟩ ?_
  rintro i ⟨hi, hn⟩ K hK
  refine AW.go ?_
  refine AW.cond rfl (fun hc => ?_) (fun hc => ?_)
  · have hlt : i < es.length := by have := of_decide_eq_true hc; omega
    obtain ⟨e, he⟩ : ∃ e, es[i]? = some e := ⟨es[i], List.getElem?_eq_getElem hlt⟩
    have hg := entsP_get he
    have e1 : IntKind.i64.wrap ((i : Int) + 1) = ((i + 1 : Nat) : Int) := wrap_i64_succ (by omega)
    by_cases hL : 200 < e.1.length
    · have d7 : decide (200 < e.1.length) = true := decide_eq_true hL
      have d7' : decide ((e.1.length : Int) > 200) = true := decide_eq_true (by omega)
      rw [decide_eq_false (fun h => by have := h.2.2.2 e (List.mem_of_getElem? he); omega)]
      refine AW.gg ?_ (by simp only [go_sem, ↓reduceIte, hg, d7, d7'] <;> rfl)
      refine AW.condT rfl ?_
      refine AW.go ?_
      exact AW.finE (.pv _ .nil) rfl
    · have d7 : decide (200 < e.1.length) = false := decide_eq_false hL
      have d7' : decide ((e.1.length : Int) > 200) = false := decide_eq_false (by omega)
      refine AW.gg ?_ (by simp only [go_sem, ↓reduceIte, hg, d7, d7'] <;> rfl)
      refine AW.condF rfl ?_
      refine AW.go ?_ (by simp only [go_sem, ↓reduceIte, e1] <;> rfl)
      exact AW.again hK (i + 1) (by exact ⟨by omega, by rw [List.take_add_one, he]; intro x hx; rcases List.mem_append.1 hx with hx | hx; exact hn x hx; simp at hx; subst hx; omega⟩) (by omega)
  have hge : i = es.length := by have := of_decide_eq_false hc; omega
  subst hge
  rw [List.take_length] at hn
  rw [decide_eq_true ⟨by omega, by omega, by omega, hn⟩]
  refine AW.go ?_
  exact AW.finE (.pv _ .nil) rfl
theorem awake_fn : Fn Try.prog 9 [] [] (fun rs H' => rs = [.pv (.bool true)] ∧ H' = []) := by
  refine Fn.of_body (fn := Try.f9) (n := 64) (res := [.tmp 0]) (by kernel_rfl) rfl rfl rfl rfl rfl (fun C => ?_)
  have m32 : (32 ≤ maxLen) = True := eq_true (le_maxLen 32)
  refine AW.go ?_
  refine AW.any0 mixed ?_
  refine via (T := ?Tend) (fun hT => ?_) ?_; rotate_left
  · skip
    refine AW.branch (fuel := 4) (rs := [0, 1, 3]) ?_ (by decide +kernel) (by simp)
    intro j hj
    simp only [List.mem_cons, List.not_mem_nil, or_false] at hj
    rcases hj with rfl | rfl | rfl
    · skip
      refine AW.gg ?_ (by simp only [go_sem, ↓reduceIte, m32] <;> rfl)
      refine AW.branch (fuel := 3) (rs := [1, 3]) ?_ (by decide +kernel) (by simp)
      intro j hj
      simp only [List.mem_cons, List.not_mem_nil, or_false] at hj
      rcases hj with rfl | rfl
      · skip
        refine AW.gg ?_ (by simp only [go_sem, ↓reduceIte, m32] <;> rfl)
        refine AW.branch (fuel := 2) (rs := [2, 3]) ?_ (by decide +kernel) (by simp)
        intro j hj
        simp only [List.mem_cons, List.not_mem_nil, or_false] at hj
        rcases hj with rfl | rfl
        · skip
          refine AW.gg ?_ (by simp only [go_sem, ↓reduceIte, m32] <;> rfl)
          refine AW.seqs (fuel := 0) (listed' := #[true, true, true, true, true]) [3, 4] ?_ (by decide +kernel)
          refine AW.gg ?_ (by simp only [go_sem, ↓reduceIte, m32] <;> rfl)
          refine AW.anyDone (by decide +kernel) ?_
          refine AW.keepB [1] [1] (s' := ⟨64, [(1, .ptr 1 0)], [(1, .cells 26 [.pv (.int .u64 1), .pv (.sl 1 (bytes z32)), .nils, .pv (.sl 1 (bytes z32))])]⟩) (by simp only [go_sem, ↓reduceIte]) (by simp only [go_sem, ↓reduceIte] <;> rfl) ?_
          exact hT ()
        · skip
          refine AW.gg ?_ (by simp only [go_sem, ↓reduceIte, m32] <;> rfl)
          refine AW.seqs (fuel := 0) (listed' := #[true, true, true, true, true]) [2, 4] ?_ (by decide +kernel)
          refine AW.gg ?_ (by simp only [go_sem, ↓reduceIte, m32] <;> rfl)
          refine AW.anyDone (by decide +kernel) ?_
          refine AW.keepB [1] [1] (s' := ⟨64, [(1, .ptr 1 0)], [(1, .cells 26 [.pv (.int .u64 1), .pv (.sl 1 (bytes z32)), .nils, .pv (.sl 1 (bytes z32))])]⟩) (by simp only [go_sem, ↓reduceIte]) (by simp only [go_sem, ↓reduceIte] <;> rfl) ?_
          exact hT ()
      · skip
        refine AW.gg ?_ (by simp only [go_sem, ↓reduceIte, m32] <;> rfl)
        refine AW.seqs (fuel := 0) (listed' := #[true, true, true, true, true]) [1, 2, 4] ?_ (by decide +kernel)
        refine AW.gg ?_ (by simp only [go_sem, ↓reduceIte, m32] <;> rfl)
        refine AW.anyDone (by decide +kernel) ?_
        refine AW.keepB [1] [1] (s' := ⟨64, [(1, .ptr 1 0)], [(1, .cells 26 [.pv (.int .u64 1), .pv (.sl 1 (bytes z32)), .nils, .pv (.sl 1 (bytes z32))])]⟩) (by simp only [go_sem, ↓reduceIte]) (by simp only [go_sem, ↓reduceIte] <;> rfl) ?_
        exact hT ()
    · skip
      refine AW.gg ?_ (by simp only [go_sem, ↓reduceIte, m32] <;> rfl)
      refine AW.branch (fuel := 3) (rs := [0, 3]) ?_ (by decide +kernel) (by simp)
      intro j hj
      simp only [List.mem_cons, List.not_mem_nil, or_false] at hj
      rcases hj with rfl | rfl
      · skip
        refine AW.gg ?_ (by simp only [go_sem, ↓reduceIte, m32] <;> rfl)
        refine AW.branch (fuel := 2) (rs := [2, 3]) ?_ (by decide +kernel) (by simp)
        intro j hj
        simp only [List.mem_cons, List.not_mem_nil, or_false] at hj
        rcases hj with rfl | rfl
        · skip
          refine AW.gg ?_ (by simp only [go_sem, ↓reduceIte, m32] <;> rfl)
          refine AW.seqs (fuel := 0) (listed' := #[true, true, true, true, true]) [3, 4] ?_ (by decide +kernel)
          refine AW.gg ?_ (by simp only [go_sem, ↓reduceIte, m32] <;> rfl)
          refine AW.anyDone (by decide +kernel) ?_
          refine AW.keepB [1] [1] (s' := ⟨64, [(1, .ptr 1 0)], [(1, .cells 26 [.pv (.int .u64 1), .pv (.sl 1 (bytes z32)), .nils, .pv (.sl 1 (bytes z32))])]⟩) (by simp only [go_sem, ↓reduceIte]) (by simp only [go_sem, ↓reduceIte] <;> rfl) ?_
          exact hT ()
        · skip
          refine AW.gg ?_ (by simp only [go_sem, ↓reduceIte, m32] <;> rfl)
          refine AW.seqs (fuel := 0) (listed' := #[true, true, true, true, true]) [2, 4] ?_ (by decide +kernel)
          refine AW.gg ?_ (by simp only [go_sem, ↓reduceIte, m32] <;> rfl)
          refine AW.anyDone (by decide +kernel) ?_
          refine AW.keepB [1] [1] (s' := ⟨64, [(1, .ptr 1 0)], [(1, .cells 26 [.pv (.int .u64 1), .pv (.sl 1 (bytes z32)), .nils, .pv (.sl 1 (bytes z32))])]⟩) (by simp only [go_sem, ↓reduceIte]) (by simp only [go_sem, ↓reduceIte] <;> rfl) ?_
          exact hT ()
      · skip
        refine AW.gg ?_ (by simp only [go_sem, ↓reduceIte, m32] <;> rfl)
        refine AW.seqs (fuel := 0) (listed' := #[true, true, true, true, true]) [0, 2, 4] ?_ (by decide +kernel)
        refine AW.gg ?_ (by simp only [go_sem, ↓reduceIte, m32] <;> rfl)
        refine AW.anyDone (by decide +kernel) ?_
        refine AW.keepB [1] [1] (s' := ⟨64, [(1, .ptr 1 0)], [(1, .cells 26 [.pv (.int .u64 1), .pv (.sl 1 (bytes z32)), .nils, .pv (.sl 1 (bytes z32))])]⟩) (by simp only [go_sem, ↓reduceIte]) (by simp only [go_sem, ↓reduceIte] <;> rfl) ?_
        exact hT ()
    · skip
      refine AW.gg ?_ (by simp only [go_sem, ↓reduceIte, m32] <;> rfl)
      refine AW.branch (fuel := 3) (rs := [0, 1]) ?_ (by decide +kernel) (by simp)
      intro j hj
      simp only [List.mem_cons, List.not_mem_nil, or_false] at hj
      rcases hj with rfl | rfl
      · skip
        refine AW.gg ?_ (by simp only [go_sem, ↓reduceIte, m32] <;> rfl)
        refine AW.seqs (fuel := 0) (listed' := #[true, true, true, true, true]) [1, 2, 4] ?_ (by decide +kernel)
        refine AW.gg ?_ (by simp only [go_sem, ↓reduceIte, m32] <;> rfl)
        refine AW.anyDone (by decide +kernel) ?_
        refine AW.keepB [1] [1] (s' := ⟨64, [(1, .ptr 1 0)], [(1, .cells 26 [.pv (.int .u64 1), .pv (.sl 1 (bytes z32)), .nils, .pv (.sl 1 (bytes z32))])]⟩) (by simp only [go_sem, ↓reduceIte]) (by simp only [go_sem, ↓reduceIte] <;> rfl) ?_
        exact hT ()
      · skip
        refine AW.gg ?_ (by simp only [go_sem, ↓reduceIte, m32] <;> rfl)
        refine AW.seqs (fuel := 0) (listed' := #[true, true, true, true, true]) [0, 2, 4] ?_ (by decide +kernel)
        refine AW.gg ?_ (by simp only [go_sem, ↓reduceIte, m32] <;> rfl)
        refine AW.anyDone (by decide +kernel) ?_
        refine AW.keepB [1] [1] (s' := ⟨64, [(1, .ptr 1 0)], [(1, .cells 26 [.pv (.int .u64 1), .pv (.sl 1 (bytes z32)), .nils, .pv (.sl 1 (bytes z32))])]⟩) (by simp only [go_sem, ↓reduceIte]) (by simp only [go_sem, ↓reduceIte] <;> rfl) ?_
        exact hT ()
  have hM : manP awM = .agg [.int .u64 1, .sl 1 (bytes z32), .sl 2 [], .sl 1 (bytes z32)] := rfl
  have hef := manEnc_fn awM (by decide) (by decide)
  have hE1 := awM_enc
  have hE2 := awM_dec
  obtain ⟨hS1, hS2⟩ := awM_sign
  have hsf := sign_fn z32 awM (by decide) (by decide) z32_byte
  have hE3 : ([67, 83, 75, 49] ++ beB 1 8 ++ z32 ++ [0] ++ [0] ++ z32 : List Nat).length = 78 := rfl
  have hE4 : (bytes ([67, 83, 75, 49] ++ beB 1 8 ++ z32 ++ [0] ++ [0] ++ z32))[0]? = some (.int .u8 67) := rfl
  have hE5 : (bytes ([67, 83, 75, 49] ++ beB 1 8 ++ z32 ++ [0] ++ [0] ++ z32))[11]? = some (.int .u8 1) := rfl
  have hE6 : ∀ x ∈ ([67, 83, 75, 49] ++ beB 1 8 ++ z32 ++ [0] ++ [0] ++ z32 : List Nat), x < 256 := by decide
  generalize [67, 83, 75, 49] ++ beB 1 8 ++ z32 ++ [0] ++ [0] ++ z32 = E at *
  have hdf := manDec_fn E (by omega) hE6
  rw [hE2, hM] at hdf
  rw [hE1, hM] at hef
  rw [hS1, hM] at hsf
  generalize (signM z32 awM).1 = S at *
  have hss := lawMSame_fn awM awM (by decide) (by decide) (by decide)
  rw [hM, sameM_self] at hss
  simp only [show ((0 : Nat) : Int) = 0 from rfl] at hdf hef
  refine AW.nilsOwnAt (.cell 1 2) 38 ?_
  refine AW.freeze (p := .cell 1 2) (by simp only [go_sem, ↓reduceIte, freeze, freezeO] <;> rfl) ?_
  refine AW.go ?_
  refine AW.callE (fun _ => 0) hef (.pv _ .nil) ?_
  refine AW.goM 9 ?_
  refine AW.freeze (p := .slot 14) (by simp only [go_sem, ↓reduceIte, freeze, freezeO] <;> rfl) ?_
  refine AW.go ?_
  refine AW.callE (fun _ => 0) hdf (.pv _ .nil) ?_
  refine AW.go ?_
  refine AW.any0 mixed ?_
  refine via (T := ?Tend2) (fun hT => ?_) ?_; rotate_left
  · skip
    refine AW.branch (fuel := 7) (rs := [0, 1]) ?_ (by decide +kernel) (by simp)
    intro j hj
    simp only [List.mem_cons, List.not_mem_nil, or_false] at hj
    rcases hj with rfl | rfl
    · skip
      refine AW.gg ?_ (by simp only [go_sem, ↓reduceIte, m32] <;> rfl)
      refine AW.seqs (fuel := 4) (listed' := #[true, true, true, true, false, false, false, false]) [1, 2, 3] ?_ (by decide +kernel)
      refine AW.gg ?_ (by simp only [go_sem, ↓reduceIte, m32] <;> rfl)
      refine AW.freeze (p := .slot 22) (by simp only [go_sem, ↓reduceIte, freeze, freezeO] <;> rfl) ?_
      refine AW.callE (fun _ => 0) hsf (.pv _ (.pv _ .nil)) ?_
      refine AW.gg ?_
      refine AW.takes (fuel := 0) [4, 5, 6, 7] ?_ (by simp only [go_sem, ↓reduceIte, m32] <;> rfl) Ends.noPanic (listed' := #[true, true, true, true, true, true, true, true]) (by decide +kernel) (by decide +kernel)
      refine AW.anyDone (by decide +kernel) ?_
      refine AW.keepB [1, 2, 3, 4, 5, 6, 7] [1, 4] (s' := ⟨64, [(1, .ptr 1 0), (2, .pv (.sl 1 (bytes E))), (3, .pv (.int .i64 0)), (4, .ptr 4 0), (5, .pv (.int .i64 0)), (6, .own 5 (bytes S)), (7, .pv (.int .i64 0))], [(1, .cells 26 [.pv (.int .u64 1), .pv (.sl 1 (bytes z32)), .pv (.sl 2 []), .pv (.sl 1 (bytes z32))]), (4, .cells 26 [.pv (.int .u64 1), .pv (.sl 1 (bytes z32)), .pv (.sl 2 []), .pv (.sl 1 (bytes z32))])]⟩) (by simp only [go_sem, ↓reduceIte]) (by simp only [go_sem, ↓reduceIte] <;> rfl) ?_
      exact hT ()
    · skip
      refine AW.gg ?_ (by simp only [go_sem, ↓reduceIte, m32] <;> rfl)
      refine AW.seqs (fuel := 4) (listed' := #[true, true, true, true, false, false, false, false]) [0, 2, 3] ?_ (by decide +kernel)
      refine AW.gg ?_ (by simp only [go_sem, ↓reduceIte, m32] <;> rfl)
      refine AW.freeze (p := .slot 22) (by simp only [go_sem, ↓reduceIte, freeze, freezeO] <;> rfl) ?_
      refine AW.callE (fun _ => 0) hsf (.pv _ (.pv _ .nil)) ?_
      refine AW.gg ?_
      refine AW.takes (fuel := 0) [4, 5, 6, 7] ?_ (by simp only [go_sem, ↓reduceIte, m32] <;> rfl) Ends.noPanic (listed' := #[true, true, true, true, true, true, true, true]) (by decide +kernel) (by decide +kernel)
      refine AW.anyDone (by decide +kernel) ?_
      refine AW.keepB [1, 2, 3, 4, 5, 6, 7] [1, 4] (s' := ⟨64, [(1, .ptr 1 0), (2, .pv (.sl 1 (bytes E))), (3, .pv (.int .i64 0)), (4, .ptr 4 0), (5, .pv (.int .i64 0)), (6, .own 5 (bytes S)), (7, .pv (.int .i64 0))], [(1, .cells 26 [.pv (.int .u64 1), .pv (.sl 1 (bytes z32)), .pv (.sl 2 []), .pv (.sl 1 (bytes z32))]), (4, .cells 26 [.pv (.int .u64 1), .pv (.sl 1 (bytes z32)), .pv (.sl 2 []), .pv (.sl 1 (bytes z32))])]⟩) (by simp only [go_sem, ↓reduceIte]) (by simp only [go_sem, ↓reduceIte] <;> rfl) ?_
      exact hT ()
  have d78 : ((E.length : Int) == 78) = true := by rw [hE3]; rfl
  have d110 : ((S.length : Int) == 110) = true := by rw [hS2]; rfl
  have l0 : (0 < E.length) = True := eq_true (by omega)
  have l11 : (11 < E.length) = True := eq_true (by omega)
  have g67 : ((67 : Int) == 67) = true := rfl
  have g1 : ((1 : Int) == 1) = true := rfl
  have g0 : ((0 : Int) == 0) = true := rfl
  refine AW.gg ?_ (by simp only [go_sem, ↓reduceIte, d78, d110, hE4, hE5, l0, l11, g67, g1, g0] <;> rfl)
  refine AW.guardT rfl rfl ?_
  refine AW.callE (fun _ => 0) hss (.pv _ (.pv _ .nil)) ?_
  refine AW.gg ?_ (by simp only [go_sem, ↓reduceIte, d110, g0] <;> rfl)
  refine AW.go ?_
  exact AW.finE (.pv _ .nil) rfl
end Go.Ck

set_option linter.unusedVariables false
namespace Go.Ck
theorem decM_bad {b : List Nat} (h : (decM b).2 ≠ 0) : (decM b).1 = ⟨0, [], [], []⟩ := by
  unfold decM at h ⊢
  split
  · rfl
  split
  · rfl
  rename_i h1 h2
  rw [if_neg h1, if_neg h2] at h
  unfold decM1 at h ⊢
  split
  · rfl
  split
  · rfl
  rename_i h1 h2
  rw [if_neg h1, if_neg h2] at h
  unfold decM2 at h ⊢
  split
  · rfl
  rename_i h1
  rw [if_neg h1] at h
  unfold decM3 at h ⊢
  split
  · rfl
  rename_i h1
  rw [if_neg h1] at h
  unfold decM4 at h ⊢
  split
  · rfl
  rename_i h1
  rw [if_neg h1] at h
  unfold decM5 at h ⊢
  split
  · rfl
  split
  · rfl
  split
  · rfl
  rename_i h1 h2 h3
  rw [if_neg h1, if_neg h2, if_neg h3] at h
  exact absurd rfl h
end Go.Ck

set_option linter.unusedVariables false
set_option maxRecDepth 100000
set_option maxHeartbeats 400000
namespace Go.Ck
open Go.Proofs
theorem manP_mk (v : Nat) (p : List Nat) (es : List Ent) (r : List Nat) : manP ⟨v, p, es, r⟩ = .agg [.int .u64 (v : Int), .sl 1 (bytes p), .sl 2 (entsP es), .sl 1 (bytes r)] := rfl
end Go.Ck

set_option linter.unusedVariables false
namespace Go.Ck
theorem take_lt {a b : List Nat} {j : Nat} (h : j < a.length) : (a ++ b).take j = a.take j := List.take_append_of_le_length (by omega)
theorem take_ge {a b : List Nat} {j : Nat} (h : ¬ j < a.length) : (a ++ b).take j = a ++ b.take (j - a.length) := take_app (by omega)
theorem cntD_app {n : Nat} (hn : n ≤ 1048576) (r : List Nat) : cntD (leb n ++ r) = (n, 0, r) := by
  unfold cntD
  rw [readV_leb (by omega)]
  simp only [ne_eq, not_true_eq_false, if_false, List.drop_left]
  rw [if_neg (by omega)]
theorem cntD_cut {n : Nat} (hn : n ≤ 1048576) (r : List Nat) {j : Nat} (hj : j < (leb n).length) : (cntD ((leb n ++ r).take j)).2.1 = 2 := by
  have h := leb_cut (v := n) (by omega) r hj
  unfold cntD
  rw [if_pos (by rw [h]; decide)]
  exact h
theorem okT_of_pair {acc ss : List (List UInt8)} {s : List UInt8} (h : (acc ++ s :: ss).Pairwise (· < ·)) : okT acc s = true := by
  cases hl : acc.getLast? with
  | none => unfold okT; rw [hl]
  | some l =>
    rw [okT_last s hl]
    have hm : l ∈ acc := List.mem_of_getLast? hl
    exact decide_eq_true ((List.pairwise_append.1 h).2.2 l hm s (by simp))
theorem tnD_app : ∀ (ss acc : List (List UInt8)) (r : List Nat), (acc ++ ss).Pairwise (· < ·) → (∀ s ∈ ss, s.length ≤ 64) → tnD ss.length acc (ss.flatMap blkS ++ r) = (acc ++ ss, 0, r)
  | [], acc, r, hp, hl => by simp [tnD]
  | s :: ss, acc, r, hp, hl => by
    have hs := hl s (by simp)
    have hb := blk_app (l := nb s) (m := 64) (by rw [nb_len]; exact hs) (by rw [nb_len]; omega) (ss.flatMap blkS ++ r)
    have e : (s :: ss).flatMap blkS ++ r = leb (nb s).length ++ nb s ++ (ss.flatMap blkS ++ r) := by rw [List.flatMap_cons, blkS, nb_len, List.append_assoc]
    rw [List.length_cons, tnD, e, hb]
    simp only [ne_eq, not_true_eq_false, if_false]
    rw [ub_nb, if_pos (okT_of_pair hp), tnD_app ss (acc ++ [s]) r (by simpa using hp) (fun t ht => hl t (by simp [ht]))]
    simp
theorem tnD_cut : ∀ (ss acc : List (List UInt8)) (j : Nat), (acc ++ ss).Pairwise (· < ·) → (∀ s ∈ ss, s.length ≤ 64) → j < (ss.flatMap blkS).length → (tnD ss.length acc ((ss.flatMap blkS).take j)).2.1 = 2
  | [], acc, j, hp, hl, hj => by simp at hj
  | s :: ss, acc, j, hp, hl, hj => by
    have hs := hl s (by simp)
    have e : (s :: ss).flatMap blkS = leb (nb s).length ++ nb s ++ ss.flatMap blkS := by rw [List.flatMap_cons, blkS, nb_len]
    rw [e] at hj ⊢
    rw [List.length_cons, tnD]
    by_cases h : j < (leb (nb s).length ++ nb s).length
    · have := blk_cut (l := nb s) (m := 64) (by rw [nb_len]; exact hs) (by rw [nb_len]; omega) (ss.flatMap blkS) h
      rw [if_pos (by rw [this]; decide)]
      exact this
    · rw [take_ge h, blk_app (l := nb s) (m := 64) (by rw [nb_len]; exact hs) (by rw [nb_len]; omega)]
      simp only [ne_eq, not_true_eq_false, if_false]
      rw [ub_nb, if_pos (okT_of_pair hp)]
      exact tnD_cut ss (acc ++ [s]) _ (by simpa using hp) (fun t ht => hl t (by simp [ht])) (by rw [List.length_append] at hj; omega)
theorem tensD_app {ts : List (List UInt8)} (hn : ts.length ≤ 1048576) (hp : ts.Pairwise (· < ·)) (hl : ∀ s ∈ ts, s.length ≤ 64) (r : List Nat) : tensD (leb ts.length ++ ts.flatMap blkS ++ r) = (ts, 0, r) := by
  unfold tensD
  rw [List.append_assoc, cntD_app hn]
  simp only [ne_eq, not_true_eq_false, if_false]
  rw [tnD_app ts [] r (by simpa using hp) hl]
  rfl
theorem tensD_cut {ts : List (List UInt8)} (hn : ts.length ≤ 1048576) (hp : ts.Pairwise (· < ·)) (hl : ∀ s ∈ ts, s.length ≤ 64) {j : Nat} (hj : j < (leb ts.length ++ ts.flatMap blkS).length) : (tensD ((leb ts.length ++ ts.flatMap blkS).take j)).2.1 = 2 := by
  unfold tensD
  by_cases h : j < (leb ts.length).length
  · have := cntD_cut hn (ts.flatMap blkS) h
    rw [if_pos (by rw [this]; decide)]
    exact this
  · rw [take_ge h, cntD_app hn]
    simp only [ne_eq, not_true_eq_false, if_false]
    exact tnD_cut ts [] _ (by simpa using hp) hl (by rw [List.length_append] at hj; omega)
def entOK (ts : List (List UInt8)) (e : Ent) : Prop := e.1 ∈ ts ∧ 0 ≤ e.2 ∧ e.2 ≤ 8
theorem entD_eq {ts : List (List UInt8)} {e : Ent} (h : entOK ts e) : entD (ts.getD (ts.idxOf e.1) []) e.2.toNat = e := by
  have hi := List.idxOf_lt_length_of_mem h.1
  rw [List.getD_eq_getElem?_getD, List.getElem?_eq_getElem hi, Option.getD_some, List.getElem_idxOf hi]
  unfold entD
  have := h.2.1
  rw [Int.toNat_of_nonneg this]
theorem enD_app {ts : List (List UInt8)} (hn : ts.length ≤ 1048576) : ∀ (es acc : List Ent) (r : List Nat), (∀ e ∈ es, entOK ts e) → enD ts es.length acc (es.flatMap (entB ts) ++ r) = (acc ++ es, 0, r)
  | [], acc, r, h => by simp [enD]
  | e :: es, acc, r, h => by
    have he := h e (by simp)
    have hi := List.idxOf_lt_length_of_mem he.1
    have h8 := he.2.2
    have eq : (e :: es).flatMap (entB ts) ++ r = leb (ts.idxOf e.1) ++ (e.2.toNat :: (es.flatMap (entB ts) ++ r)) := by rw [List.flatMap_cons, entB]; simp
    rw [List.length_cons, enD, eq, readV_leb (by omega)]
    simp only [ne_eq, not_true_eq_false, if_false, List.drop_left, List.headD_cons, List.drop_succ_cons, List.drop_zero, List.length_cons]
    rw [if_neg (by omega), if_neg (by omega), if_neg (by omega), entD_eq he, enD_app hn es (acc ++ [e]) r (fun x hx => h x (by simp [hx]))]
    simp
theorem enD_cut {ts : List (List UInt8)} (hn : ts.length ≤ 1048576) : ∀ (es acc : List Ent) (j : Nat), (∀ e ∈ es, entOK ts e) → j < (es.flatMap (entB ts)).length → (enD ts es.length acc ((es.flatMap (entB ts)).take j)).2.1 = 2
  | [], acc, j, h, hj => by simp at hj
  | e :: es, acc, j, h, hj => by
    have he := h e (by simp)
    have hi := List.idxOf_lt_length_of_mem he.1
    have h8 := he.2.2
    have eq : (e :: es).flatMap (entB ts) = leb (ts.idxOf e.1) ++ (e.2.toNat :: es.flatMap (entB ts)) := by rw [List.flatMap_cons, entB]; simp
    rw [eq] at hj ⊢
    rw [List.length_cons, enD]
    by_cases h1 : j < (leb (ts.idxOf e.1)).length
    · have := leb_cut (v := ts.idxOf e.1) (by omega) (e.2.toNat :: es.flatMap (entB ts)) h1
      rw [if_pos (by rw [this]; decide)]
      exact this
    · rw [take_ge h1, readV_leb (by omega)]
      simp only [ne_eq, not_true_eq_false, if_false, List.drop_left]
      rw [if_neg (by omega)]
      rw [List.length_append] at hj
      cases hk : j - (leb (ts.idxOf e.1)).length with
      | zero => simp
      | succ k =>
        rw [List.take_succ_cons]
        simp only [List.headD_cons, List.drop_succ_cons, List.drop_zero, List.length_cons]
        rw [if_neg (by omega), if_neg (by omega), entD_eq he]
        exact enD_cut hn es (acc ++ [e]) k (fun x hx => h x (by simp [hx])) (by simp only [List.length_cons] at hj; omega)
theorem entsD_app {ts : List (List UInt8)} (hn : ts.length ≤ 1048576) {es : List Ent} (hl : es.length ≤ 1048576) (h : ∀ e ∈ es, entOK ts e) (r : List Nat) : entsD ts (leb es.length ++ es.flatMap (entB ts) ++ r) = (es, 0, r) := by
  unfold entsD
  rw [List.append_assoc, cntD_app hl]
  simp only [ne_eq, not_true_eq_false, if_false]
  rw [enD_app hn es [] r h]
  rfl
theorem entsD_cut {ts : List (List UInt8)} (hn : ts.length ≤ 1048576) {es : List Ent} (hl : es.length ≤ 1048576) (h : ∀ e ∈ es, entOK ts e) {j : Nat} (hj : j < (leb es.length ++ es.flatMap (entB ts)).length) : (entsD ts ((leb es.length ++ es.flatMap (entB ts)).take j)).2.1 = 2 := by
  unfold entsD
  by_cases h1 : j < (leb es.length).length
  · have := cntD_cut hl (es.flatMap (entB ts)) h1
    rw [if_pos (by rw [this]; decide)]
    exact this
  · rw [take_ge h1, cntD_app hl]
    simp only [ne_eq, not_true_eq_false, if_false]
    exact enD_cut hn es [] _ h (by rw [List.length_append] at hj; omega)
theorem bodyM_assoc (m : Man) : bodyM m = [67, 83, 75, 49] ++ (beB m.v 8 ++ (m.prev ++ ((leb (dirS m.es).length ++ (dirS m.es).flatMap blkS) ++ ((leb m.es.length ++ m.es.flatMap (entB (dirS m.es))) ++ m.root)))) := by
  unfold bodyM headM; simp only [List.append_assoc]
theorem man_ok {m : Man} (h : wrongM m = 0) : (dirS m.es).length ≤ 1048576 ∧ (∀ s ∈ dirS m.es, s.length ≤ 64) ∧ m.es.length ≤ 1048576 ∧ ∀ e ∈ m.es, entOK (dirS m.es) e := by
  obtain ⟨w1, w2, w3, w4, w5, w6⟩ := wrongM_zero h
  have hnl : (dirS m.es).length ≤ m.es.length := by rw [dirS_len]; exact nmS_len _
  refine ⟨by omega, ?_, w5, fun e he => ⟨(dirS_mem m.es e.1).2 ⟨e, he, rfl⟩, w4 e he⟩⟩
  intro s hs
  obtain ⟨e, he, rfl⟩ := (dirS_mem m.es s).1 hs
  exact w6 e he
theorem decM_app {m : Man} (h : wrongM m = 0) (hv : m.v < 2 ^ 64) (r : List Nat) : decM (bodyM m ++ r) = if r ≠ [] then noM 3 else (m, 0) := by
  obtain ⟨w1, w2, w3, w4, w5, w6⟩ := wrongM_zero h
  obtain ⟨o1, o2, o3, o4⟩ := man_ok h
  have hb8 := beB_len m.v 8
  have hbv : beN (beB m.v 8) = m.v := by rw [beN_beB, Nat.mod_eq_of_lt (by omega)]
  rw [bodyM_assoc]
  simp only [List.append_assoc]
  have s1 : ∀ q : List Nat, decM ([67, 83, 75, 49] ++ q) = decM1 q := fun q => by
    unfold decM
    rw [if_neg (by simp), if_neg (by simp)]
    rfl
  have s2 : ∀ q : List Nat, decM1 (beB m.v 8 ++ q) = decM2 m.v q := fun q => by
    unfold decM1
    have t1 : (beB m.v 8 ++ q).take 8 = beB m.v 8 := by rw [List.take_append_of_le_length (by omega), List.take_of_length_le (by omega)]
    have t2 : (beB m.v 8 ++ q).drop 8 = q := by rw [List.drop_append_of_le_length (by omega), List.drop_of_length_le (by omega)]; rfl
    rw [if_neg (by simp [hb8]), t1, t2, hbv, if_neg w1]
  have s3 : ∀ q : List Nat, decM2 m.v (m.prev ++ q) = decM3 m.v m.prev q := fun q => by
    unfold decM2
    have t1 : (m.prev ++ q).take 32 = m.prev := by rw [List.take_append_of_le_length (by omega), List.take_of_length_le (by omega)]
    have t2 : (m.prev ++ q).drop 32 = q := by rw [List.drop_append_of_le_length (by omega), List.drop_of_length_le (by omega)]; rfl
    rw [if_neg (by simp [w2]), t1, t2]
  rw [s1, s2, s3, ← List.append_assoc (leb (dirS m.es).length)]
  unfold decM3
  rw [tensD_app o1 (dirS_sorted m.es) o2]
  simp only [ne_eq, not_true_eq_false, if_false]
  rw [← List.append_assoc (leb m.es.length)]
  unfold decM4
  rw [entsD_app o1 o3 o4]
  simp only [ne_eq, not_true_eq_false, if_false]
  unfold decM5
  have t1 : (m.root ++ r).take 32 = m.root := by rw [List.take_append_of_le_length (by omega), List.take_of_length_le (by omega)]
  have t2 : (m.root ++ r).drop 32 = r := by rw [List.drop_append_of_le_length (by omega), List.drop_of_length_le (by omega)]; rfl
  rw [if_neg (by simp [w3]), t1, t2]
  simp only [ne_eq, not_true_eq_false, if_false]
theorem decM_bodyM {m : Man} (h : wrongM m = 0) (hv : m.v < 2 ^ 64) : decM (bodyM m) = (m, 0) := by
  have := decM_app h hv []
  rw [List.append_nil] at this
  rw [this]; rfl
theorem decM_more {m : Man} (h : wrongM m = 0) (hv : m.v < 2 ^ 64) (x : Nat) : decM (bodyM m ++ [x]) = noM 3 := by
  rw [decM_app h hv, if_pos (by simp)]
theorem decM_cut {m : Man} (h : wrongM m = 0) (hv : m.v < 2 ^ 64) {k : Nat} (hk : k < (bodyM m).length) : (decM ((bodyM m).take k)).2 = 2 := by
  obtain ⟨w1, w2, w3, w4, w5, w6⟩ := wrongM_zero h
  obtain ⟨o1, o2, o3, o4⟩ := man_ok h
  have hb8 := beB_len m.v 8
  have hbv : beN (beB m.v 8) = m.v := by rw [beN_beB, Nat.mod_eq_of_lt (by omega)]
  rw [bodyM_assoc] at hk ⊢
  by_cases h1 : k < ([67, 83, 75, 49] : List Nat).length
  · rw [take_lt h1]
    unfold decM
    rw [if_pos (by rw [List.length_take]; simp at h1; simp; omega)]
    rfl
  rw [take_ge h1]
  rw [List.length_append] at hk
  have hk1 : k - ([67, 83, 75, 49] : List Nat).length < (beB m.v 8 ++ (m.prev ++ ((leb (dirS m.es).length ++ (dirS m.es).flatMap blkS) ++ ((leb m.es.length ++ m.es.flatMap (entB (dirS m.es))) ++ m.root)))).length := by omega
  generalize k - ([67, 83, 75, 49] : List Nat).length = k1 at *
  have s1 : ∀ q : List Nat, decM ([67, 83, 75, 49] ++ q) = decM1 q := fun q => by
    unfold decM
    rw [if_neg (by simp), if_neg (by simp)]
    rfl
  rw [s1]
  clear hk h1 s1
  by_cases h1 : k1 < (beB m.v 8).length
  · rw [take_lt h1]
    unfold decM1
    rw [if_pos (by rw [List.length_take]; omega)]
    rfl
  rw [take_ge h1]
  rw [List.length_append] at hk1
  have hk2 : k1 - (beB m.v 8).length < (m.prev ++ ((leb (dirS m.es).length ++ (dirS m.es).flatMap blkS) ++ ((leb m.es.length ++ m.es.flatMap (entB (dirS m.es))) ++ m.root))).length := by omega
  generalize k1 - (beB m.v 8).length = k2 at *
  have s2 : ∀ q : List Nat, decM1 (beB m.v 8 ++ q) = decM2 m.v q := fun q => by
    unfold decM1
    have t1 : (beB m.v 8 ++ q).take 8 = beB m.v 8 := by rw [List.take_append_of_le_length (by omega), List.take_of_length_le (by omega)]
    have t2 : (beB m.v 8 ++ q).drop 8 = q := by rw [List.drop_append_of_le_length (by omega), List.drop_of_length_le (by omega)]; rfl
    rw [if_neg (by simp [hb8]), t1, t2, hbv, if_neg w1]
  rw [s2]
  clear hk1 h1 s2
  by_cases h1 : k2 < m.prev.length
  · rw [take_lt h1]
    unfold decM2
    rw [if_pos (by rw [List.length_take]; omega)]
    rfl
  rw [take_ge h1]
  rw [List.length_append] at hk2
  have hk3 : k2 - m.prev.length < ((leb (dirS m.es).length ++ (dirS m.es).flatMap blkS) ++ ((leb m.es.length ++ m.es.flatMap (entB (dirS m.es))) ++ m.root)).length := by omega
  generalize k2 - m.prev.length = k3 at *
  have s3 : ∀ q : List Nat, decM2 m.v (m.prev ++ q) = decM3 m.v m.prev q := fun q => by
    unfold decM2
    have t1 : (m.prev ++ q).take 32 = m.prev := by rw [List.take_append_of_le_length (by omega), List.take_of_length_le (by omega)]
    have t2 : (m.prev ++ q).drop 32 = q := by rw [List.drop_append_of_le_length (by omega), List.drop_of_length_le (by omega)]; rfl
    rw [if_neg (by simp [w2]), t1, t2]
  rw [s3]
  clear hk2 h1 s3
  unfold decM3
  by_cases h1 : k3 < (leb (dirS m.es).length ++ (dirS m.es).flatMap blkS).length
  · rw [take_lt h1]
    have := tensD_cut o1 (dirS_sorted m.es) o2 h1
    rw [if_pos (by rw [this]; decide), this]
    rfl
  rw [take_ge h1, tensD_app o1 (dirS_sorted m.es) o2]
  rw [List.length_append] at hk3
  have hk4 : k3 - (leb (dirS m.es).length ++ (dirS m.es).flatMap blkS).length < ((leb m.es.length ++ m.es.flatMap (entB (dirS m.es))) ++ m.root).length := by omega
  generalize k3 - (leb (dirS m.es).length ++ (dirS m.es).flatMap blkS).length = k4 at *
  clear hk3 h1
  simp only [ne_eq, not_true_eq_false, if_false]
  unfold decM4
  by_cases h1 : k4 < (leb m.es.length ++ m.es.flatMap (entB (dirS m.es))).length
  · rw [take_lt h1]
    have := entsD_cut o1 o3 o4 h1
    rw [if_pos (by rw [this]; decide), this]
    rfl
  rw [take_ge h1, entsD_app o1 o3 o4]
  simp only [ne_eq, not_true_eq_false, if_false]
  unfold decM5
  rw [List.length_append] at hk4
  rw [if_pos (by rw [List.length_take]; omega)]
  rfl
end Go.Ck
