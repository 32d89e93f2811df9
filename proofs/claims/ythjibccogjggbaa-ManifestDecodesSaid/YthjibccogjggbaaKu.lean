/- What is proved here: parts of the proofs of this seat's statements (a verified evaluator for calls over pure values, its laws, and contracts of functions). No condition. -/
import Derived.Test.YthjibccogjggbaaKo
import Derived.Test.YthjibccogjggbaaKs
import Derived.Test.YthjibccogjggbaaKt
import Derived.Test.YthjibccogjggbaaKp
set_option linter.all false
set_option linter.unusedVariables false
set_option maxRecDepth 100000
set_option maxHeartbeats 400000
namespace Go.Ck
open Go.Proofs
abbrev rdO (s : RdS) : List (Nat × HO) := [(1000, .cells 70 [.pv (.sl 1 (bytes s.1)), .pv (.int .i64 s.2)])]
attribute [go_sem] rdO
theorem rdB_fn (s : RdS) (n : Nat) (hn : n < 2 ^ 63) (hl : s.1.length ≤ room) : Fn Try.prog 42 (rdO s) [.ptr 1000 0, .pv (.int .i64 n)]
    (fun rs H' => rs = [.pv (.sl 1 (bytes (rdB n s).1))] ∧ H' = rdO (rdB n s).2) := by
  obtain ⟨q, e⟩ := s
  refine Fn.of_body (fn := Try.f42) (n := 32) (res := [.tmp 4]) (by kernel_rfl) rfl rfl rfl rfl rfl (fun C => ?_)
  refine AW.go ?_
  refine AW.cond rfl (fun hc => ?_) (fun hc => ?_)
  · have he : e ≠ 0 := by simpa using hc
    rw [rdB_err (s := (q, e)) he]
    refine AW.go ?_
    refine AW.finE (.lend rfl co_5 .nil) rfl
  have he : e = 0 := by simpa using hc
  subst he
  unfold rdB
  rw [if_neg (by simp)]
  refine AW.go ?_
  refine AW.callE (fun _ => 0) (refBytes_fn q n hn hl) (.pv _ (.pv _ .nil)) ?_
  by_cases hq : n ≤ q.length
  · simp only [if_pos hq]
    refine AW.go ?_
    refine AW.finE (.lend rfl co_5 .nil) rfl
  · simp only [if_neg hq]
    refine AW.go ?_
    refine AW.finE (.lend rfl co_5 .nil) rfl
theorem rdN_fn (s : RdS) (ok : Bool) (x : Int) : Fn Try.prog 43 (rdO s) [.ptr 1000 0, .pv (.bool ok), .pv (.int .i64 x)]
    (fun rs H' => rs = [] ∧ H' = rdO (rdN ok x s)) := by
  obtain ⟨q, e⟩ := s
  refine Fn.of_body (fn := Try.f43) (n := 19) (res := []) (by kernel_rfl) rfl rfl rfl rfl rfl (fun C => ?_)
  by_cases he : e = 0
  · subst he
    have g0 : ((0 : Int) == 0) = true := rfl
    rw [rdN_ok]
    cases ok with
    | true =>
      refine AW.gg ?_ (by simp only [go_sem, ↓reduceIte, g0] <;> rfl)
      refine AW.condF rfl ?_
      refine AW.go ?_
      refine AW.finE .nil rfl
    | false =>
      refine AW.gg ?_ (by simp only [go_sem, ↓reduceIte, g0] <;> rfl)
      refine AW.condT rfl ?_
      refine AW.go ?_
      refine AW.finE .nil rfl
  · have g0 : (e == 0) = false := by rw [beq_eq_false_iff_ne]; exact he
    rw [rdN_err (s := (q, e)) he]
    refine AW.gg ?_ (by simp only [go_sem, ↓reduceIte, g0] <;> rfl)
    refine AW.condF rfl ?_
    refine AW.go ?_
    refine AW.finE .nil rfl
theorem rdV_fn (s : RdS) (hl : s.1.length ≤ room) (hb : ∀ x ∈ s.1, x < 256) : Fn Try.prog 45 (rdO s) [.ptr 1000 0]
    (fun rs H' => rs = [.pv (.int .u64 (rdV s).1)] ∧ H' = rdO (rdV s).2) := by
  obtain ⟨q, e⟩ := s
  refine Fn.of_body (fn := Try.f45) (n := 29) (res := [.tmp 2]) (by kernel_rfl) rfl rfl rfl rfl rfl (fun C => ?_)
  refine AW.go ?_
  refine AW.cond rfl (fun hc => ?_) (fun hc => ?_)
  · have he : e ≠ 0 := by simpa using hc
    rw [rdV_err (s := (q, e)) he]
    refine AW.go ?_
    refine AW.finE (.pv _ .nil) rfl
  have he : e = 0 := by simpa using hc
  subst he
  rw [rdV_ok]
  refine AW.go ?_
  refine AW.callE (fun _ => 0) (refVarint_fn q hl hb) (.pv _ .nil) ?_
  refine AW.go ?_
  refine AW.finE (.pv _ .nil) rfl
theorem rdB_len {n : Nat} {s : RdS} : (rdB n s).2.1.length ≤ s.1.length := by
  unfold rdB; split
  · exact Nat.le_refl _
  · split
    · simp only [List.length_drop]; omega
    · exact Nat.le_refl _
theorem rdB_byte {n : Nat} {s : RdS} (h : ∀ x ∈ s.1, x < 256) : (∀ x ∈ (rdB n s).2.1, x < 256) ∧ ∀ x ∈ (rdB n s).1, x < 256 := by
  unfold rdB; split
  · exact ⟨h, by simp⟩
  · split
    · exact ⟨fun x hx => h x (List.mem_of_mem_drop hx), fun x hx => h x (List.mem_of_mem_take hx)⟩
    · exact ⟨h, by simp⟩
theorem rdB_take {n : Nat} {s : RdS} : (rdB n s).1.length ≤ n := by
  unfold rdB; split
  · simp
  · split
    · rw [List.length_take]; omega
    · simp
theorem rdN_len {ok : Bool} {e : Int} {s : RdS} : (rdN ok e s).1 = s.1 := by
  unfold rdN; split <;> rfl
theorem rdV_len {s : RdS} : (rdV s).2.1.length ≤ s.1.length := by
  unfold rdV; split
  · exact Nat.le_refl _
  · simp only [List.length_drop]; omega
theorem rdV_byte {s : RdS} (h : ∀ x ∈ s.1, x < 256) : (∀ x ∈ (rdV s).2.1, x < 256) ∧ (rdV s).1 < 2 ^ 64 := by
  unfold rdV; split
  · exact ⟨h, Nat.two_pow_pos 64⟩
  · exact ⟨fun x hx => h x (List.mem_of_mem_drop hx), readV_lt h⟩
theorem rdT_le {n : Nat} {acc : List (List UInt8)} {s : RdS} (hn : n ≤ 0 ∨ s.2 ≠ 0) : rdT n acc s = (acc, s) := by
  rcases hn with h | h
  · obtain rfl : n = 0 := by omega
    rfl
  · exact rdT_err n acc h
theorem rdD_fn (s : RdS) (hl : s.1.length ≤ 2 ^ 40) (hb : ∀ x ∈ s.1, x < 256) : Fn Try.prog 44 (rdO s) [.ptr 1000 0]
    (fun rs H' => rs = [.pv (.sl 1 (strs (rdD s).1))] ∧ H' = rdO (rdD s).2) := by
  refine Fn.of_body (fn := Try.f44) (n := 66) (res := [.tmp 2]) (by kernel_rfl) rfl rfl rfl rfl rfl (fun C => ?_)
  have hr : room = 140737488355328 := rfl
  have h1 := rdV_len (s := s)
  obtain ⟨h2, h3⟩ := rdV_byte hb
  refine AW.go ?_
  refine AW.callE id (rdV_fn s (by omega) hb) (.ptr rfl .nil) ?_
  have e0 : rdD s = rdT (rdV s).1 [] (rdN (decide ((rdV s).1 ≤ 1048576)) 4 (rdV s).2) := rfl
  rw [e0]
  clear e0
  generalize rdV s = V at *
  obtain ⟨n, s1⟩ := V
  simp only at h1 h2 h3 ⊢
  have d1 : decide ((n : Int) ≤ 1048576) = decide (n ≤ 1048576) := by rw [Bool.eq_iff_iff]; simp; omega
  refine AW.go ?_ (by simp only [go_sem, ↓reduceIte, d1] <;> rfl)
  refine AW.callE id (rdN_fn s1 (decide (n ≤ 1048576)) 4) (.ptr rfl (.pv _ (.pv _ .nil))) ?_
  have h4 : (rdN (decide (n ≤ 1048576)) 4 s1).2 = 0 → n ≤ 1048576 := fun h => by
    by_cases hn : n ≤ 1048576
    · exact hn
    · unfold rdN at h
      rw [decide_eq_false hn] at h
      split at h
      · simp at h
      · rename_i h5; exact absurd ⟨h, rfl⟩ h5
  have h5 : (rdN (decide (n ≤ 1048576)) 4 s1).1.length ≤ s1.1.length := by rw [rdN_len]; exact Nat.le_refl _
  have h6 : ∀ x ∈ (rdN (decide (n ≤ 1048576)) 4 s1).1, x < 256 := by rw [rdN_len]; exact h2
  generalize rdN (decide (n ≤ 1048576)) 4 s1 = s2 at *
  refine AW.go ?_
  refine AW.loopS (fun a : List (List UInt8) × RdS => ⟨66, [(5, .pv (.int .u64 a.1.length)), (3, .pv (.int .u64 n)), (0, .ptr 1000 0), (4, .own 9 (strs a.1))], [(1000, .cells 70 [.pv (.sl 1 (bytes a.2.1)), .pv (.int .i64 a.2.2)])]⟩) (fun a => a.1.length ≤ n ∧ rdT (n - a.1.length) a.1 a.2 = rdT n [] s2 ∧ (∀ x ∈ a.2.1, x < 256) ∧ a.2.1.length ≤ s2.1.length ∧ (a.2.2 = 0 → n ≤ 1048576)) (fun a => n - a.1.length) [5, 3, 0, 4] [1000] ([], s2) ⟨Nat.zero_le _, rfl, h6, Nat.le_refl _, h4⟩ ?_
  rintro ⟨acc, ⟨q, e⟩⟩ ⟨hi, htn, hqb, hql, hn⟩ K hK
  simp only at hi htn hqb hql hn
  by_cases hc : acc.length < n ∧ e = 0
  · obtain ⟨hlt, he⟩ := hc
    subst he
    have hn := hn rfl
    obtain ⟨m, hm⟩ : ∃ m, n - acc.length = m + 1 := ⟨n - acc.length - 1, by omega⟩
    have e0 : rdT (m + 1) acc (q, 0) = rdT m (acc ++ [ub (blk q 64).1]) (rdN (okT acc (ub (blk q 64).1)) 3 ((blk q 64).2.2, (blk q 64).2.1)) := by conv => lhs; unfold rdT; rw [if_neg (by simp)]
    rw [hm, e0] at htn
    clear e0
    have d1 : decide ((acc.length : Int) < (n : Int)) = true := decide_eq_true (by omega)
    have d1' : decide (acc.length < n) = true := decide_eq_true (by omega)
    have g0 : ((0 : Int) == 0) = true := rfl
    obtain ⟨hbb, hrb, _, hrl⟩ := blk_byte (m := 64) hqb
    refine AW.gg ?_ (by simp only [go_sem, ↓reduceIte, g0, d1, d1'] <;> rfl)
    refine AW.condT rfl ?_
    refine AW.go ?_
    refine AW.callE (fun _ => 0) (refBlock_fn q 64 (by decide) (by omega) hqb) (.pv _ (.pv _ .nil)) ?_
    generalize blk q 64 = B at *
    obtain ⟨b, e, r⟩ := B
    simp only at htn hbb hrb hrl
    have r1 : ((acc.length + 1) * 16 ≤ room) = True := eq_true (by omega)
    have r2 : (acc.length + 1 ≤ room) = True := eq_true (by omega)
    have ei : IntKind.u64.wrap ((acc.length : Int) + 1) = ((acc.length + 1 : Nat) : Int) := wrap_u64_lt (n := acc.length + 1) (by omega)
    have hsn := strs_snoc acc (ub b)
    have hlen : (acc ++ [ub b]).length = acc.length + 1 := by simp
    refine AW.go ?_
    refine AW.freeze (p := .slot 6) (by simp only [go_sem, ↓reduceIte, freeze, freezeO] <;> rfl) ?_
    refine via (T := ?Tok) (fun hT => ?_) ?_; rotate_left
    · by_cases hA : acc = []
      · have d0 : decide (acc.length = 0) = true := by rw [hA]; rfl
        have d0' : (((acc.length : Nat) : Int) == 0) = true := by rw [hA]; rfl
        have d0'' : (acc.length == 0) = true := by rw [hA]; rfl
        have hok : okT acc (ub b) = true := by rw [hA]; rfl
        refine AW.srTail 15 mixed (by decide +kernel) ?_ (by simp only [go_sem, ↓reduceIte, d0, d0', d0'', List.take_succ_cons, List.take_zero] <;> rfl)
        refine AW.go ?_
        refine AW.callE id (rdN_fn (r, e) true 3) (.ptr rfl (.pv _ (.pv _ .nil))) ?_
        rw [← hok]
        refine AW.keepB [5, 3, 0, 4, 6] [1000] (s' := ⟨66, [(5, .pv (.int .u64 acc.length)), (3, .pv (.int .u64 n)), (0, .ptr 1000 0), (4, .own 9 (strs acc)), (6, .pv (.sl 1 (bytes b)))], [(1000, .cells 70 [.pv (.sl 1 (bytes (rdN (okT acc (ub b)) 3 (r, e)).1)), .pv (.int .i64 (rdN (okT acc (ub b)) 3 (r, e)).2)])]⟩) (by simp only [go_sem, ↓reduceIte]) (by simp only [go_sem, ↓reduceIte] <;> rfl) ?_
        exact hT ()
      · obtain ⟨l, hl⟩ : ∃ l, acc.getLast? = some l := ⟨acc.getLast hA, List.getLast?_eq_some_getLast hA⟩
        have hpos : 0 < acc.length := List.length_pos_iff.2 hA
        have hok := okT_last (ub b) hl
        rw [List.getLast?_eq_getElem?] at hl
        have hg := strs_get hl
        have hll : (acc.length - 1 < acc.length) = True := eq_true (by omega)
        have ej : IntKind.i64.wrap ((acc.length : Int) - 1) = ((acc.length - 1 : Nat) : Int) := by rw [wrap_i64_of (by omega) (by omega)]; omega
        have d0 : decide (acc.length = 0) = false := decide_eq_false (by omega)
        have d0' : (((acc.length : Nat) : Int) == 0) = false := by rw [beq_eq_false_iff_ne]; omega
        have d0'' : (acc.length == 0) = false := by rw [beq_eq_false_iff_ne]; omega
        have hbl : Op.bytesLess l (ub b) = okT acc (ub b) := by rw [bytesLess_eq, hok]
        refine AW.srTail 15 mixed (by decide +kernel) ?_ (by simp only [go_sem, ↓reduceIte, d0, d0', d0'', ej, hg, hll, numsOf_byt, ofNums_ub, hbl, List.take_succ_cons, List.take_zero] <;> rfl)
        refine AW.go ?_
        refine AW.callE id (rdN_fn (r, e) (okT acc (ub b)) 3) (.ptr rfl (.pv _ (.pv _ .nil))) ?_
        refine AW.keepB [5, 3, 0, 4, 6] [1000] (s' := ⟨66, [(5, .pv (.int .u64 acc.length)), (3, .pv (.int .u64 n)), (0, .ptr 1000 0), (4, .own 9 (strs acc)), (6, .pv (.sl 1 (bytes b)))], [(1000, .cells 70 [.pv (.sl 1 (bytes (rdN (okT acc (ub b)) 3 (r, e)).1)), .pv (.int .i64 (rdN (okT acc (ub b)) 3 (r, e)).2)])]⟩) (by simp only [go_sem, ↓reduceIte]) (by simp only [go_sem, ↓reduceIte] <;> rfl) ?_
        exact hT ()
    have hr1 : (rdN (okT acc (ub b)) 3 (r, e)).1 = r := rdN_len
    generalize rdN (okT acc (ub b)) 3 (r, e) = s3 at *
    refine AW.go ?_ (by simp only [go_sem, ↓reduceIte, numsOf_byt, ofNums_ub, r1, r2, ei, hsn, List.length_cons, List.length_nil, Nat.zero_add] <;> rfl)
    refine AW.again hK (acc ++ [ub b], s3) ⟨by rw [hlen]; omega, ?_, by rw [hr1]; exact hrb, by rw [hr1]; omega, fun _ => hn⟩ (by simp only [hlen]; omega) (hs := by simp only [go_sem, ↓reduceIte, hlen] <;> rfl)
    rw [← htn]
    simp only [hlen]
    congr 1
    omega
  have hfin : rdT n [] s2 = (acc, (q, e)) := by
    rw [← htn]; exact rdT_le (by by_cases h : e = 0; exact .inl (by have := fun k => hc ⟨k, h⟩; omega); exact .inr h)
  rw [hfin]
  have hd : (decide ((acc.length : Int) < (n : Int)) && (e == 0)) = false := by
    by_cases h : acc.length < n
    · rw [Bool.and_eq_false_iff]; exact .inr (beq_eq_false_iff_ne.2 (fun k => hc ⟨h, k⟩))
    · rw [Bool.and_eq_false_iff]; exact .inl (decide_eq_false (by omega))
  refine via (T := ?Tend) (fun hT => ?_) ?_; rotate_left
  · by_cases hlt : acc.length < n
    · have d1 : decide ((acc.length : Int) < (n : Int)) = true := decide_eq_true (by omega)
      have d1' : decide (acc.length < n) = true := decide_eq_true (by omega)
      have g0 : (e == 0) = false := beq_eq_false_iff_ne.2 (fun k => hc ⟨hlt, k⟩)
      refine AW.gg ?_ (by simp only [go_sem, ↓reduceIte, g0, d1, d1'] <;> rfl)
      refine AW.keepB [24, 4] [1000] (s' := ⟨66, [(24, .pv (.bool false)), (4, .own 9 (strs acc))], [(1000, .cells 70 [.pv (.sl 1 (bytes q)), .pv (.int .i64 e)])]⟩) (by simp only [go_sem, ↓reduceIte]) (by simp only [go_sem, ↓reduceIte] <;> rfl) ?_
      exact hT ()
    · have d1 : decide ((acc.length : Int) < (n : Int)) = false := decide_eq_false (by omega)
      have d1' : decide (acc.length < n) = false := decide_eq_false (by omega)
      refine AW.gg ?_ (by simp only [go_sem, ↓reduceIte, d1, d1'] <;> rfl)
      refine AW.keepB [24, 4] [1000] (s' := ⟨66, [(24, .pv (.bool false)), (4, .own 9 (strs acc))], [(1000, .cells 70 [.pv (.sl 1 (bytes q)), .pv (.int .i64 e)])]⟩) (by simp only [go_sem, ↓reduceIte]) (by simp only [go_sem, ↓reduceIte] <;> rfl) ?_
      exact hT ()
  refine AW.condF rfl ?_
  refine AW.freeze (p := .slot 4) (by simp only [go_sem, ↓reduceIte, freeze, freezeO] <;> rfl) ?_
  refine AW.go ?_
  refine AW.finE (.pv _ .nil) rfl
theorem rdT_both : ∀ (n : Nat) (acc : List (List UInt8)) (s : RdS), (∀ x ∈ s.1, x < 256) → (rdT n acc s).2.1.length ≤ s.1.length ∧ (∀ x ∈ (rdT n acc s).2.1, x < 256) ∧ (rdT n acc s).1.length ≤ acc.length + n
  | 0, acc, s, h => ⟨Nat.le_refl _, h, Nat.le_refl _⟩
  | n + 1, acc, s, h => by
    obtain ⟨h1, h2, h3, h4⟩ := blk_byte (m := 64) h
    unfold rdT
    split
    · exact ⟨Nat.le_refl _, h, Nat.le_add_right _ _⟩
    · have hr := rdN_len (ok := okT acc (ub (blk s.1 64).1)) (e := 3) (s := ((blk s.1 64).2.2, (blk s.1 64).2.1))
      obtain ⟨k1, k2, k3⟩ := rdT_both n (acc ++ [ub (blk s.1 64).1]) (rdN (okT acc (ub (blk s.1 64).1)) 3 ((blk s.1 64).2.2, (blk s.1 64).2.1)) (by rw [hr]; exact h2)
      rw [hr] at k1
      rw [List.length_append, List.length_singleton] at k3
      simp only at k1
      exact ⟨by omega, k2, by omega⟩
theorem rdD_len (s : RdS) (h : ∀ x ∈ s.1, x < 256) : (rdD s).2.1.length ≤ s.1.length := by
  have h1 := (rdV_byte h).1
  have h2 := rdV_len (s := s)
  have h3 := rdN_len (ok := decide ((rdV s).1 ≤ 1048576)) (e := 4) (s := (rdV s).2)
  have := (rdT_both (rdV s).1 [] (rdN (decide ((rdV s).1 ≤ 1048576)) 4 (rdV s).2) (by rw [h3]; exact h1)).1
  rw [h3] at this
  unfold rdD; omega
theorem rdD_byte (s : RdS) (h : ∀ x ∈ s.1, x < 256) : ∀ x ∈ (rdD s).2.1, x < 256 := by
  have h1 := (rdV_byte h).1
  have h3 := rdN_len (ok := decide ((rdV s).1 ≤ 1048576)) (e := 4) (s := (rdV s).2)
  exact (rdT_both (rdV s).1 [] (rdN (decide ((rdV s).1 ≤ 1048576)) 4 (rdV s).2) (by rw [h3]; exact h1)).2.1
theorem rdT_n : ∀ (n : Nat) (acc : List (List UInt8)) (s : RdS), (rdT n acc s).1.length ≤ acc.length + n
  | 0, acc, s => Nat.le_refl _
  | n + 1, acc, s => by
    unfold rdT
    split
    · simp only; omega
    · have := rdT_n n (acc ++ [ub (blk s.1 64).1]) (rdN (okT acc (ub (blk s.1 64).1)) 3 ((blk s.1 64).2.2, (blk s.1 64).2.1))
      rw [List.length_append, List.length_singleton] at this; omega
theorem rdD_n (s : RdS) : (rdD s).1.length ≤ 1048576 := by
  unfold rdD
  by_cases h : (rdN (decide ((rdV s).1 ≤ 1048576)) 4 (rdV s).2).2 = 0
  · have h1 := of_decide_eq_true (rdN_zero (by decide) h).2
    have := rdT_n (rdV s).1 [] (rdN (decide ((rdV s).1 ≤ 1048576)) 4 (rdV s).2)
    simp only [List.length_nil] at this; omega
  · rw [rdT_err _ _ h]; simp
end Go.Ck

set_option linter.unusedVariables false
set_option maxRecDepth 100000
set_option maxHeartbeats 400000
namespace Go.Ck
open Go.Proofs
attribute [go_sem] hO
theorem hSum_fn (h : HS) (m : List Nat) (hc : HC m h) (hm : m.length < 2 ^ 59) : Fn Try.prog 101 (hO h) [.ptr 1000 0] (fun rs H' => rs = [.own 5 (bytes (sha m))] ∧ H' = hO h) := by
  refine Fn.of_body (fn := Try.f101) (n := 43) (res := [.tmp 2]) (by kernel_rfl) rfl rfl rfl rfl rfl (fun C => ?_)
  have hroom : room = 140737488355328 := rfl
  have hsha : sha m = by8 (wr h (endP m.length)).s := by
    have := (hc.wr (b := endP m.length))
    rw [this.1.s this.2]; rfl
  rw [hsha]
  obtain ⟨hp, hn, _, _, _⟩ := hc
  rw [← hn] at hm ⊢
  unfold hO
  have hlen := hsC_len hp
  have hgn := hsC_n hp
  refine AW.go ?_
  refine AW.condF rfl ?_
  refine AW.goM 9 ?_
  refine AW.loadP (off := 0) (ps := hsP h) rfl rfl ?_ ?_ (hT := by rw [hsP_len hp]; exact tsh_135) (hle := by rw [hsP_len hp, hlen]; decide)
  · rw [hsP_len hp, take_all _ _ hlen]; rfl
  refine AW.goN 1 ?_
  refine AW.storeP (off := 0) (ps := hsP h) rfl rfl rfl ?_ ?_ (hT := by rw [hsP_len hp]; exact tsh_135) (h1 := hsP_one h)
  · rw [hsP_len hp]; decide
  rw [setCells_all _ _ (by rw [List.length_map, hsP_len hp]; rfl), ← hsC_P]
  refine AW.keepB [3] [3, 1000] (by simp only [go_sem, ↓reduceIte]) (by simp only [go_sem, ↓reduceIte] <;> rfl) ?_
  have l73 : (73 < 74) = True := eq_true (by decide)
  refine AW.go ?_ (by simp only [go_sem, ↓reduceIte, hgn, hlen, l73] <;> rfl)
  refine AW.loopS (fun j : Nat => ⟨43, [(4, .pv (.int .i64 h.n)), (3, .ptr 3 0), (5, .own 5 (bytes (128 :: List.replicate j 0)))], [(3, .cells 135 (hsC h)), (1000, .cells 135 (hsC h))]⟩) (fun j => j ≤ zpad h.n) (fun j => zpad h.n - j) [4, 3, 5] [3, 1000] 0 (Nat.zero_le _) ?_
  rintro j hj K hK
  have hzp : zpad h.n = (119 - h.n % 64) % 64 := rfl
  have hql : (128 :: List.replicate j 0).length = j + 1 := by simp
  have hqn : (128 :: List.replicate j 0) ++ [0] = 128 :: List.replicate (j + 1) 0 := by rw [List.replicate_succ']; rfl
  generalize hqq : 128 :: List.replicate j 0 = q at *
  have e1 : IntKind.i64.wrap ((h.n : Int) + ((j + 1 : Nat) : Int)) = ((h.n + (j + 1) : Nat) : Int) := by rw [wrap_i64_of (by omega) (by omega)]; omega
  have e2 : ((h.n + (j + 1) : Nat) : Int).tmod 64 = (((h.n + (j + 1)) % 64 : Nat) : Int) := rfl
  refine AW.go ?_ (by simp only [go_sem, ↓reduceIte, hql, e1, e2] <;> rfl)
  refine AW.cond rfl (fun hc => ?_) (fun hc => ?_)
  · have hne : (h.n + (j + 1)) % 64 ≠ 56 := by
      intro h
      rw [h] at hc
      exact absurd hc (by decide)
    have r1 : q.length + 1 ≤ room := by omega
    have r2 : j + 1 + 1 ≤ room := by omega
    refine AW.go ?_ (by simp only [go_sem, ↓reduceIte, bytes_snoc0, hql, r1, r2] <;> rfl)
    exact AW.again hK (j + 1) (by omega) (by omega) (hs := by simp only [go_sem, ↓reduceIte, hqn] <;> rfl)
  have hjz : j = zpad h.n := by
    have : (h.n + (j + 1)) % 64 = 56 := by
      have h2 : ((((h.n + (j + 1)) % 64 : Nat) : Int) == 56) = true := by simpa [bne] using hc
      have := eq_of_beq h2
      omega
    omega
  subst hjz
  refine AW.go ?_
  have ew : IntKind.u64.wrap (h.n : Int) = (h.n : Int) := wrap_u64_lt (by omega)
  have em : IntKind.u64.wrap ((h.n : Int) * 8) = ((h.n * 8 : Nat) : Int) := by rw [show (h.n : Int) * 8 = ((h.n * 8 : Nat) : Int) by omega]; exact wrap_u64_lt (by omega)
  refine AW.loopS (fun i : Nat => ⟨43, [(4, .pv (.int .i64 h.n)), (3, .ptr 3 0), (6, .pv (.int .i64 (56 - 8 * (i : Int)))), (5, .own 5 (bytes (encE q (h.n * 8) i)))], [(3, .cells 135 (hsC h)), (1000, .cells 135 (hsC h))]⟩) (fun i => i ≤ 8) (fun i => 8 - i) [4, 3, 6, 5] [3, 1000] 0 (Nat.zero_le _) ?_ (hs := by simp only [go_sem, ↓reduceIte, encE0] <;> rfl)
  rintro i hi K2 hK2
  have hel := encE_len q (h.n * 8) i hi
  have r3 : (encE q (h.n * 8) i).length + 1 ≤ room := by omega
  have hcase : i = 8 ∨ i = 0 ∨ i = 1 ∨ i = 2 ∨ i = 3 ∨ i = 4 ∨ i = 5 ∨ i = 6 ∨ i = 7 := by omega
  rcases hcase with rfl | hcase
  · refine AW.go ?_
    refine AW.condF rfl ?_
    have hqe : q ++ be8 (h.n * 8) = endP h.n := by rw [← hqq]; rfl
    rw [encE8, hqe]
    refine AW.go ?_
    have hel2 : h.n + (endP h.n).length < 2 ^ 60 := by rw [endP_len]; omega
    refine AW.callE (args := [.ptr 1000 0, .pv (.sl 1 (bytes (endP h.n)))]) (fun _ => 3) (Write_fn h (endP h.n) hp hel2) (.ptr rfl (.lend rfl co_5 .nil)) ?_
    have hlw : (hsC (wr h (endP h.n))).length = 74 := hsC_len (wr_len hp _)
    have hsw := hsC_s (wr h (endP h.n))
    have l18 : (1 + 8 ≤ 74) = True := eq_true (by decide)
    refine AW.go ?_ (by simp only [go_sem, ↓reduceIte, hlw, hsw, l18] <;> rfl)
    refine AW.callE (fun _ => 0) (bytesW_fn (wr h (endP h.n)).s) (.pv _ .nil) ?_
    refine AW.go ?_
    refine AW.finE (.move rfl .nil) rfl
  generalize h.n * 8 = v at *
  rcases hcase with rfl | rfl | rfl | rfl | rfl | rfl | rfl | rfl
  all_goals
    refine AW.go ?_ (by simp only [go_sem, ↓reduceIte, nc0, nc1, nc2, nc3, nc4, nc5, nc6, nc7, Int.reduceMul, Int.reduceSub] <;> rfl)
    refine AW.condT rfl ?_
    refine AW.go ?_ (by simp only [go_sem, ↓reduceIte, ew, em, bK_56, bK_48, bK_40, bK_32, bK_24, bK_16, bK_8, bK_0, bytes_snoc, encK_0, encK_1, encK_2, encK_3, encK_4, encK_5, encK_6, encK_7, r3, Int.reduceSub, ws48, ws40, ws32, ws24, ws16, ws8, ws0, wsm8] <;> rfl)
    first
      | exact AW.again hK2 1 (by decide) (by decide)
      | exact AW.again hK2 2 (by decide) (by decide)
      | exact AW.again hK2 3 (by decide) (by decide)
      | exact AW.again hK2 4 (by decide) (by decide)
      | exact AW.again hK2 5 (by decide) (by decide)
      | exact AW.again hK2 6 (by decide) (by decide)
      | exact AW.again hK2 7 (by decide) (by decide)
      | exact AW.again hK2 8 (by decide) (by decide)

theorem shaSum_fn (m : List Nat) (hm : m.length < 2 ^ 59) : Fn Try.prog 82 [] [.pv (.sl 1 (bytes m))] (fun rs H' => rs = [.own 5 (bytes (sha m))] ∧ H' = []) := by
  refine Fn.of_body (fn := Try.f82) (n := 11) (res := [.tmp 2]) (by kernel_rfl) rfl rfl rfl rfl rfl (fun C => ?_)
  refine AW.go ?_
  have h := (HC.zero).wr (b := m)
  refine AW.keepB [6, 7, 3] [5] (by simp only [go_sem, ↓reduceIte]) (s' := ⟨11, [(6, .ptr 5 0), (7, .pv (.sl 1 (bytes m))), (3, .ptr 5 0)], [(5, .cells 135 (hsC h00))]⟩) (by simp only [go_sem, ↓reduceIte] <;> rfl) ?_
  refine AW.callE (fun _ => 5) (Write_fn h00 m rfl (by show 0 + m.length < 2 ^ 60; omega)) (.ptr rfl (.pv _ .nil)) ?_
  refine AW.go ?_
  refine AW.callE (fun _ => 5) (hSum_fn (wr h00 m) m h.1 hm) (.ptr rfl .nil) ?_
  refine AW.go ?_
  refine AW.finE (.move rfl .nil) rfl
end Go.Ck

set_option linter.unusedVariables false
set_option maxRecDepth 100000
set_option maxHeartbeats 400000
namespace Go.Ck
open Go.Proofs
end Go.Ck

set_option linter.unusedVariables false
set_option maxRecDepth 100000
set_option maxHeartbeats 400000
namespace Go.Ck
open Go.Proofs
end Go.Ck

set_option linter.unusedVariables false
set_option maxRecDepth 100000
set_option maxHeartbeats 400000
namespace Go.Ck
open Go.Proofs
theorem summed_fn (k : List Nat) (x : Nat) (ls : List (List Nat)) (hk : k.length = 64) (hkb : ∀ y ∈ k, y < 256) (hx : x < 256) (hl : ls.flatten.length < 2 ^ 58) (hln : ls.length < 2 ^ 40) : Fn Try.prog 83 [] [.pv (.agg (bytes k)), .pv (.int .u8 x), .pv (.sl 1 (lsP ls))] (fun rs H' => rs = [.pv (.sl 1 (bytes (sha (xorK k x ++ ls.flatten))))] ∧ H' = []) := by
  refine Fn.of_body (fn := Try.f83) (n := 38) (res := [.tmp 6]) (by kernel_rfl) rfl rfl rfl rfl rfl (fun C => ?_)
  refine AW.go ?_
  refine AW.loopS (fun i : Nat => ⟨38, [(13, .pv (.int .i64 i)), (1, .pv (.int .u8 x)), (2, .pv (.sl 1 (lsP ls))), (3, .ptr 3 0), (7, .ptr 12 0)], [(3, .cells 110 ((bytes (xorN k x i)).map SV.pv)), (12, .cells 135 (hsC h00))]⟩) (fun i => i ≤ 64) (fun i => 64 - i) [13, 1, 2, 3, 7] [3, 12] 0 (by omega) ?_ (hs := by simp only [go_sem, ↓reduceIte, xorN_0] <;> rfl)
  rintro i hi K hK
  refine AW.go ?_
  refine AW.cond rfl (fun hc => ?_) (fun hc => ?_)
  · have hlt : i < 64 := by have := of_decide_eq_true hc; omega
    have l1 : (i < 64) = True := eq_true hlt
    obtain ⟨a, ha⟩ : ∃ a, k[i]? = some a := ⟨k[i], List.getElem?_eq_getElem (by omega)⟩
    have ha256 : a < 256 := hkb a (List.mem_of_getElem? ha)
    have g1 := bcs_get (xorN_get (x := x) ha)
    have g2 : ((bytes (xorN k x i)).map SV.pv).length = 64 := by rw [bcs_len, xorN_len, hk]
    have g2' : (xorN k x i).length = 64 := by rw [xorN_len, hk]
    have g3 : ((bytes (xorN k x i)).map SV.pv).set i (.pv (.int .u8 ((a ^^^ x : Nat) : Int))) = (bytes (xorN k x (i + 1))).map SV.pv := by rw [bcs_set, xorN_set ha]
    have g4 := ibits_xor8 (a := a) (b := x) ha256 hx
    have e6 : IntKind.i64.wrap ((i : Int) + 1) = ((i + 1 : Nat) : Int) := wrap_i64_succ (by omega)
    refine AW.go ?_ (by simp only [go_sem, ↓reduceIte, l1, g1, g2, g2', g3, g4, e6, List.length_map] <;> rfl)
    exact AW.again hK (i + 1) (by omega) (by omega)
  have hge : i = 64 := by have := of_decide_eq_false hc; omega
  subst hge
  rw [xorN_all _ _ _ (by omega)]
  have hkl : (xorK k x).length = 64 := by rw [xorK_len, hk]
  generalize xorK k x = kk at *
  refine AW.go ?_
  refine AW.sliceO (off := 0) (l := 0) (h := 64) rfl rfl rfl rfl rfl rfl rfl (by omega) (by omega) (by omega) ⟨_, rfl⟩ ?_ (hT := tk_110)
  have hlo : (((bytes kk).map SV.pv).drop (0 + 0)).take (64 - 0) = (bytes kk).map SV.pv := take_all _ _ (by rw [bcs_len, hkl])
  refine AW.callE (args := [.ptr 1000 0, .pv (.sl 1 (bytes kk))]) (fun _ => 12) (Write_fn h00 kk rfl (by show 0 + kk.length < 2 ^ 60; omega)) (.ptr rfl (.lendO rfl hlo (by rw [bytes_length, hkl]) (all_one_bytes kk) (le_maxLen 64) .nil)) ?_
  have h1 := (HC.zero).wr (b := kk)
  rw [List.nil_append] at h1
  generalize wr h00 kk = h at *
  refine AW.go ?_
  refine AW.loopS (fun j : Nat => ⟨38, [(28, .pv (.int .i64 j)), (26, .pv (.sl 1 (lsP ls))), (27, .pv (.int .i64 ls.length)), (7, .ptr 12 0)], [(12, .cells 135 (hsC ((ls.take j).foldl wr h)))]⟩) (fun j => j ≤ ls.length ∧ HC (kk ++ (ls.take j).flatten) ((ls.take j).foldl wr h)) (fun j => ls.length - j) [28, 26, 27, 7] [12] 0 ⟨by omega, by simpa using h1.1⟩ ?_
  rintro j ⟨hj, hc1⟩ K hK
  refine AW.go ?_
  refine AW.cond rfl (fun hc => ?_) (fun hc => ?_)
  · have hlt : j < ls.length := by have := of_decide_eq_true hc; omega
    obtain ⟨b, hb⟩ : ∃ b, ls[j]? = some b := ⟨ls[j], List.getElem?_eq_getElem hlt⟩
    have g1 := lsP_get hb
    have hft := flat_takeH ls j b hb
    have hfo := fold_take ls j b hb h
    have hfl := flat_le ls (j + 1)
    rw [hft, List.length_append] at hfl
    have hc2 := (hc1.wr (b := b)).1
    have hn1 := hc1.n
    have hp1 := hc1.len
    rw [List.length_append] at hn1
    rw [List.append_assoc, ← hft] at hc2
    rw [← hfo] at hc2
    have e6 : IntKind.i64.wrap ((j : Int) + 1) = ((j + 1 : Nat) : Int) := wrap_i64_succ (by omega)
    have l1 : (j < ls.length) = True := eq_true hlt
    generalize (ls.take j).foldl wr h = h1 at *
    refine AW.go ?_ (by simp only [go_sem, ↓reduceIte, g1] <;> rfl)
    refine AW.callE (fun _ => 12) (Write_fn h1 b hp1 (by omega)) (.ptr rfl (.pv _ .nil)) ?_
    refine AW.go ?_ (by simp only [go_sem, ↓reduceIte, e6] <;> rfl)
    exact AW.again hK (j + 1) (by exact ⟨by omega, hc2⟩) (by omega) (hs := by simp only [go_sem, ↓reduceIte, hfo] <;> rfl)
  have hge : j = ls.length := by have := of_decide_eq_false hc; omega
  subst hge
  rw [List.take_length] at *
  refine AW.go ?_
  refine AW.callE (fun _ => 12) (hSum_fn _ _ hc1 (by rw [List.length_append]; omega)) (.ptr rfl .nil) ?_
  refine AW.freeze (p := .slot 37) (by simp only [go_sem, ↓reduceIte, freeze, freezeO] <;> rfl) ?_
  refine AW.go ?_
  refine AW.finE (.pv _ .nil) rfl

theorem all_fn (key : List Nat) (ls : List (List Nat)) (hkb : ∀ x ∈ key, x < 256) (hkl : key.length < 2 ^ 58) (hl : ls.flatten.length < 2 ^ 58) (hln : ls.length < 2 ^ 40) : Fn Try.prog 69 [] [.pv (.sl 1 (bytes key)), .pv (.sl 1 (lsP ls))] (fun rs H' => rs = [.pv (.sl 1 (bytes (hmac key ls.flatten)))] ∧ H' = []) := by
  refine Fn.of_body (fn := Try.f69) (n := 20) (res := [.tmp 4]) (by kernel_rfl) rfl rfl rfl rfl rfl (fun C => ?_)
  have hkl2 := kpad_len key
  have hkb2 := kpad_lt hkb
  have hko := kof_len key
  have hcp := kof_copyZ key
  have hl2 : ([sha (xorK (kpad key) 54 ++ ls.flatten)] : List (List Nat)).flatten.length < 2 ^ 58 := by simp [sha_len]
  have hmac_eq : hmac key ls.flatten = sha (xorK (kpad key) 92 ++ ([sha (xorK (kpad key) 54 ++ ls.flatten)] : List (List Nat)).flatten) := by simp [hmac]
  rw [hmac_eq]
  refine AW.go ?_
  refine AW.joinS (fun _ : Unit => ⟨20, [(0, .pv (.sl 1 (bytes (kof key)))), (1, .pv (.sl 1 (lsP ls))), (5, .ptr 5 0)], [(5, .cells 110 ((bytes z64).map SV.pv))]⟩) (fun _ => True) [0, 1, 5] [5] ?_ ?_
  · intro K hK
    refine AW.cond rfl (fun hc => ?_) (fun hc => ?_)
    · have hlt : 64 < key.length := by have := of_decide_eq_true hc; omega
      have hko : kof key = sha key := if_pos hlt
      refine AW.go ?_
      refine AW.callE (fun _ => 0) (shaSum_fn key (by omega)) (.pv _ .nil) ?_
      refine AW.freeze (p := .slot 10) (by simp only [go_sem, ↓reduceIte, freeze, freezeO] <;> rfl) ?_
      refine AW.go ?_
      exact AW.meet hK () trivial (by simp only [go_sem, ↓reduceIte]) (by simp only [go_sem, ↓reduceIte, hko] <;> rfl)
    · have hlt : ¬ 64 < key.length := by have := of_decide_eq_false hc; omega
      have hko : kof key = key := if_neg hlt
      refine AW.go ?_
      exact AW.meet hK () trivial (by simp only [go_sem, ↓reduceIte]) (by simp only [go_sem, ↓reduceIte, hko] <;> rfl)
  rintro _ -
  generalize kof key = k at *
  refine AW.go ?_
  refine AW.sliceO (off := 0) (l := 0) (h := 64) rfl rfl rfl rfl rfl rfl rfl (by omega) (by omega) (by omega) ⟨_, rfl⟩ ?_ (hT := tk_110)
  refine AW.go ?_
  refine AW.copyO (ez := 0) (off := 0 + 0) (n := 64 - 0) (kk := k.length) (xs := bytes k) rfl rfl ?_ rfl rfl (all_one_bytes k) ?_ ?_ (hT := tk_23)
  · rw [bcs_len, z64_len]; decide
  · rw [bytes_length]; omega
  rw [bytes_take, List.take_length, setCells_b _ _ (by rw [z64_len]; omega), hcp]
  have hlen : ((bytes (kpad key)).map SV.pv).length = 64 := by rw [bcs_len, hkl2]
  have hall : allPV (List.take 64 ((bytes (kpad key)).map SV.pv)) = some (bytes (kpad key)) := by rw [List.take_of_length_le (by omega), allPV_map]
  refine AW.go ?_
  refine AW.calmS ?_
  refine CK.reads [[], [], []] ?_ (by simp only [go_sem, ↓reduceIte, hlen, hall] <;> rfl)
  refine CK.call (ps := [_, _, _]) [15, 16] (summed_fn (kpad key) 54 ls hkl2 hkb2 (by decide) hl hln) ?_
  refine CK.listZ [17] ?_
  refine CK.call (ps := [_, _, _]) [14, 18] (summed_fn (kpad key) 92 [sha (xorK (kpad key) 54 ++ ls.flatten)] hkl2 hkb2 (by decide) hl2 (by simp)) ?_
  refine CK.done (M := 6) 1 mixed ?_
  refine AW.seqs (fuel := 0) (listed' := Array.replicate 7 true) [6] ?_ (by decide +kernel)
  -- 6: t4 := = t19
  refine AW.gg ?_
  refine AW.anyDone (by decide +kernel) ?_
  refine AW.go ?_
  refine AW.finE (.pv _ .nil) rfl

theorem mac_fn (key m : List Nat) (hkb : ∀ x ∈ key, x < 256) (hkl : key.length < 2 ^ 58) (hl : m.length < 2 ^ 58) : Fn Try.prog 49 [] [.pv (.sl 1 (bytes key)), .pv (.sl 1 (bytes m))] (fun rs H' => rs = [.pv (.sl 1 (bytes (hmac key m)))] ∧ H' = []) := by
  refine Fn.of_body (fn := Try.f49) (n := 9) (res := [.tmp 4]) (by kernel_rfl) rfl rfl rfl rfl rfl (fun C => ?_)
  have e : hmac key m = hmac key [m].flatten := by simp
  rw [e]
  refine AW.go ?_
  refine AW.freeze (p := .slot 7) (by simp only [go_sem, ↓reduceIte, freeze, freezeO] <;> rfl) ?_
  refine AW.callE (args := [.pv (.sl 1 (bytes key)), .pv (.sl 1 (lsP [m]))]) (fun _ => 0) (all_fn key [m] hkb hkl (by simpa using hl) (by simp)) (.pv _ (.pv _ .nil)) ?_
  refine AW.go ?_
  refine AW.finE (.pv _ .nil) rfl
end Go.Ck

set_option linter.unusedVariables false
set_option maxRecDepth 10000
namespace Go.Ck
open Go.Proofs
theorem ref01Same_fn (a b : List Nat) (hl : a.length ≤ room) : Fn Try.prog 13 [] [.pv (.sl 1 (bytes a)), .pv (.sl 1 (bytes b))] (fun rs H' => rs = [.pv (.bool (decide (a = b)))] ∧ H' = []) := by
  refine Fn.of_body (fn := Try.f13) (n := 26) (res := [.tmp 4]) (by kernel_rfl) rfl rfl rfl rfl rfl (fun C => ?_)
  have hr : room < 2 ^ 62 := by decide
  refine AW.go ?_
  refine AW.cond rfl (fun hc => ?_) (fun hc => ?_)
  · have hne : a ≠ b := by rintro rfl; simp at hc
    refine AW.go ?_
    refine AW.finE (.pv _ .nil) ?_
    rw [decide_eq_false hne]
  have hlen : a.length = b.length := by simp at hc; omega
  refine AW.go ?_
  refine AW.loopS (fun i : Nat => ⟨26, [(5, .pv (.int .i64 i)), (0, .pv (.sl 1 (bytes a))), (1, .pv (.sl 1 (bytes b)))], []⟩) (fun i => i ≤ a.length ∧ a.take i = b.take i) (fun i => a.length - i) [5, 0, 1] [] 0 ⟨Nat.zero_le _, rfl⟩ ?_
  rintro i ⟨hi, ht⟩ K hK
  refine AW.go ?_
  refine AW.cond rfl (fun hc => ?_) (fun hc => ?_)
  · have hlt : i < a.length := by simpa using hc
    have hlt2 : i < b.length := by omega
    have h1 := bytes_get hlt
    have h2 := bytes_get hlt2
    have ei : IntKind.i64.wrap ((i : Int) + 1) = ((i + 1 : Nat) : Int) := wrap_i64_succ (by omega)
    refine AW.go ?_
    refine AW.sr mixed (by decide +kernel) ?_ (by simp only [go_sem, ↓reduceIte, h1, h2] <;> rfl)
    refine AW.go ?_
    refine AW.cond rfl (fun hc => ?_) (fun hc => ?_)
    · have hne : a ≠ b := by rintro rfl; simp at hc
      refine AW.go ?_
      refine AW.finE (.pv _ .nil) ?_
      rw [decide_eq_false hne]
    · have he : a[i] = b[i] := by simp at hc; omega
      refine AW.go ?_ (by simp only [go_sem, ↓reduceIte, ei] <;> rfl)
      refine AW.again hK (i + 1) ⟨hlt, ?_⟩ (by omega)
      rw [List.take_succ_eq_append_getElem hlt, List.take_succ_eq_append_getElem hlt2, ht, he]
  · have hge : ¬ i < a.length := by simpa using hc
    rw [List.take_of_length_le (by omega), List.take_of_length_le (by omega)] at ht
    refine AW.go ?_
    refine AW.finE (.pv _ .nil) ?_
    rw [decide_eq_true ht]

end Go.Ck

set_option linter.unusedVariables false
set_option maxRecDepth 100000
set_option maxHeartbeats 400000
namespace Go.Ck
open Go.Proofs
end Go.Ck

set_option linter.unusedVariables false
set_option maxRecDepth 10000
namespace Go.Ck
open Go.Proofs
end Go.Ck

set_option linter.unusedVariables false
set_option maxRecDepth 100000
set_option maxHeartbeats 400000
namespace Go.Ck
open Go.Proofs
theorem AW.absurdC {P : Program} {R : Option Nat} {Φ : Exit → Cx → St → Prop} {e : Exit} {k : List It} {X : Bs → Prop} {s : St} (h : ∀ B, ¬ X B) : AW P R Φ e k (plain X) s := fun B a w ha => absurd ha.1.1.2 (h B)
theorem pieces_fn (key info : List Nat) : Fn Try.prog 99 [] [.pv (.sl 1 (bytes key)), .pv (.sl 1 (bytes info))] (fun rs H' => rs = [.fn 110 [.ptr 2 0, .ptr 3 0]] ∧ H' = [(3, .cells 23 [.pv (.sl 1 (bytes info))]), (2, .cells 23 [.pv (.sl 1 (bytes key))])]) := by
  refine Fn.of_body (fn := Try.f99) (n := 6) (res := [.tmp 4]) (by kernel_rfl) rfl rfl rfl rfl rfl (fun C => ?_)
  refine AW.go ?_
  refine AW.finE (.fn rfl .nil) rfl
theorem pieces_iter (key info : List Nat) (hkb : ∀ x ∈ key, x < 256) (hkl : key.length < 2 ^ 50) (hil : info.length < 2 ^ 50) : Iter Try.prog 110 [.ptr 20 0, .ptr 21 0] [(21, .cells 23 [.pv (.sl 1 (bytes info))]), (20, .cells 23 [.pv (.sl 1 (bytes key))])] (hpcs key info) := by
  refine Iter.of_body (fn := Try.f110) (n := 19) (by kernel_rfl) rfl rfl rfl rfl (fun l X X0 N hY hN => ?_)
  have hN : ∀ B, ¬ X N B := hN.resolve_left (by simp [hpcs])
  have m3 : (3 ≤ maxLen) = True := eq_true (le_maxLen 3)
  refine AW.go ?_
  refine AW.freeze (p := .slot 4) (by simp only [go_sem, ↓reduceIte, freeze, freezeO] <;> rfl) ?_
  refine AW.loopC (n := N) (fun m C s => ∃ i, m = N - i ∧ i ≤ N ∧ C = plain (X i) ∧ keepB [0, 1, 2, 4, 5] [20, 21] s = ⟨19, [(0, .yl l), (1, .ptr 20 0), (2, .ptr 21 0), (4, .pv (.sl 1 (bytes (hpc key info i)))), (5, .pv (.int .u8 (((i + 1) % 256 : Nat) : Int)))], [(20, .cells 23 [.pv (.sl 1 (bytes key))]), (21, .cells 23 [.pv (.sl 1 (bytes info))])]⟩ ∧ keptB none [0, 1, 2, 4, 5] [20, 21] s = true) ⟨0, rfl, Nat.zero_le _, rfl, by simp only [go_sem, ↓reduceIte] <;> rfl, by simp only [go_sem, ↓reduceIte]⟩ ?_
  rintro m C s ⟨i, rfl, hi, rfl, hs, hk⟩
  by_cases hiN : i = N
  · rw [hiN]; exact AW.absurdC hN
  have hlt : i < N := by omega
  obtain ⟨p, hp, hY1⟩ := hY _ hlt
  unfold hpcs at hp
  cases hp
  rw [hpc_flat] at hY1
  have hnx := hpc_flat key info i
  have hpl := hpc_len key info i
  have ei : IntKind.u8.wrap (((i + 1) % 256 : Nat) + 1 : Int) = (((i + 1 + 1) % 256 : Nat) : Int) := by
    rw [show (((i + 1) % 256 : Nat) : Int) + 1 = (((i + 1) % 256 + 1 : Nat) : Int) by omega, wrap_u8]; congr 1; omega
  refine AW.keepB [0, 1, 2, 4, 5] [20, 21] hk hs ?_
  generalize hpc key info i = T at *
  generalize (i + 1) % 256 = kk at *
  refine AW.go ?_ (by simp only [go_sem, ↓reduceIte, freeze, freezeO, m3] <;> rfl)
  refine AW.freeze (p := .slot 13) (by simp only [go_sem, ↓reduceIte, freeze, freezeO] <;> rfl) ?_
  refine AW.callE (args := [.pv (.sl 1 (bytes key)), .pv (.sl 1 (lsP [T, info, [kk]]))]) (fun _ => 0) (all_fn key [T, info, [kk]] hkb (by omega) (by simp; omega) (by simp)) (.pv _ (.pv _ .nil)) ?_
  rw [← hnx] at hY1 ⊢
  refine AW.go ?_
  refine AW.yield hY1 rfl rfl ?_ ?_
  · refine AW.go ?_
    refine AW.condF rfl ?_
    refine AW.go ?_ (by simp only [go_sem, ↓reduceIte, ei] <;> rfl)
    refine AW.stop ⟨N - (i + 1), by omega, i + 1, rfl, by omega, rfl, by simp only [go_sem, ↓reduceIte] <;> rfl, by simp only [go_sem, ↓reduceIte]⟩
  · refine AW.go ?_
    refine AW.condT rfl ?_
    refine AW.go ?_
    exact AW.nil ⟨.inr rfl, .inr rfl⟩
end Go.Ck

set_option linter.unusedVariables false
set_option maxRecDepth 100000
set_option maxHeartbeats 400000
namespace Go.Ck
open Go.Proofs
attribute [go_sem] putParams keptH allNames pickH
theorem expand_fn (key info : List Nat) (hkb : ∀ x ∈ key, x < 256) (hkl : key.length < 2 ^ 50) (hil : info.length < 2 ^ 50) : Fn Try.prog 81 [] [.pv (.sl 1 (bytes key)), .pv (.sl 1 (bytes info)), .pv (.int .i64 32)] (fun rs H' => rs = [.pv (.sl 1 (bytes (hmac key (info ++ [1])))), .pv (.int .i64 0)] ∧ H' = []) := by
  refine Fn.of_bodyR (fn := Try.f81) (n := 34) (res := [.tmp 6, .tmp 7]) (by kernel_rfl) rfl rfl rfl rfl rfl (fun C => ?_)
  have hroom : room = 140737488355328 := rfl
  rw [← hpc_1]
  have hpl := hpc_1len key info
  refine AW.gg ?_
  refine AW.condF rfl ?_
  refine AW.go ?_
  refine AW.condF rfl ?_
  refine AW.go ?_
  refine AW.callE (fun o => if o = 2 then 20 else 21) (pieces_fn key info) (.pv _ (.pv _ .nil)) ?_
  refine AW.go ?_
  have hI := pieces_iter key info hkb hkl hil
  refine AW.rangeFunc [5, 8] [5, 8] (fun i hp => i = 0 ∧ hp = [(5, .cells 3 [.pv (.int .i64 32)]), (8, .cells 23 [.own 5 []])]) (fun j hp => j = .exit 0 ∧ hp = [(5, .cells 3 [.pv (.int .i64 32)]), (8, .cells 23 [.own 5 (bytes (hpc key info 1))])]) 1 hI rfl (by simp only [go_sem, ↓reduceIte]) (by simp only [go_sem, ↓reduceIte]) (by simp only [go_sem, ↓reduceIte]) (by simp only [go_sem, ↓reduceIte] <;> rfl) rfl rfl rfl rfl ⟨rfl, rfl⟩ ?_ ?_ (.inr ?_) ?_ ?_ ?_
  · intro i p hp
    unfold hpcs at hp; cases hp; rfl
  · intro i hi
    exact ⟨_, rfl⟩
  · rintro hp ⟨h, _⟩; cases h
  · intro i p hi hp
    have h0 : i = 0 := by omega
    subst h0
    unfold hpcs at hp; cases hp
    simp only [Nat.zero_add]
    generalize hpc key info 1 = T at *
    rintro _ ⟨_, rfl⟩ l C1
    refine AW.go ?_ (by simp only [go_sem, ↓reduceIte, putParams] <;> rfl)
    refine AW.nil ⟨rfl, rfl, fun C2 => ?_⟩
    have r1 : (T.length ≤ room) = True := eq_true (by omega)
    refine AW.go ?_ (by simp only [go_sem, ↓reduceIte, List.length_nil, Nat.zero_add, List.nil_append, r1] <;> rfl)
    have d1 : decide ((T.length : Int) ≥ 32) = true := decide_eq_true (by omega)
    refine AW.cond rfl (fun hc => ?_) (fun hc => ?_)
    rotate_left
    · exfalso; rw [d1] at hc; cases hc
    refine AW.go ?_
    refine AW.nil ⟨rfl, by simp only [go_sem, ↓reduceIte], by simp only [go_sem, ↓reduceIte], .inr ⟨_, rfl, rfl, by simp only [go_sem, ↓reduceIte] <;> rfl⟩⟩
  · rintro hp h; unfold hpcs at h; cases h
  · rintro j hp ⟨rfl, rfl⟩
    generalize hpc key info 1 = T at *
    have nc32 : ((32 : Nat) : Int) = 32 := rfl
    refine AW.go ?_ (by simp only [go_sem, ↓reduceIte, hpl, nc32, Int.reduceLE] <;> rfl)
    have hy : bytes T = ((bytes T).drop 0).take 32 := by rw [List.drop_zero, List.take_of_length_le (by rw [bytes_length]; omega)]
    refine AW.finR (.inr rfl) (.inr rfl) (by simp only [go_sem, ↓reduceIte, retsV] <;> rfl) (.lendV rfl co_5 hy (.pv _ .nil)) (H' := []) (by simp only [go_sem, ↓reduceIte]) (by simp only [go_sem, ↓reduceIte]) (by simp only [go_sem, ↓reduceIte]) ⟨rfl, rfl⟩

theorem derive_fn (key : List Nat) (p : Nat) (name : List UInt8) (hkb : ∀ x ∈ key, x < 256) (hp : p < 256) (hnl : name.length ≤ maxLen) : Fn Try.prog 68 [] [.pv (.sl 1 (bytes key)), .pv (.int .u8 p), .pv (.str name)] (fun rs H' => rs = [.pv (.sl 1 (bytes (dk key p name).1)), .pv (.int .i64 (dk key p name).2)] ∧ H' = []) := by
  refine Fn.of_body (fn := Try.f68) (n := 28) (res := [.tmp 6, .tmp 7]) (by kernel_rfl) rfl rfl rfl rfl rfl (fun C => ?_)
  have hroom : room = 140737488355328 := rfl
  have hml : maxLen < 2 ^ 63 := by unfold maxLen; decide
  unfold dk
  by_cases h1 : key.length = 32
  rotate_left
  · have d1 : ((key.length : Int) != 32) = true := by simp; omega
    have d2 : (key.length != 32) = true := by simp; omega
    rw [if_pos h1]
    refine AW.go ?_ (by simp only [go_sem, ↓reduceIte, d1, d2] <;> rfl)
    refine AW.condT rfl ?_
    refine AW.go ?_
    refine AW.finE (.lend rfl co_5 (.pv _ .nil)) rfl
  have hkl : key.length < 2 ^ 50 := by omega
  have d1 : ((key.length : Int) != 32) = false := by simp; omega
  have d2 : (key.length != 32) = false := by simp; omega
  rw [if_neg (by simp; omega)]
  refine AW.go ?_ (by simp only [go_sem, ↓reduceIte, d1, d2] <;> rfl)
  refine AW.condF rfl ?_
  refine AW.go ?_
  refine AW.cond rfl (fun hc => ?_) (fun hc => ?_)
  · have h2 : 64 < name.length := by have := of_decide_eq_true hc; omega
    rw [if_pos h2]
    refine AW.go ?_
    refine AW.finE (.lend rfl co_5 (.pv _ .nil)) rfl
  have h2 : ¬ 64 < name.length := by have := of_decide_eq_false hc; omega
  rw [if_neg h2]
  refine AW.go ?_
  refine AW.ofStr hnl tk_9 tk_23 tk_5 ?_
  rw [strBytes_nb]
  have hnb : (nb name).length = name.length := by simp [nb]
  have l10 := leb_len10 (v := name.length) (by omega)
  refine AW.go ?_
  refine AW.callE (fun _ => 0) (block_fn (nb name) (by omega)) (.pv _ .nil) ?_
  rw [hnb]
  have hLl : (leb name.length ++ nb name).length ≤ 100 := by rw [List.length_append]; omega
  have hdk := dkInfo_eq p name
  generalize leb name.length ++ nb name = L at *
  have r1 : (1 + L.length ≤ room) = True := eq_true (by omega)
  have hil : (dkInfo p name).length < 2 ^ 50 := by rw [hdk, List.length_cons]; omega
  refine AW.goM 3 ?_ (by simp only [go_sem, ↓reduceIte, List.length_cons, List.length_nil, Nat.zero_add, r1, bytes_consC, ← hdk] <;> rfl)
  generalize dkInfo p name = info at *
  refine AW.freeze (p := .slot 22) (by simp only [go_sem, ↓reduceIte, freeze, freezeO] <;> rfl) ?_
  refine AW.go ?_
  refine AW.callE (fun _ => 0) (expand_fn key info hkb hkl hil) (.pv _ (.pv _ (.pv _ .nil))) ?_
  refine AW.go ?_
  refine AW.finE (.pv _ (.pv _ .nil)) rfl
theorem keyM_fn (key : List Nat) (hkb : ∀ x ∈ key, x < 256) : Fn Try.prog 47 [] [.pv (.sl 1 (bytes key))] (fun rs H' => rs = [.pv (.sl 1 (bytes (dk key 4 []).1)), .pv (.int .i64 (dk key 4 []).2)] ∧ H' = []) := by
  refine Fn.of_body (fn := Try.f47) (n := 8) (res := [.tmp 2, .tmp 3]) (by kernel_rfl) rfl rfl rfl rfl rfl (fun C => ?_)
  refine AW.go ?_
  refine AW.callE (args := [.pv (.sl 1 (bytes key)), .pv (.int .u8 ((4 : Nat) : Int)), .pv (.str [])]) (fun _ => 0) (derive_fn key 4 [] hkb (by decide) (Nat.zero_le _)) (.pv _ (.pv _ (.pv _ .nil))) ?_
  refine AW.go ?_
  refine AW.finE (.pv _ (.pv _ .nil)) rfl

end Go.Ck

set_option linter.unusedVariables false
set_option maxRecDepth 100000
set_option maxHeartbeats 400000
namespace Go.Ck
open Go.Proofs
theorem sizes_fn : Fn Try.prog 74 [] [] (fun rs H' => rs = [.fn 87 []] ∧ H' = []) := by
  refine Fn.of_body (fn := Try.f74) (n := 1) (res := [.tmp 0]) (by kernel_rfl) rfl rfl rfl rfl rfl (fun C => ?_)
  refine AW.go ?_
  refine AW.finE (.fn rfl .nil) rfl
theorem sizes_iter : Iter Try.prog 87 [] [] szs := by
  refine Iter.of_body (fn := Try.f87) (n := 15) (by kernel_rfl) rfl rfl rfl rfl (fun l X X0 N hY hN => ?_)
  refine AW.go ?_
  refine AW.loopC (n := 9) (fun m C s => ∃ i, m = 9 - i ∧ i ≤ 9 ∧ i ≤ N ∧ C = plain (X i) ∧ keepB [0, 2, 3] [] s = ⟨15, [(0, .yl l), (2, .pv (.int .i64 i)), (3, .pv (.int .i64 (szB i : Int)))], []⟩ ∧ keptB none [0, 2, 3] [] s = true) ⟨0, rfl, by omega, Nat.zero_le _, rfl, by simp only [go_sem, ↓reduceIte] <;> rfl, by simp only [go_sem, ↓reduceIte]⟩ ?_
  rintro m C s ⟨i, rfl, hi, hiN, rfl, hs, hk⟩
  refine AW.keepB [0, 2, 3] [] hk hs ?_
  have hin := szB_in i hi
  have hle := szB_le i hi
  have hsu := szB_succ i
  refine AW.go ?_
  refine AW.cond rfl (fun hc => ?_) (fun hc => ?_)
  · have h8 : i ≤ 8 := hin.1 (by have := of_decide_eq_true hc; omega)
    have hxi : szs i = some [.int .i64 (i : Int), .int .i64 (szB i : Int)] := by unfold szs; rw [if_pos (by omega)]
    by_cases hn : i = N
    · rcases hN with h | h
      · rw [← hn, hxi] at h; cases h
      · rw [hn]; exact AW.absurdC h
    obtain ⟨p, hp, hY1⟩ := hY _ (by omega : i < N)
    rw [hxi] at hp
    cases hp
    have e1 : IntKind.i64.wrap ((i : Int) + 1) = ((i + 1 : Nat) : Int) := wrap_i64_succ (by omega)
    have e2 : IntKind.i64.wrap ((szB i : Int) * 4) = (szB (i + 1) : Int) := by rw [wrap_i64_of (by omega) (by omega), hsu]; omega
    refine AW.go ?_
    refine AW.yield hY1 rfl rfl ?_ ?_
    · refine AW.go ?_
      refine AW.condF rfl ?_
      refine AW.go ?_ (by simp only [go_sem, ↓reduceIte, e1, e2] <;> rfl)
      refine AW.stop ⟨9 - (i + 1), by omega, i + 1, rfl, by omega, by omega, rfl, by simp only [go_sem, ↓reduceIte] <;> rfl, by simp only [go_sem, ↓reduceIte]⟩
    · refine AW.go ?_
      refine AW.condT rfl ?_
      refine AW.go ?_
      exact AW.nil ⟨.inr rfl, .inr rfl⟩
  · have h9 : i = 9 := by
      have := of_decide_eq_false hc
      apply Classical.byContradiction; intro h
      have := hin.2 (by omega); omega
    subst h9
    have hend : szs 9 = none := rfl
    have hNe : 9 = N := by
      apply Classical.byContradiction
      intro hne
      obtain ⟨p, hp, _⟩ := hY _ (by omega : 9 < N)
      rw [hend] at hp; cases hp
    rw [hNe] at hend
    rw [hNe]
    refine AW.go ?_
    exact AW.nil ⟨.inl rfl, .inl ⟨hend, rfl⟩⟩
theorem size_fn (k : Int) : Fn Try.prog 53 [] [.pv (.int .i64 k)] (fun rs H' => rs = [.pv (.int .i64 (padSz k : Nat))] ∧ H' = []) := by
  refine Fn.of_bodyR (fn := Try.f53) (n := 14) (res := [.tmp 2]) (by kernel_rfl) rfl rfl rfl rfl rfl (fun C => ?_)
  rw [← padAcc_9]
  refine AW.go ?_
  refine AW.callE (fun _ => 0) sizes_fn .nil ?_
  refine AW.go ?_
  refine AW.rangeFunc [1, 3] [1, 3] (fun i hp => hp = [(1, .cells 3 [.pv (.int .i64 k)]), (3, .cells 3 [.pv (.int .i64 (padAcc k i : Nat))])]) (fun _ _ => False) 9 sizes_iter rfl (by simp only [go_sem, ↓reduceIte]) (by simp only [go_sem, ↓reduceIte]) (by simp only [go_sem, ↓reduceIte]) (by simp only [go_sem, ↓reduceIte] <;> rfl) rfl rfl rfl rfl (by rw [padAcc_0]; rfl) ?_ ?_ (.inl rfl) ?_ ?_ ?_
  · intro i p hp
    unfold szs at hp
    split at hp
    · cases hp; rfl
    · cases hp
  · intro i hi
    exact ⟨_, by unfold szs; rw [if_pos hi]⟩
  · intro i p hi hp
    unfold szs at hp
    rw [if_pos hi] at hp
    cases hp
    rintro _ rfl l C1
    refine AW.go ?_
    refine AW.nil ⟨rfl, rfl, fun C2 => ?_⟩
    by_cases hik : (i : Int) = k
    · have d1 : ((i : Int) == k) = true := by simpa using hik
      have hsu : padAcc k (i + 1) = szB i := by rw [← hik]; exact padAcc_eq i
      refine AW.go ?_ (by simp only [go_sem, ↓reduceIte, d1] <;> rfl)
      refine AW.condT rfl ?_
      refine AW.go ?_
      refine AW.nil ⟨rfl, by simp only [go_sem, ↓reduceIte], by simp only [go_sem, ↓reduceIte], .inl ⟨rfl, ?_⟩⟩
      simp only [go_sem, ↓reduceIte, hsu]
    · have d1 : ((i : Int) == k) = false := by simpa using hik
      have hsu := padAcc_ne k i hik
      refine AW.go ?_ (by simp only [go_sem, ↓reduceIte, d1] <;> rfl)
      refine AW.condF rfl ?_
      refine AW.go ?_
      refine AW.nil ⟨rfl, by simp only [go_sem, ↓reduceIte], by simp only [go_sem, ↓reduceIte], .inl ⟨rfl, ?_⟩⟩
      simp only [go_sem, ↓reduceIte, hsu]
  · rintro hp _ rfl
    refine AW.go ?_
    refine AW.finR (.inr rfl) (.inr rfl) (by simp only [go_sem, ↓reduceIte, retsV] <;> rfl) (.pv _ .nil) (H' := []) (by simp only [go_sem, ↓reduceIte]) (by simp only [go_sem, ↓reduceIte]) (by simp only [go_sem, ↓reduceIte]) ⟨rfl, rfl⟩
  · rintro j hp h; exact h.elim

theorem longE_fn (e : Ent) : Fn Try.prog 55 [] [.pv (.agg [.str e.1, .int .i64 e.2])] (fun rs H' => rs = [.pv (.bool (longB e))] ∧ H' = []) := by
  refine Fn.of_body (fn := Try.f55) (n := 7) (res := [.tmp 2]) (by kernel_rfl) rfl rfl rfl rfl rfl (fun C => ?_)
  have d1 : decide ((e.1.length : Int) > 64) = longB e := by unfold longB; rw [Bool.eq_iff_iff]; simp; omega
  refine AW.go ?_ (by simp only [go_sem, ↓reduceIte, d1] <;> rfl)
  refine AW.finE (.pv _ .nil) rfl
theorem indexLong_fn (es : List Ent) (hl : es.length < 2 ^ 40) : Fn Try.prog 75 [] [.pv (.sl 2 (entsP es)), .fn 55 []] (fun rs H' => ∃ n : Int, rs = [.pv (.int .i64 n)] ∧ decide (n ≥ 0) = es.any longB ∧ H' = []) := by
  refine Fn.of_body (fn := Try.f75) (n := 19) (res := [.tmp 4]) (by kernel_rfl) rfl rfl rfl rfl rfl (fun C => ?_)
  refine AW.go ?_
  refine AW.loopS (fun i : Nat => ⟨19, [(8, .pv (.int .i64 i)), (0, .pv (.sl 2 (entsP es))), (1, .fn 55 []), (7, .pv (.int .i64 es.length))], []⟩) (fun i => i ≤ es.length ∧ (es.take i).any longB = false) (fun i => es.length - i) [8, 0, 1, 7] [] 0 ⟨Nat.zero_le _, rfl⟩ ?_
  rintro i ⟨hi, hn⟩ K hK
  refine AW.go ?_
  refine AW.cond rfl (fun hc => ?_) (fun hc => ?_)
  · have hlt : i < es.length := by have := of_decide_eq_true hc; omega
    obtain ⟨e, he⟩ : ∃ e, es[i]? = some e := ⟨es[i], List.getElem?_eq_getElem hlt⟩
    have hg := entsP_get he
    have hst : (es.take (i + 1)).any longB = longB e := by rw [List.take_add_one, he, List.any_append, hn]; simp
    have e1 : IntKind.i64.wrap ((i : Int) + 1) = ((i + 1 : Nat) : Int) := wrap_i64_succ (by omega)
    refine AW.go ?_ (by simp only [go_sem, ↓reduceIte, hg] <;> rfl)
    refine AW.callE (fun _ => 0) (longE_fn e) (.pv _ .nil) ?_
    refine AW.go ?_
    refine AW.cond rfl (fun hc2 => ?_) (fun hc2 => ?_)
    · refine AW.go ?_
      refine AW.fin (.inr rfl) (by simp only [go_sem, ↓reduceIte] <;> rfl) (.pv _ .nil) (H' := []) (by simp only [go_sem, ↓reduceIte]) (by simp only [go_sem, ↓reduceIte]) (by simp only [go_sem, ↓reduceIte]) ⟨i, rfl, ?_, rfl⟩
      rw [decide_eq_true (by omega)]
      symm
      rw [List.any_eq_true]
      exact ⟨e, List.mem_of_getElem? he, hc2⟩
    · refine AW.go ?_ (by simp only [go_sem, ↓reduceIte, e1] <;> rfl)
      exact AW.again hK (i + 1) (by exact ⟨by omega, by rw [hst]; exact hc2⟩) (by omega)
  · have hge : i = es.length := by have := of_decide_eq_false hc; omega
    subst hge
    rw [List.take_length] at hn
    refine AW.go ?_
    refine AW.fin (.inr rfl) (by simp only [go_sem, ↓reduceIte] <;> rfl) (.pv _ .nil) (H' := []) (by simp only [go_sem, ↓reduceIte]) (by simp only [go_sem, ↓reduceIte]) (by simp only [go_sem, ↓reduceIte]) ⟨-1, rfl, ?_, rfl⟩
    rw [hn]; rfl
theorem containsLong_fn (es : List Ent) (hl : es.length < 2 ^ 40) : Fn Try.prog 54 [] [.pv (.sl 2 (entsP es)), .fn 55 []] (fun rs H' => rs = [.pv (.bool (es.any longB))] ∧ H' = []) := by
  refine Fn.of_body (fn := Try.f54) (n := 9) (res := [.tmp 4]) (by kernel_rfl) rfl rfl rfl rfl rfl (fun C => ?_)
  refine AW.go ?_
  refine AW.callX id rfl rfl (by simp only [go_sem, ↓reduceIte] <;> rfl) (indexLong_fn es hl) (.pv _ (.fn rfl .nil)) (by simp only [go_sem, ↓reduceIte]) (by simp only [go_sem, ↓reduceIte]) ?_
  rintro rs H' ⟨n, rfl, hn, rfl⟩
  refine ⟨by simp only [go_sem, ↓reduceIte], ?_⟩
  rw [← hn]
  refine AW.go ?_
  refine AW.finE (.pv _ .nil) rfl

theorem wrongMan_fn (m : Man) (hl : m.es.length < 2 ^ 40) : Fn Try.prog 21 [] [.pv (manP m)] (fun rs H' => rs = [.pv (.int .i64 (wrongM m : Nat))] ∧ H' = []) := by
  refine Fn.of_body (fn := Try.f21) (n := 41) (res := [.tmp 2]) (by kernel_rfl) rfl rfl rfl rfl rfl (fun C => ?_)
  obtain ⟨v, prev, es, root⟩ := m
  simp only at hl
  have hm : manP ⟨v, prev, es, root⟩ = .agg [.int .u64 (v : Int), .sl 1 (bytes prev), .sl 2 (entsP es), .sl 1 (bytes root)] := rfl
  rw [hm]
  unfold wrongM
  simp only
  obtain ⟨b1, hb1⟩ : ∃ b, b = decide (v = 18446744073709551615) := ⟨_, rfl⟩
  obtain ⟨b2, hb2⟩ : ∃ b, b = decide (prev.length ≠ 32) := ⟨_, rfl⟩
  obtain ⟨b3, hb3⟩ : ∃ b, b = decide (root.length ≠ 32) := ⟨_, rfl⟩
  have d1 : ((v : Int) == 18446744073709551615) = b1 := by rw [hb1, Bool.eq_iff_iff]; simp; try omega
  have d2 : ((prev.length : Int) != 32) = b2 := by rw [hb2, Bool.eq_iff_iff]; simp; omega
  have d3 : ((root.length : Int) != 32) = b3 := by rw [hb3, Bool.eq_iff_iff]; simp; omega
  have d2' : (prev.length != 32) = b2 := by rw [hb2, Bool.eq_iff_iff]; simp
  have d3' : (root.length != 32) = b3 := by rw [hb3, Bool.eq_iff_iff]; simp
  have hcond : (v = 18446744073709551615 ∨ prev.length ≠ 32 ∨ root.length ≠ 32) ↔ (b1 || (b2 || b3)) = true := by
    rw [hb1, hb2, hb3]; simp
  · cases b1 with
    | true =>
      rw [if_pos (hcond.2 rfl)]
      refine AW.gg ?_ (by simp only [go_sem, ↓reduceIte, d1, d2, d3, d2', d3'] <;> rfl)
      refine AW.condT rfl ?_
      refine AW.go ?_
      exact AW.finE (.pv _ .nil) rfl
    | false =>
      cases b2 with
      | true =>
        rw [if_pos (hcond.2 rfl)]
        refine AW.gg ?_ (by simp only [go_sem, ↓reduceIte, d1, d2, d3, d2', d3'] <;> rfl)
        refine AW.condT rfl ?_
        refine AW.go ?_
        exact AW.finE (.pv _ .nil) rfl
      | false =>
        cases b3 with
        | true =>
          rw [if_pos (hcond.2 rfl)]
          refine AW.gg ?_ (by simp only [go_sem, ↓reduceIte, d1, d2, d3, d2', d3'] <;> rfl)
          refine AW.condT rfl ?_
          refine AW.go ?_
          exact AW.finE (.pv _ .nil) rfl
        | false =>
          rw [if_neg (fun h => by have := hcond.1 h; cases this)]
          refine AW.gg ?_ (by simp only [go_sem, ↓reduceIte, d1, d2, d3, d2', d3'] <;> rfl)
          refine AW.condF rfl ?_
          refine AW.go ?_
          refine AW.loopS (fun i : Nat => ⟨41, [(23, .pv (.int .i64 i)), (1, .ptr 1 0), (21, .pv (.sl 2 (entsP es))), (22, .pv (.int .i64 es.length))], [(1, .cells 26 [.pv (.int .u64 (v : Int)), .pv (.sl 1 (bytes prev)), .pv (.sl 2 (entsP es)), .pv (.sl 1 (bytes root))])]⟩) (fun i => i ≤ es.length ∧ (es.take i).any badB = false) (fun i => es.length - i) [23, 1, 21, 22] [1] 0 ⟨Nat.zero_le _, rfl⟩ ?_
          rintro i ⟨hi, hn⟩ K hK
          refine AW.go ?_
          refine AW.cond rfl (fun hc => ?_) (fun hc => ?_)
          · have hlt : i < es.length := by have := of_decide_eq_true hc; omega
            obtain ⟨e, he⟩ : ∃ e, es[i]? = some e := ⟨es[i], List.getElem?_eq_getElem hlt⟩
            have hg := entsP_get he
            have hst : (es.take (i + 1)).any badB = badB e := by rw [List.take_add_one, he, List.any_append, hn]; simp
            have e1 : IntKind.i64.wrap ((i : Int) + 1) = ((i + 1 : Nat) : Int) := wrap_i64_succ (by omega)
            have d5 : ((padSz e.2 : Int) == 0) = badB e := by unfold badB; rw [Bool.eq_iff_iff]; simp
            refine AW.go ?_ (by simp only [go_sem, ↓reduceIte, hg] <;> rfl)
            refine AW.callE (fun _ => 0) (size_fn e.2) (.pv _ .nil) ?_
            refine AW.go ?_ (by simp only [go_sem, ↓reduceIte, d5] <;> rfl)
            refine AW.cond rfl (fun hc2 => ?_) (fun hc2 => ?_)
            · rw [if_pos (List.any_eq_true.2 ⟨e, List.mem_of_getElem? he, hc2⟩)]
              refine AW.go ?_
              exact AW.finE (.pv _ .nil) rfl
            · refine AW.go ?_ (by simp only [go_sem, ↓reduceIte, e1] <;> rfl)
              exact AW.again hK (i + 1) (by exact ⟨by omega, by rw [hst]; exact hc2⟩) (by omega)
          · have hge : i = es.length := by have := of_decide_eq_false hc; omega
            subst hge
            rw [List.take_length] at hn
            rw [if_neg (by rw [hn]; simp)]
            by_cases hL : 1048576 < es.length
            · have d6 : decide ((es.length : Int) > 1048576) = true := decide_eq_true (by omega)
              have d6' : decide (1048576 < es.length) = true := decide_eq_true hL
              rw [if_pos (.inl hL)]
              refine AW.gg ?_ (by simp only [go_sem, ↓reduceIte, d6, d6'] <;> rfl)
              refine AW.condT rfl ?_
              refine AW.go ?_
              exact AW.finE (.pv _ .nil) rfl
            · have d6 : decide ((es.length : Int) > 1048576) = false := decide_eq_false (by omega)
              have d6' : decide (1048576 < es.length) = false := decide_eq_false hL
              refine AW.gg ?_ (by simp only [go_sem, ↓reduceIte, d6, d6'] <;> rfl)
              refine AW.guardT rfl rfl ?_
              refine AW.callE (fun _ => 0) (containsLong_fn es hl) (.pv _ (.fn rfl .nil)) ?_
              refine AW.gg ?_
              cases hlg : es.any longB with
              | true =>
                rw [if_pos (.inr rfl)]
                refine AW.condT rfl ?_
                refine AW.go ?_
                exact AW.finE (.pv _ .nil) rfl
              | false =>
                rw [if_neg (by simp [hL])]
                refine AW.condF rfl ?_
                refine AW.go ?_
                exact AW.finE (.pv _ .nil) rfl
end Go.Ck
