/- What is proved here: parts of the proofs of this seat's statements (a verified evaluator for calls over pure values, its laws, and contracts of functions). No condition. -/
import Derived.Test.YtnbkoemhcpjceaaGreatDoorKn
import Derived.Test.YtnbkoemhcpjceaaGreatDoorKr
import Derived.Test.YtnbkoemhcpjceaaGreatDoorKs
import Derived.Test.YtnbkoemhcpjceaaGreatDoorKm
import Derived.Test.YtnbkoemhcpjceaaGreatDoorKk
import Derived.Test.YtnbkoemhcpjceaaGreatDoorKj
set_option linter.all false
set_option linter.unusedVariables false
set_option maxRecDepth 10000
set_option maxHeartbeats 1000000
namespace Go.Ck
open Go.Proofs
theorem refread_fn (l : List Nat) (n t : Nat) (ht : t < 4) (hn : n ≤ 65536) (hl : l.length ≤ 2 ^ 40) (hb : ∀ x ∈ l, x < 256) : Fn Tryz.prog 61 [] [.pv (.sl 1 (bytes l)), .pv (.int .i64 n), .pv (.int .i64 t)]
    (fun rs H' => rs = [.pv (.sl 1 (u64s (rd11 l n t).1)), .pv (.int .i64 (rd11 l n t).2)] ∧ H' = []) := by
  refine Fn.of_body (fn := Tryz.f61) (n := 73) (res := [.tmp 6, .tmp 7]) (by kernel_rfl) rfl rfl rfl rfl rfl (fun C => ?_)
  have hr : room = 140737488355328 := rfl
  have hc : t = 2 ∨ t = 3 ∨ t < 2 := by omega
  rcases hc with rfl | rfl | ht2
  · have hs : rd11 l n 2 = dec10 l n := by simp [rd11]
    rw [hs]
    refine AW.go ?_
    refine AW.condT rfl ?_
    refine AW.go ?_
    refine AW.callE (fun _ => 0) (ref10Dec_fn l n hn hl hb) (.pv _ (.pv _ .nil)) ?_
    refine AW.go ?_
    refine AW.freeze (p := .slot 6) (by simp only [go_sem, ↓reduceIte, freeze, freezeO] <;> rfl) ?_
    refine AW.finE (.pv _ (.pv _ .nil)) rfl
  · have hs : rd11 l n 3 = dec09 l n := by simp [rd11]
    rw [hs]
    refine AW.go ?_
    refine AW.condF rfl ?_
    refine AW.go ?_
    refine AW.condT rfl ?_
    refine AW.go ?_
    refine AW.callE (fun _ => 0) (ref09Dec_fn l n hn hl hb) (.pv _ (.pv _ .nil)) ?_
    refine AW.go ?_
    refine AW.freeze (p := .slot 6) (by simp only [go_sem, ↓reduceIte, freeze, freezeO] <;> rfl) ?_
    refine AW.finE (.pv _ (.pv _ .nil)) rfl
  have c2 : ((t : Int) == 2) = false := by simp; omega
  have c3 : ((t : Int) == 3) = false := by simp; omega
  refine AW.go ?_ (by simp only [go_sem, ↓reduceIte, c2] <;> rfl)
  refine AW.condF rfl ?_
  refine AW.go ?_ (by simp only [go_sem, ↓reduceIte, c3] <;> rfl)
  refine AW.condF rfl ?_
  refine AW.go ?_
  obtain ⟨kk, hkk⟩ : ∃ kk, kk = if t = 1 then 1 else n := ⟨_, rfl⟩
  have hs : rd11 l n t = if l.length < 8 * kk then ([], 2) else if l.length ≠ 8 * kk then ([], 3) else (if t = 1 then List.replicate n (beN (l.take 8)) else dic l n, 0) := by
    rw [rd11, if_neg (by omega), if_neg (by omega), ← hkk]
  have hk6 : kk ≤ 65536 := by split at hkk <;> omega
  refine AW.joinS (fun _ : Unit => ⟨73, [(8, .pv (.int .i64 kk)), (0, .pv (.sl 1 (bytes l))), (1, .pv (.int .i64 n)), (2, .pv (.int .i64 t))], []⟩) (fun _ => True) [8, 0, 1, 2] [] ?_ ?_
  · intro K hK
    refine AW.cond rfl (fun hc => ?_) (fun hc => ?_)
    · have h1 : t = 1 := by simp at hc; omega
      rw [if_pos h1] at hkk
      subst hkk
      refine AW.go ?_
      exact AW.meet hK () trivial
    · have h1 : ¬ t = 1 := by simp at hc; omega
      rw [if_neg h1] at hkk
      subst hkk
      refine AW.go ?_
      exact AW.meet hK () trivial
  rintro _ -
  refine AW.go ?_
  refine AW.loopS (fun i : Nat => ⟨73, [(10, .pv (.int .i64 i)), (8, .pv (.int .i64 kk)), (9, .own 39 (u64s (dic l i))), (0, .pv (.sl 1 (bytes (l.drop (8 * i))))), (1, .pv (.int .i64 n)), (2, .pv (.int .i64 t))], []⟩) (fun i => i ≤ kk ∧ 8 * i ≤ l.length) (fun i => kk - i) [10, 8, 9, 0, 1, 2] [] 0 ⟨Nat.zero_le _, by omega⟩ ?_
  rintro i ⟨hi, hi2⟩ K hK
  refine AW.go ?_
  refine AW.cond rfl (fun hc => ?_) (fun hc => ?_)
  · have hlt : i < kk := by simpa using hc
    have hbd : ∀ x ∈ l.drop (8 * i), x < 256 := fun x hx => hb x (List.mem_of_mem_drop hx)
    have hdl : (l.drop (8 * i)).length = l.length - 8 * i := by simp
    refine AW.go ?_
    refine AW.callE (fun _ => 0) (refFixed_fn (l.drop (8 * i)) 8 (by omega) (by omega) hbd) (.pv _ (.pv _ .nil)) ?_
    by_cases h8 : 8 ≤ (l.drop (8 * i)).length
    · simp only [if_pos h8]
      have hdr : (l.drop (8 * i)).drop 8 = l.drop (8 * (i + 1)) := by rw [List.drop_drop]; congr 1
      have h1 : (i + 1) * 8 ≤ room := by omega
      have h2 : i + 1 ≤ room := by omega
      have ei : IntKind.i64.wrap ((i : Int) + 1) = ((i + 1 : Nat) : Int) := wrap_i64_succ (by omega)
      rw [hdr]
      refine AW.go ?_
      refine AW.condF rfl ?_
      refine AW.go ?_ (by simp only [go_sem, ↓reduceIte, dic_len, u64s_one, h1, h2, ei, ← dic_succ] <;> rfl)
      refine AW.again hK (i + 1) ⟨hlt, by omega⟩ (by omega)
    · simp only [if_neg h8]
      rw [hs, if_pos (by omega)]
      refine AW.go ?_
      refine AW.condT rfl ?_
      refine AW.go ?_
      refine AW.freeze (p := .slot 6) (by simp only [go_sem, ↓reduceIte, freeze, freezeO] <;> rfl) ?_
      refine AW.finE (.pv _ (.pv _ .nil)) rfl
  have hge : i = kk := by simp at hc; omega
  rw [hge] at hi2 ⊢
  clear hge
  have hle := hi2
  clear hK
  rw [if_neg (by omega)] at hs
  refine AW.go ?_
  refine AW.cond rfl (fun hc => ?_) (fun hc => ?_)
  · have hne : l.length ≠ 8 * kk := by simp at hc; omega
    rw [hs, if_pos hne]
    refine AW.go ?_
    refine AW.freeze (p := .slot 6) (by simp only [go_sem, ↓reduceIte, freeze, freezeO] <;> rfl) ?_
    refine AW.finE (.pv _ (.pv _ .nil)) rfl
  have hne : ¬ l.length ≠ 8 * kk := by simp at hc; omega
  rw [hs, if_neg hne]
  refine AW.go ?_
  have hc : t = 0 ∨ t = 1 := by omega
  rcases hc with rfl | rfl
  · rw [if_neg (by omega)] at hkk
    subst hkk
    simp only [Nat.zero_ne_one, if_false]
    refine AW.loopS (fun _ : Unit => ⟨73, [(14, .pv (.int .i64 1)), (9, .own 39 (u64s (dic l kk))), (1, .pv (.int .i64 kk)), (2, .pv (.int .i64 0))], []⟩) (fun _ => True) (fun _ => 0) [14, 9, 1, 2] [] () trivial ?_
    rintro _ - K hK
    by_cases hlt : 1 < kk
    · have d1 : decide (1 < (kk : Int)) = true := decide_eq_true (by omega)
      refine AW.gg ?_ (by simp only [go_sem, ↓reduceIte, d1] <;> rfl)
      refine AW.condF rfl ?_
      refine AW.freeze (p := .slot 9) (by simp only [go_sem, ↓reduceIte, freeze, freezeO] <;> rfl) ?_
      have hle : kk ≤ (dic l kk).length := by rw [dic_len]; omega
      have htk : (dic l kk).take kk = dic l kk := List.take_of_length_le (by rw [dic_len]; omega)
      refine AW.go ?_ (by simp only [go_sem, ↓reduceIte, dic_len, Nat.le_refl, htk, Int.sub_zero, List.drop_zero] <;> rfl)
      refine AW.finE (.pv _ (.pv _ .nil)) rfl
    · have d1 : decide (1 < (kk : Int)) = false := decide_eq_false (by omega)
      refine AW.gg ?_ (by simp only [go_sem, ↓reduceIte, d1] <;> rfl)
      refine AW.condF rfl ?_
      refine AW.freeze (p := .slot 9) (by simp only [go_sem, ↓reduceIte, freeze, freezeO] <;> rfl) ?_
      have hle : kk ≤ (dic l kk).length := by rw [dic_len]; omega
      have htk : (dic l kk).take kk = dic l kk := List.take_of_length_le (by rw [dic_len]; omega)
      refine AW.go ?_ (by simp only [go_sem, ↓reduceIte, dic_len, Nat.le_refl, htk, Int.sub_zero, List.drop_zero] <;> rfl)
      refine AW.finE (.pv _ (.pv _ .nil)) rfl
  · rw [if_pos rfl] at hkk
    subst hkk
    simp only [if_true, dic_one]
    generalize beN (l.take 8) = v at *
    refine AW.loopS (fun j : Nat => ⟨73, [(14, .pv (.int .i64 j)), (9, .own 39 (u64s (List.replicate j v))), (1, .pv (.int .i64 n)), (2, .pv (.int .i64 1))], []⟩) (fun j => 1 ≤ j ∧ (j = 1 ∨ j ≤ n)) (fun j => n - j) [14, 9, 1, 2] [] 1 ⟨Nat.le_refl _, .inl rfl⟩ ?_
    rintro j ⟨hj, hj2⟩ K hK
    by_cases hlt : j < n
    · have d1 : decide (j < n) = true := decide_eq_true hlt
      have hj0 : 0 < j := by omega
      have k1 : (j + 1) * 8 ≤ room := by omega
      have k2 : j + 1 ≤ room := by omega
      have ei : IntKind.i64.wrap ((j : Int) + 1) = ((j + 1 : Nat) : Int) := wrap_i64_succ (by omega)
      have er : List.replicate j v ++ [v] = List.replicate (j + 1) v := List.replicate_append_replicate (n := j) (m := 1)
      have hget : (u64s (List.replicate j v))[0]? = some (.int .u64 (v : Nat)) := by rw [u64s_get (by simp; omega)]; simp
      refine AW.gg ?_ (by simp only [go_sem, ↓reduceIte, d1] <;> rfl)
      refine AW.condT rfl ?_
      refine AW.go ?_ (by simp only [go_sem, ↓reduceIte, List.length_replicate, hj0, hget, u64s_one, k1, k2, ei, er] <;> rfl)
      refine AW.again hK (j + 1) ⟨by omega, .inr hlt⟩ (by omega)
    · have d1 : decide (j < n) = false := decide_eq_false hlt
      refine AW.gg ?_ (by simp only [go_sem, ↓reduceIte, d1] <;> rfl)
      refine AW.condF rfl ?_
      refine AW.freeze (p := .slot 9) (by simp only [go_sem, ↓reduceIte, freeze, freezeO] <;> rfl) ?_
      have hle : n ≤ j := by omega
      have htk : (List.replicate j v).take n = List.replicate n v := by rw [List.take_replicate, Nat.min_eq_left hle]
      refine AW.go ?_ (by simp only [go_sem, ↓reduceIte, List.length_replicate, hle, htk, Int.sub_zero, List.drop_zero] <;> rfl)
      refine AW.finE (.pv _ (.pv _ .nil)) rfl

theorem refdec_fn (l : List Nat) (n : Int) (hl : l.length ≤ 2 ^ 40) (hb : ∀ x ∈ l, x < 256) : Fn Tryz.prog 36 [] [.pv (.sl 1 (bytes l)), .pv (.int .i64 n)]
    (fun rs H' => rs = [.pv (.sl 1 (u64s (dec11 l n).1)), .pv (.int .i64 (dec11 l n).2)] ∧ H' = []) := by
  refine Fn.of_body (fn := Tryz.f36) (n := 47) (res := [.tmp 4, .tmp 5]) (by kernel_rfl) rfl rfl rfl rfl rfl (fun C => ?_)
  have hr : room = 140737488355328 := rfl
  by_cases hn : n < 0 ∨ 65536 < n
  · rw [dec11_arg hn]
    by_cases h0 : n < 0
    · have d1 : decide (n < 0) = true := decide_eq_true h0
      refine AW.gg ?_ (by simp only [go_sem, ↓reduceIte, d1] <;> rfl)
      refine AW.condT rfl ?_
      refine AW.go ?_
      refine AW.freeze (p := .slot 4) (by simp only [go_sem, ↓reduceIte, freeze, freezeO] <;> rfl) ?_
      refine AW.finE (.pv _ (.pv _ .nil)) rfl
    · have d1 : decide (n < 0) = false := decide_eq_false h0
      have d2 : decide (n > 65536) = true := decide_eq_true (by omega)
      refine AW.gg ?_ (by simp only [go_sem, ↓reduceIte, d1, d2] <;> rfl)
      refine AW.condT rfl ?_
      refine AW.go ?_
      refine AW.freeze (p := .slot 4) (by simp only [go_sem, ↓reduceIte, freeze, freezeO] <;> rfl) ?_
      refine AW.finE (.pv _ (.pv _ .nil)) rfl
  have d1 : decide (n < 0) = false := decide_eq_false (by omega)
  have d2 : decide (n > 65536) = false := decide_eq_false (by omega)
  refine AW.gg ?_ (by simp only [go_sem, ↓reduceIte, d1, d2] <;> rfl)
  refine AW.condF rfl ?_
  obtain ⟨n, rfl⟩ : ∃ m : Nat, n = m := ⟨n.toNat, by omega⟩
  refine AW.go ?_
  refine AW.cond rfl (fun hc => ?_) (fun hc => ?_)
  · have hnil : l = [] := by simpa using hc
    subst hnil
    rw [dec11_nil hn]
    refine AW.go ?_
    refine AW.freeze (p := .slot 4) (by simp only [go_sem, ↓reduceIte, freeze, freezeO] <;> rfl) ?_
    refine AW.finE (.pv _ (.pv _ .nil)) rfl
  have hnil : l ≠ [] := by simpa using hc
  obtain ⟨t, r, rfl⟩ : ∃ t r, l = t :: r := by cases l with | nil => exact absurd rfl hnil | cons t r => exact ⟨t, r, rfl⟩
  rw [dec11_cons t r hn]
  have ht : t < 256 := hb t (by simp)
  have hbr : ∀ x ∈ r, x < 256 := fun x hx => hb x (by simp [hx])
  refine AW.go ?_
  refine AW.cond rfl (fun hc => ?_) (fun hc => ?_)
  · have h4 : 4 ≤ t := by simp at hc; omega
    simp only [if_pos h4]
    refine AW.go ?_
    refine AW.freeze (p := .slot 4) (by simp only [go_sem, ↓reduceIte, freeze, freezeO] <;> rfl) ?_
    refine AW.finE (.pv _ (.pv _ .nil)) rfl
  have h4 : ¬ 4 ≤ t := by simp at hc; omega
  simp only [if_neg h4]
  have et : IntKind.i64.wrap (t : Int) = t := wrap_i64_nat (by omega)
  have hlr : r.length ≤ 2 ^ 40 := by simp at hl; omega
  have hsl : (bytes (List.drop 1 (t :: r))).take (((r.length + 1 : Nat) : Int) - 1).toNat = bytes r := by
    rw [bytes_take]; congr 1; simp
  refine AW.go ?_
  have e1 : ((1 : Int) ≤ ((r.length + 1 : Nat) : Int)) = True := by simp; omega
  have e2 : (((r.length + 1 : Nat) : Int) - 1).toNat = r.length := by omega
  refine AW.any0 mixed ?_
  refine AW.takes (fuel := 8) [0, 2, 3, 1, 4] ?_ (by simp only [go_sem, ↓reduceIte, List.length_cons, e1, e2, List.drop_succ_cons, List.drop_zero, List.take_length] <;> rfl) Ends.noPanic (listed' := #[true, true, true, true, true, false, false, false, false, false, false, false, false]) (by decide +kernel) (by decide +kernel)
  refine AW.seqs (fuel := 4) (listed' := #[true, true, true, true, true, true, true, true, true, false, false, false, false]) [5, 6, 7, 8] ?_ (by decide +kernel)
  refine AW.gg ?_ (by simp only [go_sem, ↓reduceIte, et] <;> rfl)
  refine AW.callE (fun _ => 0) (refread_fn r n t (by omega) (by omega) hlr hbr) (.pv _ (.pv _ (.pv _ .nil))) ?_
  refine AW.gg ?_
  refine AW.takes (fuel := 0) [9, 10, 11, 12] ?_ (by simp only [go_sem, ↓reduceIte] <;> rfl) Ends.noPanic (listed' := #[true, true, true, true, true, true, true, true, true, true, true, true, true]) (by decide +kernel) (by decide +kernel)
  refine AW.anyDone (by decide +kernel) ?_
  have hlt := rd11_lt hbr n t
  generalize rd11 r n t = q at *
  obtain ⟨xs, e⟩ := q
  simp only at hlt ⊢
  refine AW.go ?_
  refine AW.cond rfl (fun hc2 => ?_) (fun hc2 => ?_)
  · have hne : e ≠ 0 := by simpa using hc2
    simp only [if_pos hne]
    refine AW.go ?_
    refine AW.freeze (p := .slot 4) (by simp only [go_sem, ↓reduceIte, freeze, freezeO] <;> rfl) ?_
    refine AW.finE (.pv _ (.pv _ .nil)) rfl
  have hne : ¬ e ≠ 0 := by simpa using hc2
  simp only [if_neg hne]
  refine AW.go ?_
  refine AW.callE (fun _ => 0) (refEnc_fn xs hlt) (.pv _ .nil) ?_
  refine AW.go ?_
  refine AW.callE (fun _ => 0) (ref01Same_fn (encV xs).1 (t :: r) (encV_room xs)) (.lend rfl co_5 (.pv _ .nil)) ?_
  refine AW.go ?_
  refine AW.cond rfl (fun hc2 => ?_) (fun hc2 => ?_)
  · have hne : ¬ (encV xs).1 = t :: r := by simpa using hc2
    simp only [if_neg hne]
    refine AW.go ?_
    refine AW.freeze (p := .slot 4) (by simp only [go_sem, ↓reduceIte, freeze, freezeO] <;> rfl) ?_
    refine AW.finE (.pv _ (.pv _ .nil)) rfl
  · have hne : (encV xs).1 = t :: r := by simpa using hc2
    simp only [if_pos hne]
    refine AW.go ?_
    refine AW.finE (.pv _ (.pv _ .nil)) rfl
end Go.Ck

set_option linter.unusedVariables false
set_option maxRecDepth 10000
set_option maxHeartbeats 1000000
namespace Go.Ck
open Go.Proofs
/-- What the reference's own reader yields. -/
def okL2 (r : List Nat × Int) : List Nat × Int := (if r.2 = 0 then r.1 else [], r.2)
theorem okL2_err {e : Int} (h : e ≠ 0) (l : List Nat) : okL2 (l, e) = ([], e) := by unfold okL2; rw [if_neg h]
theorem okL2_ok (l : List Nat) : okL2 (l, 0) = (l, 0) := rfl
theorem plain0_fn (l : List Nat) (n : Nat) (hn : n ≤ 65536) (hl : l.length ≤ 2 ^ 40) (hb : ∀ x ∈ l, x < 256) (t : Nat) (ht : n = 0 ∨ t = 0) : Fn Tryz.prog 81 [] [.pv (.sl 1 (bytes l)), .pv (.int .i64 n), .pv (.int .i64 t)]
    (fun rs H' => rs = [.own 39 (u64s (okL2 (rwN n [] l)).1), .pv (.int .i64 (okL2 (rwN n [] l)).2)] ∧ H' = []) := by
  refine Fn.of_body (fn := Tryz.f81) (n := 44) (res := [.tmp 6, .tmp 7]) (by kernel_rfl) rfl rfl rfl rfl rfl (fun C => ?_)
  have hr : room = 140737488355328 := rfl
  refine AW.go ?_
  refine AW.loopS (fun a : Nat × List Nat × List Nat => ⟨44, [(9, .pv (.int .i64 a.1)), (8, .own 39 (u64s a.2.1)), (2, .pv (.int .i64 t)), (1, .pv (.int .i64 n)), (0, .pv (.sl 1 (bytes a.2.2)))], []⟩) (fun a => a.1 ≤ n ∧ rwN (n - a.1) a.2.1 a.2.2 = rwN n [] l ∧ (∀ x ∈ a.2.2, x < 256) ∧ a.2.2.length ≤ l.length ∧ a.2.1.length = a.1) (fun a => n - a.1) [9, 8, 2, 1, 0] [] (0, [], l) ⟨Nat.zero_le _, rfl, hb, Nat.le_refl _, rfl⟩ ?_
  rintro ⟨i, acc, q⟩ ⟨hi, hrw, hq, hql, hal⟩ K hK
  simp only at hi hrw hq hql hal
  rw [← hrw] at hK ⊢
  refine AW.go ?_
  refine AW.cond rfl (fun hc => ?_) (fun hc => ?_)
  · have hlt : i < n := by simpa using hc
    have ht0 : t = 0 := by omega
    have ht1 : ((t : Int) == 1) = false := by simp; omega
    obtain ⟨m, hm⟩ : ∃ m, n - i = m + 1 := ⟨n - i - 1, by omega⟩
    have hst : rwN (n - i) acc q = if q.length < 8 then ([], 2) else rwN m (acc ++ [beN (q.take 8)]) (q.drop 8) := by rw [hm, rwN]
    rw [hst]
    have ei : IntKind.i64.wrap ((i : Int) + 1) = ((i + 1 : Nat) : Int) := wrap_i64_succ (by omega)
    refine AW.go ?_
    refine AW.callE (fun _ => 0) (refFixed_fn q 8 (by omega) (by omega) hq) (.pv _ (.pv _ .nil)) ?_
    by_cases h8 : 8 ≤ q.length
    · simp only [if_pos h8]
      rw [if_neg (by omega)] at hst ⊢
      generalize beN (q.take 8) = v at *
      have h1 : (i + 1) * 8 ≤ room := by omega
      have h2 : i + 1 ≤ room := by omega
      refine AW.go ?_ (by simp only [go_sem, ↓reduceIte, ht1] <;> rfl)
      refine AW.condF rfl ?_
      refine AW.go ?_
      refine AW.condF rfl ?_
      refine AW.go ?_ (by simp only [go_sem, ↓reduceIte, hal, u64s_one, h1, h2, ei] <;> rfl)
      refine AW.again hK (i + 1, acc ++ [v], q.drop 8) ⟨hlt, by rw [show n - (i + 1) = m by omega, hst], fun x hx => hq x (List.mem_of_mem_drop hx), by simp only [List.length_drop]; omega, by simp [hal]⟩ (by simp only; omega)
    · simp only [if_neg h8]
      rw [if_pos (by omega), okL2_err (by omega)]
      refine AW.go ?_ (by simp only [go_sem, ↓reduceIte, ht1] <;> rfl)
      refine AW.condF rfl ?_
      refine AW.go ?_
      refine AW.condT rfl ?_
      refine AW.go ?_
      refine AW.finE (.move rfl (.pv _ .nil)) rfl
  · have hge : n - i = 0 := by simp at hc; omega
    rw [hge, rwN]
    by_cases hqe : q = []
    · subst hqe
      rw [if_pos rfl, okL2_ok]
      refine AW.go ?_
      refine AW.condF rfl ?_
      refine AW.go ?_
      refine AW.finE (.move rfl (.pv _ .nil)) rfl
    · rw [if_neg hqe, okL2_err (by omega)]
      have hq0 : 0 < q.length := by cases q with | nil => exact absurd rfl hqe | cons a r => simp
      have d2 : decide (0 < q.length) = true := decide_eq_true hq0
      have d2i : decide ((q.length : Int) > 0) = true := decide_eq_true (by omega)
      refine AW.go ?_ (by simp only [go_sem, ↓reduceIte, d2, d2i] <;> rfl)
      refine AW.condT rfl ?_
      refine AW.go ?_
      refine AW.finE (.move rfl (.pv _ .nil)) rfl

theorem plain1_fn (l : List Nat) (n : Nat) (hn : n ≤ 65536) (hl : l.length ≤ 2 ^ 40) (hb : ∀ x ∈ l, x < 256) : Fn Tryz.prog 81 [] [.pv (.sl 1 (bytes l)), .pv (.int .i64 n), .pv (.int .i64 1)]
    (fun rs H' => rs = [.own 39 (u64s (okL2 (rvN n [] l)).1), .pv (.int .i64 (okL2 (rvN n [] l)).2)] ∧ H' = []) := by
  refine Fn.of_body (fn := Tryz.f81) (n := 44) (res := [.tmp 6, .tmp 7]) (by kernel_rfl) rfl rfl rfl rfl rfl (fun C => ?_)
  have hr : room = 140737488355328 := rfl
  refine AW.go ?_
  refine AW.loopS (fun a : Nat × List Nat × List Nat => ⟨44, [(9, .pv (.int .i64 a.1)), (8, .own 39 (u64s a.2.1)), (2, .pv (.int .i64 1)), (1, .pv (.int .i64 n)), (0, .pv (.sl 1 (bytes a.2.2)))], []⟩) (fun a => a.1 ≤ n ∧ rvN (n - a.1) a.2.1 a.2.2 = rvN n [] l ∧ (∀ x ∈ a.2.2, x < 256) ∧ a.2.2.length ≤ l.length ∧ a.2.1.length = a.1) (fun a => n - a.1) [9, 8, 2, 1, 0] [] (0, [], l) ⟨Nat.zero_le _, rfl, hb, Nat.le_refl _, rfl⟩ ?_
  rintro ⟨i, acc, q⟩ ⟨hi, hrw, hq, hql, hal⟩ K hK
  simp only at hi hrw hq hql hal
  rw [← hrw] at hK ⊢
  refine AW.go ?_
  refine AW.cond rfl (fun hc => ?_) (fun hc => ?_)
  · have hlt : i < n := by simpa using hc
    obtain ⟨m, hm⟩ : ∃ m, n - i = m + 1 := ⟨n - i - 1, by omega⟩
    have hst : rvN (n - i) acc q = if (readV q).2.2 ≠ 0 then ([], (readV q).2.2) else rvN m (acc ++ [(readV q).1]) (q.drop (readV q).2.1) := by rw [hm, rvN]
    rw [hst]
    have ei : IntKind.i64.wrap ((i : Int) + 1) = ((i + 1 : Nat) : Int) := wrap_i64_succ (by omega)
    refine AW.go ?_
    refine AW.callE (fun _ => 0) (refFixed_fn q 8 (by omega) (by omega) hq) (.pv _ (.pv _ .nil)) ?_
    generalize (if 8 ≤ q.length then beN (q.take 8) else 0) = j1
    generalize (if 8 ≤ q.length then q.drop 8 else q) = j2
    generalize (if 8 ≤ q.length then (0 : Int) else 2) = j3
    refine AW.go ?_
    refine AW.condT rfl ?_
    refine AW.go ?_
    refine AW.callE (fun _ => 0) (refVarint_fn q (by omega) hq) (.pv _ .nil) ?_
    have hp2 : ∀ x ∈ q.drop (readV q).2.1, x < 256 := fun x hx => hq x (List.mem_of_mem_drop hx)
    have hpl2 : (q.drop (readV q).2.1).length ≤ l.length := by rw [List.length_drop]; omega
    generalize q.drop (readV q).2.1 = p2 at *
    generalize (readV q).1 = u at *
    generalize (readV q).2.2 = e2 at *
    refine AW.go ?_
    refine AW.cond rfl (fun hc2 => ?_) (fun hc2 => ?_)
    · have he2 : e2 ≠ 0 := by simpa using hc2
      rw [if_pos he2, okL2_err he2]
      refine AW.go ?_
      refine AW.finE (.move rfl (.pv _ .nil)) rfl
    · have he2 : ¬ e2 ≠ 0 := by simpa using hc2
      rw [if_neg he2] at hst ⊢
      have h1 : (i + 1) * 8 ≤ room := by omega
      have h2 : i + 1 ≤ room := by omega
      refine AW.go ?_ (by simp only [go_sem, ↓reduceIte, hal, u64s_one, h1, h2, ei] <;> rfl)
      refine AW.again hK (i + 1, acc ++ [u], p2) ⟨hlt, by rw [show n - (i + 1) = m by omega, hst], hp2, hpl2, by simp [hal]⟩ (by simp only; omega)
  · have hge : n - i = 0 := by simp at hc; omega
    rw [hge, rvN]
    by_cases hqe : q = []
    · subst hqe
      rw [if_pos rfl, okL2_ok]
      refine AW.go ?_
      refine AW.condF rfl ?_
      refine AW.go ?_
      refine AW.finE (.move rfl (.pv _ .nil)) rfl
    · rw [if_neg hqe, okL2_err (by omega)]
      have hq0 : 0 < q.length := by cases q with | nil => exact absurd rfl hqe | cons a r => simp
      have d2 : decide (0 < q.length) = true := decide_eq_true hq0
      have d2i : decide ((q.length : Int) > 0) = true := decide_eq_true (by omega)
      refine AW.go ?_ (by simp only [go_sem, ↓reduceIte, d2, d2i] <;> rfl)
      refine AW.condT rfl ?_
      refine AW.go ?_
      refine AW.finE (.move rfl (.pv _ .nil)) rfl

theorem rdI_zero (l : List Nat) (t : Nat) : rdI l 0 t = ([], if l = [] then 0 else 3) := by
  unfold rdI
  split
  · rfl
  · unfold numI; rw [if_pos rfl]
theorem rdI_one (l : List Nat) (n : Nat) : rdI l n 1 = rvN n [] l := by
  unfold rdI
  rw [if_neg (by omega)]
  unfold numI
  cases n with
  | zero => rfl
  | succ n =>
    rw [if_neg (by omega), rvN]
    split
    · rfl
    · rw [if_pos rfl]; rfl
theorem read08_fn (l : List Nat) (n t : Nat) (hn : n ≤ 65536) (ht : t ≤ 4) (hl : l.length ≤ 2 ^ 40) (hb : ∀ x ∈ l, x < 256) : Fn Tryz.prog 58 [] [.pv (.sl 1 (bytes l)), .pv (.int .i64 n), .pv (.int .i64 t)]
    (fun rs H' => rs = [.own 39 (u64s (okL2 (rdI l n t)).1), .pv (.int .i64 (okL2 (rdI l n t)).2)] ∧ H' = []) := by
  refine Fn.of_body (fn := Tryz.f58) (n := 69) (res := [.tmp 6, .tmp 7]) (by kernel_rfl) rfl rfl rfl rfl rfl (fun C => ?_)
  have hr : room = 140737488355328 := rfl
  refine AW.go ?_
  refine AW.cond rfl (fun hc => ?_) (fun hc => ?_)
  · have h1 : t ≤ 1 := by simp at hc; omega
    rcases Nat.lt_or_ge t 1 with h0 | h0
    · have ht0 : t = 0 := by omega
      have hrd : rdI l n t = rwN n [] l := by unfold rdI; rw [if_pos ht0]
      rw [hrd]
      refine AW.go ?_
      refine AW.callE (fun _ => 0) (plain0_fn l n hn hl hb t (.inr ht0)) (.pv _ (.pv _ (.pv _ .nil))) ?_
      refine AW.go ?_
      refine AW.finE (.move rfl (.pv _ .nil)) rfl
    · have ht1 : t = 1 := by omega
      subst ht1
      rw [rdI_one]
      refine AW.go ?_
      refine AW.callE (fun _ => 0) (plain1_fn l n hn hl hb) (.pv _ (.pv _ (.pv _ .nil))) ?_
      refine AW.go ?_
      refine AW.finE (.move rfl (.pv _ .nil)) rfl
  have h1 : ¬ t ≤ 1 := by simp at hc; omega
  refine AW.go ?_
  refine AW.cond rfl (fun hc => ?_) (fun hc => ?_)
  · have h0 : n = 0 := by simpa using hc
    subst h0
    have hpl := plain0_fn l 0 (by omega) hl hb t (.inl rfl)
    have hrw : rwN 0 [] l = rdI l 0 t := by rw [rdI_zero]; rfl
    rw [hrw] at hpl
    refine AW.go ?_
    refine AW.callE (fun _ => 0) hpl (.pv _ (.pv _ (.pv _ .nil))) ?_
    refine AW.go ?_
    refine AW.finE (.move rfl (.pv _ .nil)) rfl
  have h0 : ¬ n = 0 := by simpa using hc
  have hrd : rdI l n t = if (readV l).2.2 ≠ 0 then ([], (readV l).2.2) else ((readV l).1 :: (underI (l.drop (readV l).2.1) (n - 1) t).1, (underI (l.drop (readV l).2.1) (n - 1) t).2) := by
    unfold rdI numI
    rw [if_neg (by omega), if_neg h0]
    congr 1
    rw [if_neg (by omega)]
  rw [hrd]
  refine AW.go ?_
  refine AW.callE (fun _ => 0) (refVarint_fn l (by omega) hb) (.pv _ .nil) ?_
  have hq : ∀ x ∈ l.drop (readV l).2.1, x < 256 := fun x hx => hb x (List.mem_of_mem_drop hx)
  have hql : (l.drop (readV l).2.1).length ≤ 2 ^ 40 := by rw [List.length_drop]; omega
  generalize l.drop (readV l).2.1 = q at *
  generalize (readV l).1 = v at *
  generalize (readV l).2.2 = e at *
  refine AW.go ?_
  refine AW.cond rfl (fun hc => ?_) (fun hc => ?_)
  · have he : e ≠ 0 := by simpa using hc
    rw [if_pos he, okL2_err he]
    refine AW.go ?_
    refine AW.finE (.move rfl (.pv _ .nil)) rfl
  have he : ¬ e ≠ 0 := by simpa using hc
  rw [if_neg he]
  have en1 : IntKind.i64.wrap ((n : Int) - 1) = ((n - 1 : Nat) : Int) := by rw [wrap_i64_of (by omega) (by omega)]; omega
  have hul := (underI_inv (n - 1) t hq).1
  refine AW.go ?_
  refine AW.joinS (fun _ : Unit => ⟨69, [(11, .own 39 (u64s (underI q (n - 1) t).1)), (10, .pv (.int .i64 (underI q (n - 1) t).2)), (8, .pv (.int .u64 v))], []⟩) (fun _ => True) [11, 10, 8] [] ?_ ?_
  · intro K hK
    refine AW.cond rfl (fun hc => ?_) (fun hc => ?_)
    · have h2 : t = 2 := by simp at hc; omega
      have hu : underI q (n - 1) t = unF q (n - 1) := by unfold underI; rw [if_pos h2]
      refine AW.go ?_ (by simp only [go_sem, ↓reduceIte, en1] <;> rfl)
      refine AW.callE (fun _ => 0) (refUnpack_fn q (n - 1) (by omega) hql hq) (.pv _ (.pv _ .nil)) ?_
      refine AW.go ?_
      refine AW.meet hK () trivial (by simp only [go_sem, ↓reduceIte]) (by simp only [go_sem, ↓reduceIte, hu] <;> rfl)
    have h2 : ¬ t = 2 := by simp at hc; omega
    refine AW.go ?_
    refine AW.cond rfl (fun hc => ?_) (fun hc => ?_)
    · have h3 : t = 3 := by simp at hc; omega
      have hu : underI q (n - 1) t = decS q (n - 1) := by unfold underI; rw [if_neg h2, if_pos h3]
      refine AW.go ?_ (by simp only [go_sem, ↓reduceIte, en1] <;> rfl)
      refine AW.callE (fun _ => 0) (refSimpleDec_fn q (n - 1) (by omega) hql hq) (.pv _ (.pv _ .nil)) ?_
      refine AW.go ?_
      refine AW.meet hK () trivial (by simp only [go_sem, ↓reduceIte]) (by simp only [go_sem, ↓reduceIte, hu] <;> rfl)
    · have h3 : ¬ t = 3 := by simp at hc; omega
      have hu : underI q (n - 1) t = decR q (n - 1) := by unfold underI; rw [if_neg h2, if_neg h3]
      refine AW.go ?_ (by simp only [go_sem, ↓reduceIte, en1] <;> rfl)
      refine AW.callE (fun _ => 0) (refRunsDec_fn q (n - 1) (by omega) hql hq) (.pv _ (.pv _ .nil)) ?_
      refine AW.go ?_
      refine AW.meet hK () trivial (by simp only [go_sem, ↓reduceIte]) (by simp only [go_sem, ↓reduceIte, hu] <;> rfl)
  rintro _ -
  generalize underI q (n - 1) t = r at *
  obtain ⟨rb, re⟩ := r
  simp only at hul ⊢
  refine AW.go ?_
  refine AW.cond rfl (fun hc => ?_) (fun hc => ?_)
  · have he : re ≠ 0 := by simpa using hc
    rw [okL2_err he]
    refine AW.go ?_
    refine AW.finE (.move rfl (.pv _ .nil)) rfl
  · have he : re = 0 := by simpa using hc
    subst he
    rw [okL2_ok]
    have h2 : (1 + rb.length) * 8 ≤ room := by omega
    have h3 : 1 + rb.length ≤ room := by omega
    refine AW.go ?_ (by simp only [go_sem, ↓reduceIte, u64s_one, List.length_cons, List.length_nil, Nat.zero_add, List.cons_append, List.nil_append, h2, h3] <;> rfl)
    refine AW.finE (.move rfl (.pv _ .nil)) rfl
end Go.Ck

set_option linter.unusedVariables false
set_option maxRecDepth 10000
set_option maxHeartbeats 1000000
namespace Go.Ck
open Go.Proofs
theorem refDecI_fn (b : List Nat) (w : Int) (hl : b.length ≤ 2 ^ 40) (hb : ∀ x ∈ b, x < 256) : Fn Tryz.prog 35 [] [.pv (.sl 1 (bytes b)), .pv (.int .i64 w)]
    (fun rs H' => rs = [.own 3 (ints (decI b w).1), .pv (.int .i64 (decI b w).2)] ∧ H' = []) := by
  refine Fn.of_body (fn := Tryz.f35) (n := 84) (res := [.tmp 4, .tmp 5]) (by kernel_rfl) rfl rfl rfl rfl rfl (fun C => ?_)
  have hr : room = 140737488355328 := rfl
  unfold decI
  by_cases hw : w < 0 ∨ 65536 < w
  · rw [if_pos hw]
    by_cases h0 : w < 0
    · have d0 : decide (w < 0) = true := decide_eq_true h0
      refine AW.gg ?_ (by simp only [go_sem, ↓reduceIte, d0] <;> rfl)
      refine AW.condT rfl ?_
      refine AW.go ?_
      refine AW.finE (.move rfl (.pv _ .nil)) rfl
    · have d0 : decide (w < 0) = false := decide_eq_false h0
      have d5 : decide (w > 65536) = true := decide_eq_true (by omega)
      have d5' : decide (65536 < w) = true := decide_eq_true (by omega)
      refine AW.gg ?_ (by simp only [go_sem, ↓reduceIte, d0, d5, d5'] <;> rfl)
      refine AW.condT rfl ?_
      refine AW.go ?_
      refine AW.finE (.move rfl (.pv _ .nil)) rfl
  rw [if_neg hw]
  obtain ⟨n, rfl⟩ : ∃ n : Nat, w = n := ⟨w.toNat, by omega⟩
  have hn : n ≤ 65536 := by omega
  rw [Int.toNat_natCast]
  have d5 : decide ((n : Int) > 65536) = false := decide_eq_false (by omega)
  have d5' : decide ((65536 : Int) < (n : Int)) = false := decide_eq_false (by omega)
  refine AW.gg ?_ (by simp only [go_sem, ↓reduceIte, d5, d5'] <;> rfl)
  refine AW.condF rfl ?_
  cases b with
  | nil =>
    refine AW.go ?_
    refine AW.condT rfl ?_
    refine AW.go ?_
    refine AW.finE (.move rfl (.pv _ .nil)) rfl
  | cons t l =>
    have htb := hb t (by simp)
    have hbl : ∀ x ∈ l, x < 256 := fun x hx => hb x (by simp [hx])
    simp only [List.length_cons] at hl
    have e0 : (((t :: l).length : Int) == 0) = false := by simp; omega
    have hg0 := bytes_get0 t l
    have ec : IntKind.i64.wrap ((t : Nat) : Int) = (t : Int) := wrap_i64_nat (by omega)
    refine AW.go ?_ (by simp only [go_sem, ↓reduceIte, e0] <;> rfl)
    refine AW.condF rfl ?_
    refine AW.go ?_ (by simp only [go_sem, ↓reduceIte, hg0, ec] <;> rfl)
    simp only [decI1]
    refine AW.cond rfl (fun hc => ?_) (fun hc => ?_)
    · have h5 : 5 ≤ t := by simp at hc; omega
      simp only [if_pos h5]
      refine AW.go ?_
      refine AW.finE (.move rfl (.pv _ .nil)) rfl
    have h5 : ¬ 5 ≤ t := by simp at hc; omega
    simp only [if_neg h5]
    have hinv := rdI_inv n t hbl
    have v1 : (1 : Int) ≤ ((l.length + 1 : Nat) : Int) := by omega
    have v2 : (((l.length + 1 : Nat) : Int) - 1).toNat = l.length := by omega
    have v3 : ((bytes (t :: l)).drop 1).take l.length = bytes l := by
      show (bytes l).take l.length = bytes l
      rw [List.take_of_length_le (by rw [bytes_length]; exact Nat.le_refl _)]
    refine AW.go ?_ (by simp only [go_sem, ↓reduceIte, List.length_cons, v1, v2, List.take_length] <;> rfl)
    refine AW.callE (fun _ => 0) (read08_fn l n t hn (by omega) (by omega) hbl) (.pv _ (.pv _ (.pv _ .nil))) ?_
    refine AW.freeze (p := .part 34 0) (by simp only [go_sem, ↓reduceIte, freeze, freezeO] <;> rfl) ?_
    unfold decI0
    have hvr := valI_r (rdI l n t).1 t hinv.2
    generalize rdI l n t = r at *
    obtain ⟨z, e⟩ := r
    obtain ⟨i1, i2⟩ := hinv
    simp only at hvr i1 i2 ⊢
    by_cases he : e ≠ 0
    · rw [okL2_err he]
      simp only [if_pos he]
      have heb : (e != 0) = true := by simpa using he
      refine AW.go ?_ (by simp only [go_sem, ↓reduceIte, heb] <;> rfl)
      refine AW.condT rfl ?_
      refine AW.go ?_
      refine AW.finE (.move rfl (.pv _ .nil)) rfl
    have he : e = 0 := by simpa using he
    subst he
    rw [okL2_ok]
    simp only [ne_eq, not_true_eq_false, if_false]
    refine AW.go ?_
    refine AW.condF rfl ?_
    refine AW.go ?_
    refine AW.loopS (fun i : Nat => ⟨84, [(10, .pv (.int .i64 i)), (9, .own 3 (ints ((z.take i).map (if t = 0 then i64of else zag)))), (7, .pv (.sl 1 (u64s z))), (6, .pv (.int .i64 t)), (0, .pv (.sl 1 (bytes (t :: l))))], []⟩) (fun i => i ≤ z.length) (fun i => z.length - i) [10, 9, 7, 6, 0] [] 0 (Nat.zero_le _) ?_
    rintro i hi K hK
    refine AW.go ?_
    refine AW.cond rfl (fun hc2 => ?_) (fun hc2 => ?_)
    · have hlt : i < z.length := by simpa using hc2
      have hget := u64s_get hlt
      have hti : (z.take (i + 1)).map (if t = 0 then i64of else zag) = (z.take i).map (if t = 0 then i64of else zag) ++ [(if t = 0 then i64of else zag) z[i]] := by rw [← List.map_singleton, ← List.map_append]; congr 1; simp
      have hxx := i2 _ (List.getElem_mem hlt)
      generalize z[i] = x at *
      have ei : IntKind.i64.wrap ((i : Int) + 1) = ((i + 1 : Nat) : Int) := wrap_i64_succ (by omega)
      have hml : ((z.take i).map (if t = 0 then i64of else zag)).length = i := by simp; omega
      have h1 : (i + 1) * 8 ≤ room := by omega
      have h2 : i + 1 ≤ room := by omega
      generalize (z.take i).map (if t = 0 then i64of else zag) = m at *
      refine AW.go ?_
      refine AW.cond rfl (fun hc3 => ?_) (fun hc3 => ?_)
      · have h0 : t = 0 := by simpa using hc3
        have hg : (if t = 0 then i64of else zag) x = i64of x := by rw [if_pos h0]
        rw [hg] at hti
        have hdv := i64of_def x
        refine AW.go ?_ (by simp only [go_sem, ↓reduceIte, hget, hlt, hdv, hml, ints_one, h1, h2, ← hti, ei] <;> rfl)
        refine AW.again hK (i + 1) hlt (by omega)
      · have h0 : ¬ t = 0 := by simpa using hc3
        have hg : (if t = 0 then i64of else zag) x = zag x := by rw [if_neg h0]
        rw [hg] at hti
        refine AW.go ?_ (by simp only [go_sem, ↓reduceIte, hget, hlt] <;> rfl)
        refine AW.callE (fun _ => 0) (refZag_fn x hxx) (.pv _ .nil) ?_
        refine AW.go ?_ (by simp only [go_sem, ↓reduceIte, hml, ints_one, h1, h2, ← hti, ei] <;> rfl)
        refine AW.again hK (i + 1) hlt (by omega)
    have hge : ¬ i < z.length := by simpa using hc2
    rw [List.take_of_length_le (by omega)]
    clear hK hc2
    refine AW.go ?_
    refine AW.joinS (fun _ : Unit => ⟨84, [(9, .own 3 (ints (valI z t))), (0, .pv (.sl 1 (bytes (t :: l))))], []⟩) (fun _ => True) [9, 0] [] ?_ ?_
    · intro K hK
      refine AW.cond rfl (fun hc2 => ?_) (fun hc2 => ?_)
      · have h0 : ¬ t = 0 := by simp at hc2; omega
        have hva : valI z t = sumS (z.map zag) (oft t) := by unfold valI; rw [if_neg h0]
        have hg : (if t = 0 then i64of else zag) = zag := if_neg h0
        rw [hg]
        have hml : (z.map zag).length = z.length := by simp
        refine AW.go ?_
        refine AW.joinS (fun _ : Unit => ⟨84, [(11, .pv (.int .i64 (oft t : Nat))), (9, .own 3 (ints (z.map zag))), (0, .pv (.sl 1 (bytes (t :: l))))], []⟩) (fun _ => True) [11, 9, 0] [] ?_ ?_
        · intro K2 hK2
          refine AW.cond rfl (fun hc3 => ?_) (fun hc3 => ?_)
          · have h3 : 3 ≤ t := by simp at hc3; omega
            have ho : ((oft t : Nat) : Int) = 2 := by unfold oft; rw [if_neg h0, if_pos (by omega)]; rfl
            refine AW.go ?_
            refine AW.meet hK2 () trivial (by simp only [go_sem, ↓reduceIte]) (by simp only [go_sem, ↓reduceIte, ho] <;> rfl)
          · have h3 : ¬ 3 ≤ t := by simp at hc3; omega
            have ho : ((oft t : Nat) : Int) = 1 := by unfold oft; rw [if_neg h0, if_neg (by omega)]; rfl
            refine AW.go ?_
            refine AW.meet hK2 () trivial (by simp only [go_sem, ↓reduceIte]) (by simp only [go_sem, ↓reduceIte, ho] <;> rfl)
        rintro _ -
        refine AW.go ?_
        refine AW.callE (fun _ => 0) (refSum_fn (z.map zag) (oft t) (oft_le t) (by omega)) (.lend rfl co_3 (.pv _ .nil)) ?_
        refine AW.go ?_
        refine AW.meet hK () trivial (by simp only [go_sem, ↓reduceIte]) (by simp only [go_sem, ↓reduceIte, hva] <;> rfl)
      · have h0 : t = 0 := by simp at hc2; omega
        have hva : valI z t = z.map i64of := by unfold valI; rw [if_pos h0]
        have hg : (if t = 0 then i64of else zag) = i64of := if_pos h0
        rw [hg]
        refine AW.go ?_
        refine AW.meet hK () trivial (by simp only [go_sem, ↓reduceIte]) (by simp only [go_sem, ↓reduceIte, hva] <;> rfl)
    rintro _ -
    generalize valI z t = xs at *
    have hel := encI_room hvr
    refine AW.go ?_
    refine AW.callE (fun _ => 0) (refEncI_fn xs hvr) (.lend rfl co_3 .nil) ?_
    refine AW.go ?_
    refine AW.callE (fun _ => 0) (ref01Same_fn (encI xs).1 (t :: l) (by omega)) (.lend rfl co_5 (.pv _ .nil)) ?_
    by_cases hq : (encI xs).1 = t :: l
    · rw [decide_eq_true hq]
      simp only [if_pos hq]
      refine AW.go ?_
      refine AW.condF rfl ?_
      refine AW.go ?_
      refine AW.finE (.move rfl (.pv _ .nil)) rfl
    · rw [decide_eq_false hq]
      simp only [if_neg hq]
      refine AW.go ?_
      refine AW.condT rfl ?_
      refine AW.go ?_
      refine AW.finE (.move rfl (.pv _ .nil)) rfl
end Go.Ck

set_option linter.unusedVariables false
set_option maxRecDepth 10000
set_option maxHeartbeats 1000000
namespace Go.Ck
open Go.Proofs
theorem refMost_fn (n : Int) (h : n < 2 ^ 63) : Fn Tryz.prog 10 [] [.pv (.int .i64 n)] (fun rs H' => rs = [.pv (.int .i64 (mostC n.toNat : Nat))] ∧ H' = []) := by
  refine Fn.of_body (fn := Tryz.f10) (n := 9) (res := [.tmp 2]) (by kernel_rfl) rfl rfl rfl rfl rfl (fun C => ?_)
  refine AW.go ?_
  refine AW.cond rfl (fun hc => ?_) (fun hc => ?_)
  · have h0 : n.toNat = 0 := by simp at hc; omega
    rw [h0]
    refine AW.go ?_
    refine AW.finE (.pv _ .nil) rfl
  obtain ⟨k, rfl⟩ : ∃ k : Nat, n = k := ⟨n.toNat, by simp at hc; omega⟩
  rw [Int.toNat_natCast]
  have e2 : (if (65536 : Int) < (k : Int) then (65536 : Int) else (k : Int)) = ((min k 65536 : Nat) : Int) := by split <;> omega
  have e3 : IntKind.i64.wrap (8 * ((min k 65536 : Nat) : Int)) = ((8 * min k 65536 : Nat) : Int) := (wrap_i64_of (by omega) (by omega)).trans (by simp)
  have e4 : IntKind.i64.wrap (1 + ((8 * min k 65536 : Nat) : Int)) = ((mostC k : Nat) : Int) := (wrap_i64_of (by omega) (by omega)).trans (by simp [mostC])
  refine AW.go ?_ (by simp only [go_sem, ↓reduceIte, e2, e3, e4] <;> rfl)
  refine AW.finE (.pv _ .nil) rfl

theorem refByte_fn (l : List Nat) : Fn Tryz.prog 34 [] [.pv (.sl 1 (bytes l))] (fun rs H' => rs = [.pv (.int .u8 (l.headD 0 : Nat)), .pv (.sl 1 (bytes l.tail)), .pv (.int .i64 (if l = [] then 2 else 0))] ∧ H' = []) := by
  refine Fn.of_body (fn := Tryz.f34) (n := 14) (res := [.tmp 2, .tmp 3, .tmp 4]) (by kernel_rfl) rfl rfl rfl rfl rfl (fun C => ?_)
  refine AW.go ?_
  refine AW.cond rfl (fun hc => ?_) (fun hc => ?_)
  · have h0 : l = [] := by cases l with | nil => rfl | cons x r => (simp at hc; omega)
    subst h0
    refine AW.go ?_
    refine AW.finE (.pv _ (.pv _ (.pv _ .nil))) rfl
  have h0 : l ≠ [] := by rintro rfl; simp at hc
  rw [if_neg h0]
  have g1 : 1 ≤ l.length := by cases l with | nil => exact absurd rfl h0 | cons x r => simp
  have g0 : 0 < l.length := g1
  have g1i : (1 : Int) ≤ (l.length : Int) := by omega
  have g0i : (0 : Int) < (l.length : Int) := by omega
  have hg : (bytes l)[0]? = some (.int .u8 (l.headD 0 : Nat)) := by cases l with | nil => exact absurd rfl h0 | cons x r => rfl
  have e1 : (((l.length : Int) - 1).toNat) = l.length - 1 := by omega
  have g5 : (l.drop 1).take (l.length - 1) = l.tail := by rw [List.take_of_length_le (by simp), List.drop_one]
  refine AW.go ?_
  refine AW.sr mixed (by decide +kernel) ?_ (by simp only [go_sem, ↓reduceIte, g1, g0, g1i, g0i, hg, e1, g5] <;> rfl)
  refine AW.go ?_
  refine AW.finE (.pv _ (.pv _ (.pv _ .nil))) rfl

theorem refBlocked_fn (l : List Nat) (hl : l.length + 20 ≤ room) : Fn Tryz.prog 21 [] [.pv (.sl 1 (bytes l))] (fun rs H' => rs = [.own 5 (bytes (leb l.length ++ l))] ∧ H' = []) := by
  refine Fn.of_body (fn := Tryz.f21) (n := 9) (res := [.tmp 2]) (by kernel_rfl) rfl rfl rfl rfl rfl (fun C => ?_)
  have hr : room < 2 ^ 63 := by decide
  have hu : IntKind.u64.wrap (l.length : Int) = (l.length : Int) := wrap_u64_lt (by omega)
  refine AW.go ?_ (by simp only [go_sem, ↓reduceIte, hu] <;> rfl)
  refine AW.callE (fun _ => 0) (refAppend_fn [] l.length (by omega) (by have := le_room 10; simp; omega)) (.nilsP 1 (.pv _ .nil)) ?_
  have hlen := leb_len10 (v := l.length) (by omega)
  have h1 : (leb l.length).length + l.length ≤ room := by omega
  refine AW.go ?_ (by simp only [go_sem, ↓reduceIte, h1, List.nil_append] <;> rfl)
  refine AW.finE (.move rfl .nil) rfl
end Go.Ck

set_option linter.unusedVariables false
set_option maxRecDepth 10000
set_option maxHeartbeats 1000000
namespace Go.Ck
open Go.Proofs
theorem ref12Enc_fn (t : List UInt8) (xs : List Sm) (ht : t.length ≤ maxLen) (hx : smOK xs) : Fn Tryz.prog 7 [] [.pv (chP (t, xs))]
    (fun rs H' => rs = [.own 5 (bytes (encC t xs).1), .pv (.int .i64 (encC t xs).2)] ∧ H' = []) := by
  refine Fn.of_body (fn := Tryz.f7) (n := 77) (res := [.tmp 2, .tmp 3]) (by kernel_rfl) rfl rfl rfl rfl rfl (fun C => ?_)
  have hr : room = 140737488355328 := rfl
  have hc : chP (t, xs) = .agg [.str t, .sl 2 (sms xs)] := rfl
  rw [hc]
  unfold encC
  by_cases h1 : 64 < t.length
  · have d1 : decide ((t.length : Int) > 64) = true := decide_eq_true (by omega)
    refine AW.gg ?_ (by simp only [go_sem, ↓reduceIte, d1] <;> rfl)
    refine AW.condT rfl ?_
    rw [if_pos (.inl h1)]
    refine AW.go ?_
    refine AW.finE (.move rfl (.pv _ .nil)) rfl
  have d1 : decide ((t.length : Int) > 64) = false := decide_eq_false (by omega)
  by_cases h2 : 65536 < xs.length
  · have d2 : decide ((xs.length : Int) > 65536) = true := decide_eq_true (by omega)
    refine AW.gg ?_ (by simp only [go_sem, ↓reduceIte, d1, d2, sms_len] <;> rfl)
    refine AW.condT rfl ?_
    rw [if_pos (.inr h2)]
    refine AW.go ?_
    refine AW.finE (.move rfl (.pv _ .nil)) rfl
  have d2 : decide ((xs.length : Int) > 65536) = false := decide_eq_false (by omega)
  refine AW.gg ?_ (by simp only [go_sem, ↓reduceIte, d1, d2, sms_len] <;> rfl)
  refine AW.condF rfl ?_
  rw [if_neg (by omega)]
  refine AW.go ?_ (by simp only [go_sem, ↓reduceIte, sms_len] <;> rfl)
  refine AW.loopS (fun p : Nat × List Int × List Nat => ⟨77, [(6, .pv (.int .i64 p.1)), (1, .ptr 1 0), (4, .own 3 (ints p.2.1)), (5, .own 39 (u64s p.2.2))], [(1, .cells 24 [.pv (.str t), .pv (.sl 2 (sms xs))])]⟩) (fun p => p.1 ≤ xs.length ∧ p.2.1 = (xs.map Prod.fst).take p.1 ∧ p.2.2 = (xs.map Prod.snd).take p.1) (fun p => xs.length - p.1) [6, 1, 4, 5] [1] (0, [], []) ⟨Nat.zero_le _, rfl, rfl⟩ ?_
  rintro ⟨i, A, B⟩ ⟨hi, hA, hB⟩ K hK
  simp only at hi hA hB
  refine AW.go ?_ (by simp only [go_sem, ↓reduceIte, sms_len] <;> rfl)
  refine AW.cond rfl (fun hc => ?_) (fun hc => ?_)
  · have hlt : i < xs.length := by simpa using hc
    have hg : (sms xs)[i]? = some (.agg [.int .i64 xs[i].1, .int .u64 (xs[i].2 : Nat)]) := by unfold sms; rw [List.getElem?_map, List.getElem?_eq_getElem hlt]; rfl
    have hAl : A.length = i := by rw [hA]; simp; omega
    have hBl : B.length = i := by rw [hB]; simp; omega
    have hA1 : A ++ [xs[i].1] = (xs.map Prod.fst).take (i + 1) := by rw [List.take_add_one, hA]; simp [hlt]
    have hB1 : B ++ [xs[i].2] = (xs.map Prod.snd).take (i + 1) := by rw [List.take_add_one, hB]; simp [hlt]
    generalize xs[i].1 = x at *
    generalize xs[i].2 = y at *
    have h1 : (A.length + 1) * 8 ≤ room := by omega
    have h2 : A.length + 1 ≤ room := by omega
    have h3 : (B.length + 1) * 8 ≤ room := by omega
    have h4 : B.length + 1 ≤ room := by omega
    have e1 : ints A ++ [PV.int .i64 x] = ints (A ++ [x]) := by simp [ints]
    have e2 : u64s B ++ [PV.int .u64 (y : Nat)] = u64s (B ++ [y]) := by simp [u64s]
    have ei : IntKind.i64.wrap ((i : Int) + 1) = ((i + 1 : Nat) : Int) := wrap_i64_succ (by omega)
    refine AW.go ?_ (by simp only [go_sem, ↓reduceIte, hlt, hg, sms_len, h1, h2, h3, h4, ei, e1, e2] <;> rfl)
    exact AW.again hK (i + 1, A ++ [x], B ++ [y]) ⟨by simp only; omega, hA1, hB1⟩ (by simp only; omega)
  have hge : i = xs.length := by simp at hc; omega
  subst hge
  have hA2 : A = xs.map Prod.fst := by rw [hA, List.take_of_length_le (by simp)]
  have hB2 : B = xs.map Prod.snd := by rw [hB, List.take_of_length_le (by simp)]
  subst hA2
  subst hB2
  have hx1 := hx.t
  have hx2 := hx.v
  have ln : (nb t).length = t.length := nb_len t
  have l1 : (encI (xs.map Prod.fst)).1.length ≤ 2 ^ 23 := encI_room hx1
  have l2 : (encV (xs.map Prod.snd)).1.length ≤ 8 * xs.length + 1 := by have := encV_len (xs.map Prod.snd); rw [List.length_map] at this; exact this
  have hfin : encI (xs.map Prod.fst) = (tmsC xs, (encI (xs.map Prod.fst)).2) := rfl
  have hfin2 : encV (xs.map Prod.snd) = (vlsC xs, (encV (xs.map Prod.snd)).2) := rfl
  refine AW.go ?_
  refine AW.callE (fun _ => 0) (refEncI_fn _ hx1) (.lend rfl co_3 .nil) ?_
  rw [hfin] at l1 ⊢
  simp only at l1 ⊢
  generalize (encI (xs.map Prod.fst)).2 = e1
  refine AW.go ?_
  refine AW.callE (fun _ => 0) (refEnc_fn _ hx2) (.lend rfl co_39 .nil) ?_
  rw [hfin2] at l2 ⊢
  simp only at l2 ⊢
  generalize (encV (xs.map Prod.snd)).2 = e2
  unfold bodyC
  generalize tmsC xs = ts at *
  generalize vlsC xs = vs at *
  refine AW.go ?_
  refine AW.ofStr ht tk_9 tk_26 tk_5 ?_
  rw [strBytes_nb]
  refine AW.go ?_
  have wl : IntKind.u64.wrap (xs.length : Int) = (xs.length : Int) := wrap_u64_lt (by omega)
  have l3 := leb_len10 (v := (nb t).length) (by omega)
  have l4 := leb_len10 (v := xs.length) (by omega)
  have l5 := leb_len10 (v := ts.length) (by omega)
  have l6 := leb_len10 (v := vs.length) (by omega)
  refine AW.callE (fun _ => 0) (refBlocked_fn (nb t) (by omega)) (.pv _ .nil) ?_
  have eb : leb (nb t).length ++ nb t = blkd (nb t) := rfl
  have ebl := blkd_len (nb t)
  rw [eb]
  generalize blkd (nb t) = bt at *
  have g1 : 1 + bt.length ≤ room := by omega
  refine AW.go ?_ (by simp only [go_sem, ↓reduceIte, bytes_one, wl, sms_len, g1, List.length_cons, List.length_nil, Nat.zero_add, List.cons_append, List.nil_append] <;> rfl)
  refine AW.callE (fun _ => 0) (refAppend_fn (1 :: bt) xs.length (by omega) (by simp; omega)) (.lend rfl co_5 (.pv _ .nil)) ?_
  try rw [List.cons_append]
  generalize hL : 1 :: (bt ++ leb xs.length) = L
  have hLl : L.length ≤ bt.length + 11 := by rw [← hL]; simp; omega
  refine AW.go ?_
  refine AW.callE (fun _ => 0) (refBlocked_fn ts (by omega)) (.lend rfl co_5 .nil) ?_
  have eb : leb ts.length ++ ts = blkd ts := rfl
  have ebl2 := blkd_len ts
  rw [eb]
  generalize blkd ts = bts at *
  have g2 : L.length + bts.length ≤ room := by omega
  refine AW.go ?_ (by simp only [go_sem, ↓reduceIte, g2] <;> rfl)
  refine AW.callE (fun _ => 0) (refBlocked_fn vs (by omega)) (.lend rfl co_5 .nil) ?_
  have eb : leb vs.length ++ vs = blkd vs := rfl
  have ebl3 := blkd_len vs
  rw [eb]
  generalize blkd vs = bvs at *
  have g3 : L.length + bts.length + bvs.length ≤ room := by omega
  have g4 : L.length + (bts.length + bvs.length) ≤ room := by omega
  have g5 : (L ++ bts).length + bvs.length ≤ room := by simp; omega
  have hfin3 : 1 :: (bt ++ (leb xs.length ++ (bts ++ bvs))) = L ++ bts ++ bvs := by rw [← hL]; simp
  rw [hfin3]
  refine AW.go ?_ (by simp only [go_sem, ↓reduceIte, g3, g4, g5, List.length_append] <;> rfl)
  refine AW.finE (.move rfl (.pv _ .nil)) rfl
end Go.Ck

set_option linter.unusedVariables false
set_option maxRecDepth 10000
set_option maxHeartbeats 1000000
namespace Go.Ck
open Go.Proofs
theorem ref12Dec_fn (b : List Nat) (hl : b.length ≤ 2 ^ 40) (hb : ∀ x ∈ b, x < 256) : Fn Tryz.prog 13 [] [.pv (.sl 1 (bytes b))]
    (fun rs H' => rs = [.pv (chP (decC b).1), .pv (.int .i64 (decC b).2)] ∧ H' = []) := by
  refine Fn.of_body (fn := Tryz.f13) (n := 128) (res := [.cell 2 24, .tmp 3]) (by kernel_rfl) rfl rfl rfl rfl rfl (fun C => ?_)
  have hr : room = 140737488355328 := rfl
  have hbad : ∀ e, decC b = noC e → [SV.pv (.agg [.str [], .sl 2 []]), .pv (.int .i64 e)] = [SV.pv (chP (decC b).1), .pv (.int .i64 (decC b).2)] := fun e h => by rw [h]; rfl
  refine AW.go ?_
  refine AW.nilsOwnAt (.cell 4 1) 41 ?_
  refine AW.freeze (p := .cell 4 1) (by simp only [go_sem, ↓reduceIte, freeze, freezeO] <;> rfl) ?_
  refine AW.callE (fun _ => 4) (refByte_fn b) (.pv _ .nil) ?_
  refine AW.go ?_
  refine AW.cond rfl (fun hc => ?_) (fun hc => ?_)
  · have hn : b = [] := Classical.byContradiction fun h => by rw [if_neg h] at hc; simp at hc
    subst hn
    refine AW.go ?_
    exact AW.finE (.pv _ (.pv _ .nil)) (hbad 2 rfl)
  obtain ⟨x, r, rfl⟩ : ∃ x r, b = x :: r := by
    cases b with
    | nil => simp at hc
    | cons x r => exact ⟨x, r, rfl⟩
  simp only [List.tail_cons, List.headD_cons]
  have hx := hb x (by simp)
  have hb1 : ∀ y ∈ r, y < 256 := fun y hy => hb y (by simp [hy])
  have hl1 : r.length ≤ 2 ^ 40 := by simp at hl; omega
  refine AW.go ?_
  refine AW.cond rfl (fun hc => ?_) (fun hc => ?_)
  · have hx1 : x ≠ 1 := by simp at hc; omega
    refine AW.go ?_
    exact AW.finE (.pv _ (.pv _ .nil)) (hbad _ (by rw [decC]; exact if_pos hx1))
  have hx1 : x = 1 := by simp at hc; omega
  subst hx1
  have e1 : decC (1 :: r) = decC1 r := by show (if (1 : Nat) ≠ 1 then noC 3 else decC1 r) = _; exact if_neg (by simp)
  rw [e1] at hbad ⊢
  clear e1 hb hx hl hc
  refine AW.go ?_
  refine AW.callE (fun _ => 0) (refBlock_fn r 64 (by decide) (by omega) hb1) (.pv _ (.pv _ .nil)) ?_
  refine AW.go ?_
  refine AW.cond rfl (fun hc => ?_) (fun hc => ?_)
  · have he : (blk r 64).2.1 ≠ 0 := by simpa using hc
    refine AW.go ?_
    exact AW.finE (.pv _ (.pv _ .nil)) (hbad _ (by rw [decC1, if_pos he]))
  have he : (blk r 64).2.1 = 0 := by simpa using hc
  have e2 : decC1 r = decC2 (ub (blk r 64).1) (blk r 64).2.2 := by rw [decC1, if_neg (by simpa using he)]
  rw [e2] at hbad ⊢
  obtain ⟨hbt, hb2, hlt, hl2⟩ := blk_byte (m := 64) hb1
  generalize blk r 64 = q at *
  obtain ⟨tb, te, r2⟩ := q
  simp only at *
  have hl2 : r2.length ≤ 2 ^ 40 := by omega
  clear e2
  refine AW.go ?_
  refine AW.callE (fun _ => 0) (refVarint_fn r2 (by omega) hb2) (.pv _ .nil) ?_
  refine AW.go ?_
  refine AW.cond rfl (fun hc => ?_) (fun hc => ?_)
  · have he : (readV r2).2.2 ≠ 0 := by simpa using hc
    refine AW.go ?_
    exact AW.finE (.pv _ (.pv _ .nil)) (hbad _ (by rw [decC2, if_pos he]))
  have he : (readV r2).2.2 = 0 := by simpa using hc
  have e3 : decC2 (ub tb) r2 = if 65536 < (readV r2).1 then noC 4 else decC3 (ub tb) (readV r2).1 (r2.drop (readV r2).2.1) := by rw [decC2, if_neg (by simpa using he)]
  rw [e3] at hbad ⊢
  have hb3 : ∀ y ∈ r2.drop (readV r2).2.1, y < 256 := fun y hy => hb2 y (List.mem_of_mem_drop hy)
  have hl3 : (r2.drop (readV r2).2.1).length ≤ 2 ^ 40 := by rw [List.length_drop]; omega
  clear e3
  generalize r2.drop (readV r2).2.1 = r3 at *
  generalize (readV r2).1 = n at *
  refine AW.go ?_
  refine AW.cond rfl (fun hc => ?_) (fun hc => ?_)
  · have hn : 65536 < n := by simp at hc; omega
    refine AW.go ?_
    exact AW.finE (.pv _ (.pv _ .nil)) (hbad _ (by rw [if_pos hn]))
  have hn : n ≤ 65536 := by simp at hc; omega
  rw [if_neg (by omega)] at hbad ⊢
  have en : IntKind.i64.wrap (n : Int) = (n : Int) := wrap_i64_nat (by omega)
  have hm := mostC_le n
  refine AW.go ?_ (by simp only [go_sem, ↓reduceIte, en] <;> rfl)
  refine AW.callE (fun _ => 0) (refMost_fn n (by omega)) (.pv _ .nil) ?_
  refine AW.go ?_
  refine AW.callE (fun _ => 0) (refBlock_fn r3 (mostC n) (by omega) (by omega) hb3) (.pv _ (.pv _ .nil)) ?_
  refine AW.go ?_
  refine AW.cond rfl (fun hc => ?_) (fun hc => ?_)
  · have he : (blk r3 (mostC n)).2.1 ≠ 0 := by simpa using hc
    refine AW.go ?_
    exact AW.finE (.pv _ (.pv _ .nil)) (hbad _ (by rw [decC3, if_pos he]))
  have he : (blk r3 (mostC n)).2.1 = 0 := by simpa using hc
  rw [decC3, if_neg (by simpa using he)] at hbad ⊢
  obtain ⟨hbts, hb4, hlts, hl4⟩ := blk_byte (m := mostC n) hb3
  generalize blk r3 (mostC n) = q at *
  obtain ⟨ts, te2, r4⟩ := q
  simp only at *
  have hl4 : r4.length ≤ 2 ^ 40 := by omega
  refine AW.go ?_ (by simp only [go_sem, ↓reduceIte, en] <;> rfl)
  refine AW.callE (fun _ => 0) (refMost_fn n (by omega)) (.pv _ .nil) ?_
  refine AW.go ?_
  refine AW.callE (fun _ => 0) (refBlock_fn r4 (mostC n) (by omega) (by omega) hb4) (.pv _ (.pv _ .nil)) ?_
  refine AW.go ?_
  refine AW.cond rfl (fun hc => ?_) (fun hc => ?_)
  · have he : (blk r4 (mostC n)).2.1 ≠ 0 := by simpa using hc
    refine AW.go ?_
    exact AW.finE (.pv _ (.pv _ .nil)) (hbad _ (by rw [if_pos he]))
  have he : (blk r4 (mostC n)).2.1 = 0 := by simpa using hc
  rw [if_neg (by simpa using he)] at hbad ⊢
  obtain ⟨hbvs, hb5, hlvs, hl5⟩ := blk_byte (m := mostC n) hb4
  generalize blk r4 (mostC n) = q at *
  obtain ⟨vs, te3, r5⟩ := q
  simp only at *
  refine AW.go ?_
  refine AW.cond rfl (fun hc => ?_) (fun hc => ?_)
  · have h5 : r5 ≠ [] := by rintro rfl; simp at hc
    refine AW.go ?_
    exact AW.finE (.pv _ (.pv _ .nil)) (hbad _ (by rw [if_pos h5]))
  have h5 : r5 = [] := by cases r5 with | nil => rfl | cons x r => (simp at hc)
  rw [if_neg (by simpa using h5)] at hbad ⊢
  refine AW.go ?_ (by simp only [go_sem, ↓reduceIte, en] <;> rfl)
  refine AW.callE (fun _ => 0) (refDecI_fn ts n (by omega) hbts) (.lend rfl co_5 (.pv _ .nil)) ?_
  refine AW.go ?_
  refine AW.cond rfl (fun hc => ?_) (fun hc => ?_)
  · have he : (decI ts n).2 ≠ 0 := by simpa using hc
    refine AW.go ?_
    exact AW.finE (.pv _ (.pv _ .nil)) (hbad _ (by rw [decC4, if_pos he]))
  have he : (decI ts n).2 = 0 := by simpa using hc
  rw [decC4, if_neg (by simpa using he)] at hbad ⊢
  have ha := decI_n he
  rw [Int.toNat_natCast] at ha
  generalize (decI ts n).1 = a at *
  refine AW.freeze (p := .slot 10) (by simp only [go_sem, ↓reduceIte, freeze, freezeO] <;> rfl) ?_
  refine AW.go ?_ (by simp only [go_sem, ↓reduceIte, en] <;> rfl)
  refine AW.callE (fun _ => 0) (refdec_fn vs n (by omega) hbvs) (.pv _ (.pv _ .nil)) ?_
  refine AW.go ?_
  refine AW.cond rfl (fun hc => ?_) (fun hc => ?_)
  · have he : (dec11 vs n).2 ≠ 0 := by simpa using hc
    refine AW.go ?_
    exact AW.finE (.pv _ (.pv _ .nil)) (hbad _ (by rw [if_pos he]))
  have he : (dec11 vs n).2 = 0 := by simpa using hc
  rw [if_neg (by simpa using he)] at hbad ⊢
  have hv := dec11_n he
  rw [Int.toNat_natCast] at hv
  rw [he]
  generalize (dec11 vs n).1 = v at *
  refine AW.go ?_ (by simp only [go_sem, ↓reduceIte, numsOf_byt, ofNums_ub] <;> rfl)
  generalize ub tb = t at *
  refine AW.nilsOwnAt (.cell 13 1) 41 ?_
  refine AW.loopS (fun p : Nat × List Sm => ⟨128, [(14, .pv (.int .i64 p.1)), (2, .ptr 2 0), (13, .ptr 13 0), (11, .own 3 (ints a)), (12, .pv (.sl 1 (u64s v)))], [(2, .cells 24 [.pv (.str []), .nils]), (13, .cells 24 [.pv (.str t), .own 41 (sms p.2)])]⟩) (fun p => p.1 ≤ a.length ∧ p.2 = (a.zip v).take p.1) (fun p => a.length - p.1) [14, 2, 13, 11, 12] [2, 13] (0, []) ⟨Nat.zero_le _, rfl⟩ ?_
  rintro ⟨i, Z⟩ ⟨hi, hZ⟩ K hK
  simp only at hi hZ
  have hzl : (a.zip v).length = n := by rw [List.length_zip, ha, hv, Nat.min_self]
  have hZl : Z.length = i := by rw [hZ, List.length_take]; omega
  refine AW.go ?_
  refine AW.cond rfl (fun hc => ?_) (fun hc => ?_)
  · have hlt : i < a.length := by simpa using hc
    have hlv : i < v.length := by omega
    have h1 := ints_at (getDi hlt)
    have h2 := u64s_at (getDn hlv)
    have hz : (a.zip v)[i]? = some (a.getD i 0, v.getD i 0) := List.getElem?_zip_eq_some.2 ⟨getDi hlt, getDn hlv⟩
    have hZ1 : Z ++ [(a.getD i 0, v.getD i 0)] = (a.zip v).take (i + 1) := by rw [List.take_add_one, hz, hZ]; rfl
    generalize a.getD i 0 = x at *
    generalize v.getD i 0 = y at *
    have h3 : sms Z ++ [.agg [.int .i64 x, .int .u64 (y : Nat)]] = sms (Z ++ [(x, y)]) := by simp [sms]
    have h4 : (Z.length + 1) * 16 ≤ room := by omega
    have h5 : Z.length + 1 ≤ room := by omega
    have ei : IntKind.i64.wrap ((i : Int) + 1) = ((i + 1 : Nat) : Int) := wrap_i64_succ (by omega)
    refine AW.go ?_
    refine AW.any0 mixed ?_
    refine AW.takes (fuel := 8) [0, 2, 3, 6, 7, 4, 8] ?_ (by simp only [go_sem, ↓reduceIte, hlt, hlv, h1, h2, sms_len, h3, h4, h5, ei] <;> rfl) Ends.noPanic (listed' := #[true, false, true, true, true, false, true, true, true, false, false, false, false, false, false]) (by decide +kernel) (by decide +kernel)
    refine AW.branch (fuel := 7) (rs := [1, 5, 9]) ?_ (by decide +kernel) (by simp)
    intro j hj
    simp only [List.mem_cons, List.not_mem_nil, or_false] at hj
    rcases hj with rfl | rfl | rfl
    · skip
      refine AW.gg ?_ (by simp only [go_sem, ↓reduceIte, hlt, hlv, h1, h2, sms_len, h3, h4, h5, ei] <;> rfl)
      refine AW.branch (fuel := 6) (rs := [5, 9]) ?_ (by decide +kernel) (by simp)
      intro j hj
      simp only [List.mem_cons, List.not_mem_nil, or_false] at hj
      rcases hj with rfl | rfl
      · skip
        refine AW.gg ?_ (by simp only [go_sem, ↓reduceIte, hlt, hlv, h1, h2, sms_len, h3, h4, h5, ei] <;> rfl)
        refine AW.seqs (fuel := 0) (listed' := #[true, true, true, true, true, true, true, true, true, true, true, true, true, true, true]) [9, 10, 11, 12, 13, 14] ?_ (by decide +kernel)
        refine AW.gg ?_ (by simp only [go_sem, ↓reduceIte, hlt, hlv, h1, h2, sms_len, h3, h4, h5, ei] <;> rfl)
        refine AW.anyDone (by decide +kernel) ?_
        refine AW.go ?_ (by simp only [go_sem, ↓reduceIte, ei] <;> rfl)
        exact AW.again hK (i + 1, Z ++ [(x, y)]) ⟨by simp only; omega, hZ1⟩ (by simp only; omega)
      · skip
        refine AW.gg ?_ (by simp only [go_sem, ↓reduceIte, hlt, hlv, h1, h2, sms_len, h3, h4, h5, ei] <;> rfl)
        refine AW.seqs (fuel := 0) (listed' := #[true, true, true, true, true, true, true, true, true, true, true, true, true, true, true]) [5, 10, 11, 12, 13, 14] ?_ (by decide +kernel)
        refine AW.gg ?_ (by simp only [go_sem, ↓reduceIte, hlt, hlv, h1, h2, sms_len, h3, h4, h5, ei] <;> rfl)
        refine AW.anyDone (by decide +kernel) ?_
        refine AW.go ?_ (by simp only [go_sem, ↓reduceIte, ei] <;> rfl)
        exact AW.again hK (i + 1, Z ++ [(x, y)]) ⟨by simp only; omega, hZ1⟩ (by simp only; omega)
    · skip
      refine AW.gg ?_ (by simp only [go_sem, ↓reduceIte, hlt, hlv, h1, h2, sms_len, h3, h4, h5, ei] <;> rfl)
      refine AW.branch (fuel := 6) (rs := [1, 9]) ?_ (by decide +kernel) (by simp)
      intro j hj
      simp only [List.mem_cons, List.not_mem_nil, or_false] at hj
      rcases hj with rfl | rfl
      · skip
        refine AW.gg ?_ (by simp only [go_sem, ↓reduceIte, hlt, hlv, h1, h2, sms_len, h3, h4, h5, ei] <;> rfl)
        refine AW.seqs (fuel := 0) (listed' := #[true, true, true, true, true, true, true, true, true, true, true, true, true, true, true]) [9, 10, 11, 12, 13, 14] ?_ (by decide +kernel)
        refine AW.gg ?_ (by simp only [go_sem, ↓reduceIte, hlt, hlv, h1, h2, sms_len, h3, h4, h5, ei] <;> rfl)
        refine AW.anyDone (by decide +kernel) ?_
        refine AW.go ?_ (by simp only [go_sem, ↓reduceIte, ei] <;> rfl)
        exact AW.again hK (i + 1, Z ++ [(x, y)]) ⟨by simp only; omega, hZ1⟩ (by simp only; omega)
      · skip
        refine AW.gg ?_ (by simp only [go_sem, ↓reduceIte, hlt, hlv, h1, h2, sms_len, h3, h4, h5, ei] <;> rfl)
        refine AW.branch (fuel := 5) (rs := [1, 10]) ?_ (by decide +kernel) (by simp)
        intro j hj
        simp only [List.mem_cons, List.not_mem_nil, or_false] at hj
        rcases hj with rfl | rfl
        · skip
          refine AW.gg ?_ (by simp only [go_sem, ↓reduceIte, hlt, hlv, h1, h2, sms_len, h3, h4, h5, ei] <;> rfl)
          refine AW.seqs (fuel := 0) (listed' := #[true, true, true, true, true, true, true, true, true, true, true, true, true, true, true]) [10, 11, 12, 13, 14] ?_ (by decide +kernel)
          refine AW.gg ?_ (by simp only [go_sem, ↓reduceIte, hlt, hlv, h1, h2, sms_len, h3, h4, h5, ei] <;> rfl)
          refine AW.anyDone (by decide +kernel) ?_
          refine AW.go ?_ (by simp only [go_sem, ↓reduceIte, ei] <;> rfl)
          exact AW.again hK (i + 1, Z ++ [(x, y)]) ⟨by simp only; omega, hZ1⟩ (by simp only; omega)
        · skip
          refine AW.gg ?_ (by simp only [go_sem, ↓reduceIte, hlt, hlv, h1, h2, sms_len, h3, h4, h5, ei] <;> rfl)
          refine AW.branch (fuel := 4) (rs := [1, 11]) ?_ (by decide +kernel) (by simp)
          intro j hj
          simp only [List.mem_cons, List.not_mem_nil, or_false] at hj
          rcases hj with rfl | rfl
          · skip
            refine AW.gg ?_ (by simp only [go_sem, ↓reduceIte, hlt, hlv, h1, h2, sms_len, h3, h4, h5, ei] <;> rfl)
            refine AW.seqs (fuel := 0) (listed' := #[true, true, true, true, true, true, true, true, true, true, true, true, true, true, true]) [11, 12, 13, 14] ?_ (by decide +kernel)
            refine AW.gg ?_ (by simp only [go_sem, ↓reduceIte, hlt, hlv, h1, h2, sms_len, h3, h4, h5, ei] <;> rfl)
            refine AW.anyDone (by decide +kernel) ?_
            refine AW.go ?_ (by simp only [go_sem, ↓reduceIte, ei] <;> rfl)
            exact AW.again hK (i + 1, Z ++ [(x, y)]) ⟨by simp only; omega, hZ1⟩ (by simp only; omega)
          · skip
            refine AW.gg ?_ (by simp only [go_sem, ↓reduceIte, hlt, hlv, h1, h2, sms_len, h3, h4, h5, ei] <;> rfl)
            refine AW.seqs (fuel := 0) (listed' := #[true, true, true, true, true, true, true, true, true, true, true, true, true, true, true]) [1, 12, 13, 14] ?_ (by decide +kernel)
            refine AW.gg ?_ (by simp only [go_sem, ↓reduceIte, hlt, hlv, h1, h2, sms_len, h3, h4, h5, ei] <;> rfl)
            refine AW.anyDone (by decide +kernel) ?_
            refine AW.go ?_ (by simp only [go_sem, ↓reduceIte, ei] <;> rfl)
            exact AW.again hK (i + 1, Z ++ [(x, y)]) ⟨by simp only; omega, hZ1⟩ (by simp only; omega)
    · skip
      refine AW.gg ?_ (by simp only [go_sem, ↓reduceIte, hlt, hlv, h1, h2, sms_len, h3, h4, h5, ei] <;> rfl)
      refine AW.branch (fuel := 6) (rs := [1, 5]) ?_ (by decide +kernel) (by simp)
      intro j hj
      simp only [List.mem_cons, List.not_mem_nil, or_false] at hj
      rcases hj with rfl | rfl
      · skip
        refine AW.gg ?_ (by simp only [go_sem, ↓reduceIte, hlt, hlv, h1, h2, sms_len, h3, h4, h5, ei] <;> rfl)
        refine AW.seqs (fuel := 0) (listed' := #[true, true, true, true, true, true, true, true, true, true, true, true, true, true, true]) [5, 10, 11, 12, 13, 14] ?_ (by decide +kernel)
        refine AW.gg ?_ (by simp only [go_sem, ↓reduceIte, hlt, hlv, h1, h2, sms_len, h3, h4, h5, ei] <;> rfl)
        refine AW.anyDone (by decide +kernel) ?_
        refine AW.go ?_ (by simp only [go_sem, ↓reduceIte, ei] <;> rfl)
        exact AW.again hK (i + 1, Z ++ [(x, y)]) ⟨by simp only; omega, hZ1⟩ (by simp only; omega)
      · skip
        refine AW.gg ?_ (by simp only [go_sem, ↓reduceIte, hlt, hlv, h1, h2, sms_len, h3, h4, h5, ei] <;> rfl)
        refine AW.branch (fuel := 5) (rs := [1, 10]) ?_ (by decide +kernel) (by simp)
        intro j hj
        simp only [List.mem_cons, List.not_mem_nil, or_false] at hj
        rcases hj with rfl | rfl
        · skip
          refine AW.gg ?_ (by simp only [go_sem, ↓reduceIte, hlt, hlv, h1, h2, sms_len, h3, h4, h5, ei] <;> rfl)
          refine AW.seqs (fuel := 0) (listed' := #[true, true, true, true, true, true, true, true, true, true, true, true, true, true, true]) [10, 11, 12, 13, 14] ?_ (by decide +kernel)
          refine AW.gg ?_ (by simp only [go_sem, ↓reduceIte, hlt, hlv, h1, h2, sms_len, h3, h4, h5, ei] <;> rfl)
          refine AW.anyDone (by decide +kernel) ?_
          refine AW.go ?_ (by simp only [go_sem, ↓reduceIte, ei] <;> rfl)
          exact AW.again hK (i + 1, Z ++ [(x, y)]) ⟨by simp only; omega, hZ1⟩ (by simp only; omega)
        · skip
          refine AW.gg ?_ (by simp only [go_sem, ↓reduceIte, hlt, hlv, h1, h2, sms_len, h3, h4, h5, ei] <;> rfl)
          refine AW.branch (fuel := 4) (rs := [1, 11]) ?_ (by decide +kernel) (by simp)
          intro j hj
          simp only [List.mem_cons, List.not_mem_nil, or_false] at hj
          rcases hj with rfl | rfl
          · skip
            refine AW.gg ?_ (by simp only [go_sem, ↓reduceIte, hlt, hlv, h1, h2, sms_len, h3, h4, h5, ei] <;> rfl)
            refine AW.seqs (fuel := 0) (listed' := #[true, true, true, true, true, true, true, true, true, true, true, true, true, true, true]) [11, 12, 13, 14] ?_ (by decide +kernel)
            refine AW.gg ?_ (by simp only [go_sem, ↓reduceIte, hlt, hlv, h1, h2, sms_len, h3, h4, h5, ei] <;> rfl)
            refine AW.anyDone (by decide +kernel) ?_
            refine AW.go ?_ (by simp only [go_sem, ↓reduceIte, ei] <;> rfl)
            exact AW.again hK (i + 1, Z ++ [(x, y)]) ⟨by simp only; omega, hZ1⟩ (by simp only; omega)
          · skip
            refine AW.gg ?_ (by simp only [go_sem, ↓reduceIte, hlt, hlv, h1, h2, sms_len, h3, h4, h5, ei] <;> rfl)
            refine AW.seqs (fuel := 0) (listed' := #[true, true, true, true, true, true, true, true, true, true, true, true, true, true, true]) [1, 12, 13, 14] ?_ (by decide +kernel)
            refine AW.gg ?_ (by simp only [go_sem, ↓reduceIte, hlt, hlv, h1, h2, sms_len, h3, h4, h5, ei] <;> rfl)
            refine AW.anyDone (by decide +kernel) ?_
            refine AW.go ?_ (by simp only [go_sem, ↓reduceIte, ei] <;> rfl)
            exact AW.again hK (i + 1, Z ++ [(x, y)]) ⟨by simp only; omega, hZ1⟩ (by simp only; omega)
  have hge : i = a.length := by simp at hc; omega
  subst hge
  have hZ2 : Z = a.zip v := by rw [hZ, List.take_of_length_le (by omega)]
  subst hZ2
  refine AW.go ?_
  refine AW.freeze (p := .cell 13 1) (by simp only [go_sem, ↓reduceIte, freeze, freezeO] <;> rfl) ?_
  refine AW.go ?_
  exact AW.finE (.pv _ (.pv _ .nil)) rfl
end Go.Ck

set_option linter.unusedVariables false
set_option maxRecDepth 10000
set_option maxHeartbeats 1000000
namespace Go.Ck
open Go.Proofs
theorem awake12_fn : Fn Tryz.prog 5 [] [] (fun rs H' => rs = [.pv (.bool true)] ∧ H' = []) := by
  refine Fn.of_body (fn := Tryz.f5) (n := 37) (res := [.tmp 0]) (by kernel_rfl) rfl rfl rfl rfl rfl (fun C => ?_)
  have b1 : [PV.int .u8 1, .int .u8 1, .int .u8 97, .int .u8 1, .int .u8 2, .int .u8 1, .int .u8 10, .int .u8 9, .int .u8 0, .int .u8 0, .int .u8 0, .int .u8 0, .int .u8 0, .int .u8 0, .int .u8 0, .int .u8 0, .int .u8 7] = bytes [1, 1, 97, 1, 2, 1, 10, 9, 0, 0, 0, 0, 0, 0, 0, 0, 7] := rfl
  have hsm : smOK [(5, 7)] := by intro x hx; simp at hx; subst hx; unfold i64r; simp only; omega
  have hE := chunkEnc_fn [97] [(5, 7)] (by decide) hsm
  have hD := chunkDec_fn [1, 1, 97, 1, 2, 1, 10, 9, 0, 0, 0, 0, 0, 0, 0, 0, 7] (by decide) (by decide)
  have hS := lawSame_fn [97] [97] [(5, 7)] [(5, 7)] (by decide)
  have c1 : chP ([97], [(5, 7)]) = .agg [.str [97], .sl 2 [.agg [.int .i64 5, .int .u64 7]]] := rfl
  rw [awakeC_enc] at hE
  rw [awakeC_dec] at hD
  simp only at hD hE
  rw [c1] at hE hD hS
  refine AW.go ?_ (by simp only [go_sem, ↓reduceIte, b1] <;> rfl)
  refine AW.callE (fun _ => 0) hE (.pv _ .nil) ?_
  refine AW.freeze (p := .slot 2) (by simp only [go_sem, ↓reduceIte, freeze, freezeO] <;> rfl) ?_
  refine AW.go ?_
  refine AW.callE (fun _ => 0) hD (.pv _ .nil) ?_
  refine AW.gg ?_
  refine AW.guardT rfl rfl ?_
  refine AW.callE (fun _ => 0) (ref01Same_fn [1, 1, 97, 1, 2, 1, 10, 9, 0, 0, 0, 0, 0, 0, 0, 0, 7] [1, 1, 97, 1, 2, 1, 10, 9, 0, 0, 0, 0, 0, 0, 0, 0, 7] (by decide)) (.lend rfl co_5 (.pv _ .nil)) ?_
  refine AW.gg ?_ (by simp only [go_sem, ↓reduceIte, decide_true] <;> rfl)
  refine AW.guardT rfl rfl ?_
  refine AW.callE (fun _ => 0) hS (.pv _ (.pv _ .nil)) ?_
  refine AW.gg ?_ (by simp only [go_sem, ↓reduceIte, decide_true, and_self] <;> rfl)
  refine AW.finE (.pv _ .nil) rfl

end Go.Ck

set_option linter.unusedVariables false
namespace Go.Ck
end Go.Ck

set_option linter.unusedVariables false
set_option maxRecDepth 10000
set_option maxHeartbeats 1000000
namespace Go.Ck
open Go.Proofs
theorem law12encodes_fn (t : List UInt8) (xs : List Sm) (n : Int) (ht : t.length ≤ maxLen) (hx : smOK xs) (hn : i64r n) : Fn Tryz.prog 3 [] [.pv (chP (t, xs)), .pv (.int .i64 n)] (fun rs H' => rs = [.pv (.bool true)] ∧ H' = []) := by
  refine Fn.of_body (fn := Tryz.f3) (n := 56) (res := [.tmp 4]) (by kernel_rfl) rfl rfl rfl rfl rfl (fun C => ?_)
  have hr : room = 140737488355328 := rfl
  have ee : ∀ e : Int, (e == e) = true := fun e => by simp
  have c1 : ∀ t xs, chP (t, xs) = .agg [.str t, .sl 2 (sms xs)] := fun _ _ => rfl
  have hE := chunkEnc_fn t xs ht hx
  have hE2 := ref12Enc_fn t xs ht hx
  have hbl := encC_room (t := t) (xs := xs)
  rw [c1] at hE hE2 ⊢
  unfold i64r at hn
  refine AW.go ?_
  refine AW.callE (fun _ => 0) awake12_fn .nil ?_
  refine via (T := ?T1) (fun hT => ?_) ?_
  rotate_left
  · by_cases h1 : xs.length > 200
    · have d1 : decide ((xs.length : Int) > 200) = true := decide_eq_true (by omega)
      by_cases h2 : xs.length ≤ 65536
      · have d2 : decide ((xs.length : Int) ≤ 65536) = true := decide_eq_true (by omega)
        have d2n : decide (xs.length ≤ 65536) = true := decide_eq_true h2
        refine AW.gg ?_ (by simp only [go_sem, ↓reduceIte, sms_len, d1, d2, d2n] <;> rfl)
        refine AW.condT rfl ?_
        refine AW.go ?_
        refine AW.finE (.pv _ .nil) rfl
      have d2 : decide ((xs.length : Int) ≤ 65536) = false := decide_eq_false (by omega)
      have d2n : decide (xs.length ≤ 65536) = false := decide_eq_false h2
      by_cases h3 : t.length > 1000
      · have d3 : decide ((t.length : Int) > 1000) = true := decide_eq_true (by omega)
        refine AW.gg ?_ (by simp only [go_sem, ↓reduceIte, sms_len, d1, d2, d2n, d3] <;> rfl)
        refine AW.condT rfl ?_
        refine AW.go ?_
        refine AW.finE (.pv _ .nil) rfl
      have d3 : decide ((t.length : Int) > 1000) = false := decide_eq_false (by omega)
      refine AW.gg ?_ (by simp only [go_sem, ↓reduceIte, sms_len, d1, d2, d2n, d3] <;> rfl)
      refine AW.condF rfl ?_
      refine AW.keepB [1, 2, 5] [2] (by simp only [go_sem, ↓reduceIte]) (by simp only [go_sem, ↓reduceIte] <;> rfl) ?_
      exact hT ()
    have d1 : decide ((xs.length : Int) > 200) = false := decide_eq_false (by omega)
    by_cases h3 : t.length > 1000
    · have d3 : decide ((t.length : Int) > 1000) = true := decide_eq_true (by omega)
      refine AW.gg ?_ (by simp only [go_sem, ↓reduceIte, sms_len, d1, d3] <;> rfl)
      refine AW.condT rfl ?_
      refine AW.go ?_
      refine AW.finE (.pv _ .nil) rfl
    have d3 : decide ((t.length : Int) > 1000) = false := decide_eq_false (by omega)
    refine AW.gg ?_ (by simp only [go_sem, ↓reduceIte, sms_len, d1, d3] <;> rfl)
    refine AW.condF rfl ?_
    refine AW.keepB [1, 2, 5] [2] (by simp only [go_sem, ↓reduceIte]) (by simp only [go_sem, ↓reduceIte] <;> rfl) ?_
    exact hT ()
  refine AW.go ?_
  refine AW.callE (fun _ => 0) hE (.pv _ .nil) ?_
  refine AW.go ?_
  refine AW.callE (fun _ => 0) hE2 (.pv _ .nil) ?_
  refine AW.gg ?_ (by simp only [go_sem, ↓reduceIte, ee] <;> rfl)
  refine AW.guardT rfl rfl ?_
  refine AW.callE (fun _ => 0) (ref01Same_fn (encC t xs).1 (encC t xs).1 (by omega)) (.lend rfl co_5 (.lend rfl co_5 .nil)) ?_
  refine AW.gg ?_ (by simp only [go_sem, ↓reduceIte, decide_true] <;> rfl)
  refine AW.guardT rfl rfl ?_
  refine AW.callE (fun _ => 0) (most_fn n (by omega)) (.pv _ .nil) ?_
  refine AW.gg ?_
  refine AW.guardT rfl rfl ?_
  refine AW.callE (fun _ => 0) (refMost_fn n (by omega)) (.pv _ .nil) ?_
  refine AW.gg ?_ (by simp only [go_sem, ↓reduceIte, ee, beq_self_eq_true] <;> rfl)
  refine AW.finE (.pv _ .nil) rfl

theorem law12decodes_fn (l : List Nat) (hb : ∀ x ∈ l, x < 256) : Fn Tryz.prog 4 [] [.pv (.sl 1 (bytes l))] (fun rs H' => rs = [.pv (.bool true)] ∧ H' = []) := by
  refine Fn.of_body (fn := Tryz.f4) (n := 50) (res := [.tmp 2]) (by kernel_rfl) rfl rfl rfl rfl rfl (fun C => ?_)
  have hr : room = 140737488355328 := rfl
  have ee : ∀ e : Int, (e == e) = true := fun e => by simp
  refine AW.go ?_
  refine AW.callE (fun _ => 0) awake12_fn .nil ?_
  refine AW.go ?_
  refine AW.cond rfl (fun hc => ?_) (fun hc => ?_)
  · refine AW.go ?_
    refine AW.finE (.pv _ .nil) rfl
  have hl : l.length ≤ 400 := by simp at hc; omega
  refine AW.go ?_
  refine AW.callZ (fun _ => 0) (refHead_fn l (by omega) hb) (.pv _ .nil) (fun z => ?_)
  obtain ⟨zs, zn, zb⟩ := z
  simp only
  have hD := chunkDec_fn l (by omega) hb
  have hD2 := ref12Dec_fn l (by omega) hb
  have hpc : chP (decC l).1 = .agg [.str (decC l).1.1, .sl 2 (sms (decC l).1.2)] := rfl
  rw [hpc] at hD hD2
  refine via (T := ?T1) (fun hT => ?_) ?_
  rotate_left
  · by_cases h1 : zn > 500
    · have d1 : decide (zn > 500) = true := decide_eq_true h1
      by_cases h2 : zn ≤ 65536
      · have d2 : decide (zn ≤ 65536) = true := decide_eq_true h2
        refine AW.gg ?_ (by simp only [go_sem, ↓reduceIte, d1, d2] <;> rfl)
        refine AW.condT rfl ?_
        refine AW.go ?_
        refine AW.finE (.pv _ .nil) rfl
      · have d2 : decide (zn ≤ 65536) = false := decide_eq_false h2
        refine AW.gg ?_ (by simp only [go_sem, ↓reduceIte, d1, d2] <;> rfl)
        refine AW.condF rfl ?_
        refine AW.keepB [0, 3] [] (by simp only [go_sem, ↓reduceIte]) (by simp only [go_sem, ↓reduceIte] <;> rfl) ?_
        exact hT ()
    · have d1 : decide (zn > 500) = false := decide_eq_false h1
      refine AW.gg ?_ (by simp only [go_sem, ↓reduceIte, d1] <;> rfl)
      refine AW.condF rfl ?_
      refine AW.keepB [0, 3] [] (by simp only [go_sem, ↓reduceIte]) (by simp only [go_sem, ↓reduceIte] <;> rfl) ?_
      exact hT ()
  have hS := lawSame_fn (decC l).1.1 (decC l).1.1 (decC l).1.2 (decC l).1.2 (by
    by_cases he : (decC l).2 = 0
    · obtain ⟨t, xs, e1, ht, hl2, e2⟩ := decC_inv hb he
      rw [e1]; simp only; omega
    · rw [decC_bad he]; simp)
  rw [show chP ((decC l).1.1, (decC l).1.2) = .agg [.str (decC l).1.1, .sl 2 (sms (decC l).1.2)] from rfl] at hS
  generalize (decC l).1.1 = t at *
  generalize (decC l).1.2 = xs at *
  generalize (decC l).2 = e at *
  refine AW.go ?_
  refine AW.callE (fun _ => 0) hD (.pv _ .nil) ?_
  refine AW.go ?_
  refine AW.callE (fun _ => 0) hD2 (.pv _ .nil) ?_
  refine AW.gg ?_ (by simp only [go_sem, ↓reduceIte, ee] <;> rfl)
  refine AW.guardT rfl rfl ?_
  refine AW.callE (fun _ => 0) hS (.pv _ (.pv _ .nil)) ?_
  refine AW.gg ?_ (by simp only [go_sem, ↓reduceIte, decide_true, and_self] <;> rfl)
  refine AW.finE (.pv _ .nil) rfl
end Go.Ck

set_option linter.unusedVariables false
namespace Go.Ck
def stTypes (P : Program) (t : TypeId) : Option (List TypeId) := match P.underlying t with
  | some (.struct fs) => some (fs.toList.map (·.type))
  | _ => none
section
variable {P : Program} {n : Nat} {t : TypeId} {p : PV}
theorem PT_st2 {a b : TypeId} (hu : stTypes P t = some [a, b]) (h : PT P (n + 1) t p.cells) (h1 : p.one = !isAggT P t) : ∃ ps qs, p = .agg (ps ++ qs) ∧ PT P n a ps ∧ PT P n b qs := by
  unfold stTypes at hu
  unfold isAggT at h1
  unfold PT at h
  split at hu
  · rename_i fs hus
    rw [hus] at h1 h
    simp only [Option.some.injEq] at hu
    obtain ⟨pss, e1, e2, e3⟩ := h
    have hl : fs.toList.length = 2 := by have := congrArg List.length hu; simpa using this
    match hfl : fs.toList, hl with
    | [f, g], _ =>
      rw [hfl] at hu
      simp only [List.map_cons, List.map_nil, List.cons.injEq, and_true] at hu
      have hsz : fs.size = 2 := by rw [← Array.length_toList, hfl]; rfl
      have hf : fs[0]? = some f := by rw [← Array.getElem?_toList, hfl]; rfl
      have hg : fs[1]? = some g := by rw [← Array.getElem?_toList, hfl]; rfl
      match pss, (by rw [e2, hsz] : pss.length = 2) with
      | [ps, qs], _ =>
        have k1 := (e3 0 f ps hf rfl).1
        have k2 := (e3 1 g qs hg rfl).1
        rw [hu.1] at k1
        rw [hu.2] at k2
        refine ⟨ps, qs, ?_, k1, k2⟩
        simp only [List.flatten_cons, List.flatten_nil, List.append_nil] at e1
        cases p <;> simp [PV.one] at h1
        simp only [PV.cells] at e1
        rw [e1]
  · cases hu
theorem PTc_int {k : IntKind} {ps : List PV} (hu : P.underlying t = some (.int k)) (h : PT P (n + 1) t ps) : ∃ m, ps = [.int k m] ∧ (Lit.int k m).wf = true := by
  unfold PT at h
  rw [hu] at h
  exact h
theorem PTc_u64 {ps : List PV} (hu : P.underlying t = some (.int .u64)) (h : PT P (n + 1) t ps) : ∃ v : Nat, ps = [.int .u64 v] ∧ v < 2 ^ 64 := by
  obtain ⟨m, rfl, hm⟩ := PTc_int hu h
  obtain ⟨r, hr, h4⟩ := nats_of (k := .u64) rfl [m] (by simpa using hm)
  match r, hr with
  | [a], hr => simp at hr; subst hr; exact ⟨a, rfl, h4 a (by simp)⟩
theorem PTc_str {ps : List PV} (hu : P.underlying t = some .string) (h : PT P (n + 1) t ps) : ∃ s, ps = [.str s] ∧ s.length ≤ maxLen := by
  unfold PT at h
  rw [hu] at h
  exact h
theorem PTc_slice {e : TypeId} {ps : List PV} (hu : P.underlying t = some (.slice e)) (h : PT P (n + 1) t ps) : ∃ xs, ps = [.sl (P.cellsOf e) xs] ∧ xs.length ≤ maxLen ∧ ∀ x ∈ xs, PT P n e x.cells ∧ x.one = !isAggT P e := by
  unfold PT at h
  rw [hu] at h
  exact h
theorem sms_of {a b e : TypeId} (hu : stTypes P e = some [a, b]) (ha : P.underlying a = some (.int .i64)) (hb : P.underlying b = some (.int .u64)) : ∀ xs : List PV, (∀ x ∈ xs, PT P (n + 2) e x.cells ∧ x.one = !isAggT P e) → ∃ l : List Sm, xs = sms l ∧ smOK l
  | [], _ => ⟨[], rfl, by intro x hx; cases hx⟩
  | x :: r, h => by
    obtain ⟨ps, qs, rfl, k1, k2⟩ := PT_st2 (n := n + 1) hu (h x (by simp)).1 (h x (by simp)).2
    obtain ⟨m, rfl, hm⟩ := PTc_int ha k1
    obtain ⟨v, rfl, hv⟩ := PTc_u64 hb k2
    obtain ⟨l, rfl, hl⟩ := sms_of hu ha hb r (fun y hy => h y (by simp [hy]))
    refine ⟨(m, v) :: l, rfl, fun y hy => ?_⟩
    rcases List.mem_cons.1 hy with rfl | hy
    · exact ⟨wf_i64 hm, hv⟩
    · exact hl y hy
theorem PT_chunk {s l e a b : TypeId} (hu : stTypes P t = some [s, l]) (hs : P.underlying s = some .string) (hl : P.underlying l = some (.slice e)) (hc : P.cellsOf e = 2) (he : stTypes P e = some [a, b]) (ha : P.underlying a = some (.int .i64)) (hb : P.underlying b = some (.int .u64))
    (h : PT P (n + 4) t p.cells) (h1 : p.one = !isAggT P t) : ∃ (c : List UInt8) (xs : List Sm), p = chP (c, xs) ∧ c.length ≤ maxLen ∧ smOK xs := by
  obtain ⟨ps, qs, rfl, k1, k2⟩ := PT_st2 (n := n + 3) hu h h1
  obtain ⟨c, rfl, hcl⟩ := PTc_str hs k1
  obtain ⟨xs, rfl, _, hx⟩ := PTc_slice hl k2
  obtain ⟨r, rfl, hr⟩ := sms_of he ha hb xs hx
  exact ⟨c, r, by rw [hc]; rfl, hcl, hr⟩
end
end Go.Ck
