/- What is proved here: parts of the proofs of this seat's statements (a verified evaluator for calls over pure values, its laws, and contracts of functions). No condition. -/
import Derived.Test.YtnbkoemhcpjceaaGreatDoorKl
set_option linter.all false
set_option linter.unusedVariables false
set_option maxRecDepth 10000
set_option maxHeartbeats 1000000
namespace Go.Ck
open Go.Proofs
theorem plain_fn (xs : List Nat) (hl : xs.length ≤ 2 ^ 40) (hx : ∀ x ∈ xs, x < 2 ^ 64) : Fn Tryz.prog 94 [] [.pv (.sl 1 (u64s xs))] (fun rs H' => rs = [.own 5 (bytes (encP xs))] ∧ H' = []) := by
  refine Fn.of_body (fn := Tryz.f94) (n := 18) (res := [.tmp 2]) (by kernel_rfl) rfl rfl rfl rfl rfl (fun C => ?_)
  have hr : room = 140737488355328 := rfl
  refine AW.go ?_
  refine AW.loopS (fun i : Nat => ⟨18, [(8, .pv (.int .i64 i)), (7, .pv (.int .i64 xs.length)), (6, .pv (.sl 1 (u64s xs))), (3, .own 5 (bytes (encP (xs.take i))))], []⟩) (fun i => i ≤ xs.length) (fun i => xs.length - i) [8, 7, 6, 3] [] 0 (Nat.zero_le _) ?_
  rintro i hi K hK
  refine AW.go ?_
  refine AW.cond rfl (fun hc => ?_) (fun hc => ?_)
  · have hlt : i < xs.length := by simpa using hc
    have hget := u64s_get hlt
    have hxx := hx _ (List.getElem_mem hlt)
    have hti : xs.take (i + 1) = xs.take i ++ [xs[i]] := by simp
    have hel := encP_len (xs.take i)
    have hfn : encP (xs.take (i + 1)) = encP (xs.take i) ++ beB xs[i] 8 := by rw [hti, encP, List.flatMap_append]; simp [encP]
    rw [List.length_take] at hel
    generalize xs[i] = x at *
    have ei : IntKind.i64.wrap ((i : Int) + 1) = ((i + 1 : Nat) : Int) := wrap_i64_succ (by omega)
    refine AW.go ?_ (by simp only [go_sem, ↓reduceIte, hget] <;> rfl)
    refine AW.callE (fun _ => 0) (fix_fn x 8 hxx (by omega)) (.pv _ (.pv _ .nil)) ?_
    have h2 : (encP (xs.take i)).length + (beB x 8).length ≤ room := by rw [beB_len]; omega
    refine AW.go ?_ (by simp only [go_sem, ↓reduceIte, h2, ei, ← hfn] <;> rfl)
    refine AW.again hK (i + 1) hlt (by omega)
  · have hge : ¬ i < xs.length := by simpa using hc
    rw [List.take_of_length_le (by omega)]
    refine AW.go ?_
    refine AW.finE (.move rfl .nil) rfl

theorem fixed_fn (l : List Nat) (n : Nat) (hn : n ≤ 65536) (hl : l.length ≤ 2 ^ 40) (hb : ∀ x ∈ l, x < 256) : Fn Tryz.prog 78 (curO l) [.ptr 1000 0, .pv (.int .i64 n)]
    (fun rs H' => rs = [.own 39 (u64s (if 8 * n ≤ l.length then dic l n else [])), .pv (.int .i64 (if 8 * n ≤ l.length then (if l.drop (8 * n) = [] then 0 else 3) else 2))] ∧ H' = curO (if 8 * n ≤ l.length then l.drop (8 * n) else l.drop (8 * (l.length / 8)))) := by
  refine Fn.of_body (fn := Tryz.f78) (n := 28) (res := [.tmp 4, .tmp 5]) (by kernel_rfl) rfl rfl rfl rfl rfl (fun C => ?_)
  have hr : room = 140737488355328 := rfl
  refine AW.go ?_
  refine AW.loopS (fun i : Nat => ⟨28, [(10, .pv (.int .i64 i)), (9, .pv (.int .i64 n)), (6, .own 39 (u64s (dic l i))), (0, .ptr 1000 0)], curO (l.drop (8 * i))⟩) (fun i => i ≤ n ∧ 8 * i ≤ l.length) (fun i => n - i) [10, 9, 6, 0] [1000] 0 ⟨Nat.zero_le _, by omega⟩ ?_
  rintro i ⟨hi, hi2⟩ K hK
  refine AW.go ?_
  refine AW.cond rfl (fun hc => ?_) (fun hc => ?_)
  · have hlt : i < n := by simpa using hc
    have hbd : ∀ x ∈ l.drop (8 * i), x < 256 := fun x hx => hb x (List.mem_of_mem_drop hx)
    have hdl : (l.drop (8 * i)).length = l.length - 8 * i := by simp
    refine AW.go ?_
    refine AW.callE id (curFixed_fn (l.drop (8 * i)) 8 (by omega) (by omega) hbd) (.ptr rfl (.pv _ .nil)) ?_
    refine AW.go ?_
    by_cases h8 : 8 ≤ (l.drop (8 * i)).length
    · simp only [if_pos h8]
      refine AW.condF rfl ?_
      have h1 : (i + 1) * 8 ≤ room := by omega
      have h2 : i + 1 ≤ room := by omega
      have ei : IntKind.i64.wrap ((i : Int) + 1) = ((i + 1 : Nat) : Int) := wrap_i64_succ (by omega)
      have hdr : (l.drop (8 * i)).drop 8 = l.drop (8 * (i + 1)) := by rw [List.drop_drop]; congr 1
      rw [hdr]
      refine AW.go ?_ (by simp only [go_sem, ↓reduceIte, dic_len, u64s_one, h1, h2, ei, ← dic_succ] <;> rfl)
      refine AW.again hK (i + 1) ⟨hlt, by omega⟩ (by omega)
    · simp only [if_neg h8]
      have hs : ¬ 8 * n ≤ l.length := by omega
      have hq : 8 * (l.length / 8) = 8 * i := by omega
      simp only [if_neg hs, hq]
      refine AW.condT rfl ?_
      refine AW.go ?_
      refine AW.finE (.move rfl (.pv _ .nil)) rfl
  · have hge : i = n := by simp at hc; omega
    subst hge
    simp only [if_pos hi2]
    refine AW.go ?_
    refine AW.callE id (curEnd_fn (l.drop (8 * i))) (.ptr rfl .nil) ?_
    refine AW.go ?_
    refine AW.finE (.move rfl (.pv _ .nil)) rfl
end Go.Ck

set_option linter.unusedVariables false
set_option maxRecDepth 10000
set_option maxHeartbeats 1000000
namespace Go.Ck
open Go.Proofs
theorem bne_nat {a b : Nat} (h : ((a : Int) != (b : Int)) = true) : a ≠ b := by simp at h; omega
theorem beq_nat {a b : Nat} (h : ((a : Int) != (b : Int)) = false) : a = b := by simp at h; omega
theorem oneV_false {xs : List Nat} {i : Nat} (h : i < xs.length) (hne : xs[i] ≠ xs.getD 0 0) : oneV xs = false := by
  rw [oneV, List.all_eq_false]
  exact ⟨xs[i], List.getElem_mem h, by simpa using hne⟩
theorem oneV_true {xs : List Nat} (h : ∀ j, j < xs.length → xs.getD j 0 = xs.getD 0 0) : oneV xs = true := by
  rw [oneV, List.all_eq_true]
  intro x hx
  obtain ⟨j, hj, rfl⟩ := List.mem_iff_getElem.1 hx
  have := h j hj
  rw [getD_get hj]
  simpa using this
theorem way_fn (xs : List Nat) (w : Int) (hx : ∀ x ∈ xs, x < 2 ^ 64) : Fn Tryz.prog 67 [] [.pv (.sl 1 (u64s xs)), .pv (.int .i64 w)]
    (fun rs H' => rs = [.own 5 (bytes (wayS xs w).1), .pv (.int .i64 (wayS xs w).2)] ∧ H' = []) := by
  refine Fn.of_body (fn := Tryz.f67) (n := 54) (res := [.tmp 4, .tmp 5]) (by kernel_rfl) rfl rfl rfl rfl rfl (fun C => ?_)
  have hr : room = 140737488355328 := rfl
  by_cases hw : w < 0 ∨ 4 ≤ w
  · have hws : wayS xs w = ([], 1) := by rw [wayS, if_pos hw]
    rw [hws]
    by_cases h1 : w < 0
    · have d1 : decide (w < 0) = true := decide_eq_true h1
      refine AW.gg ?_ (by simp only [go_sem, ↓reduceIte, d1] <;> rfl)
      refine AW.condT rfl ?_
      refine AW.go ?_
      refine AW.finE (.move rfl (.pv _ .nil)) rfl
    · have d1 : decide (w < 0) = false := decide_eq_false h1
      have d2 : decide (w ≥ 4) = true := decide_eq_true (by omega)
      refine AW.gg ?_ (by simp only [go_sem, ↓reduceIte, d1, d2] <;> rfl)
      refine AW.condT rfl ?_
      refine AW.go ?_
      refine AW.finE (.move rfl (.pv _ .nil)) rfl
  have d1 : decide (w < 0) = false := decide_eq_false (by omega)
  have d2 : decide (w ≥ 4) = false := decide_eq_false (by omega)
  refine AW.gg ?_ (by simp only [go_sem, ↓reduceIte, d1, d2] <;> rfl)
  refine AW.condF rfl ?_
  refine AW.go ?_
  refine AW.cond rfl (fun hc => ?_) (fun hc => ?_)
  · have hl : 65536 < xs.length := by simp at hc; omega
    have hws : wayS xs w = ([], 4) := by rw [wayS, if_neg hw, if_pos hl]
    rw [hws]
    refine AW.go ?_
    refine AW.finE (.move rfl (.pv _ .nil)) rfl
  have hl : ¬ 65536 < xs.length := by simp at hc; omega
  have hle : xs.length ≤ 65536 := by omega
  refine AW.go ?_
  have hw4 : w = 0 ∨ w = 1 ∨ w = 2 ∨ w = 3 := by omega
  rcases hw4 with rfl | rfl | rfl | rfl
  · have hws : wayS xs 0 = (encP xs, 0) := by rw [wayS, if_neg hw, if_neg hl]; rfl
    rw [hws]
    refine AW.condF rfl ?_
    refine AW.go ?_
    refine AW.condF rfl ?_
    refine AW.go ?_
    refine AW.condT rfl ?_
    refine AW.go ?_
    refine AW.callE (fun _ => 0) (plain_fn xs (by omega) hx) (.pv _ .nil) ?_
    refine AW.go ?_
    refine AW.finE (.move rfl (.pv _ .nil)) rfl
  · have hws : wayS xs 1 = if oneV xs = false ∨ xs = [] then ([], 1) else (encP (xs.take 1), 0) := by rw [wayS, if_neg hw, if_neg hl]; rfl
    rw [hws]
    refine AW.condF rfl ?_
    refine AW.go ?_
    refine AW.condF rfl ?_
    refine AW.go ?_
    refine AW.condF rfl ?_
    refine AW.go ?_
    refine AW.loopS (fun i : Nat => ⟨54, [(38, .pv (.int .i64 i)), (37, .pv (.int .i64 xs.length)), (36, .pv (.sl 1 (u64s xs))), (0, .pv (.sl 1 (u64s xs)))], []⟩) (fun i => i ≤ xs.length ∧ ∀ j, j < i → xs.getD j 0 = xs.getD 0 0) (fun i => xs.length - i) [38, 37, 36, 0] [] 0 ⟨Nat.zero_le _, fun j hj => by omega⟩ ?_
    rintro i ⟨hi, hall⟩ K hK
    refine AW.go ?_
    refine AW.cond rfl (fun hc => ?_) (fun hc => ?_)
    · have hlt : i < xs.length := by simpa using hc
      have hlt0 : 0 < xs.length := by omega
      have hget := u64s_get hlt
      have hget0 := u64s_get hlt0
      rw [getD_get hlt0] at hget0
      have ei : IntKind.i64.wrap ((i : Int) + 1) = ((i + 1 : Nat) : Int) := wrap_i64_succ (by omega)
      refine AW.go ?_ (by simp only [go_sem, ↓reduceIte, hget, hget0] <;> rfl)
      refine AW.cond rfl (fun hc2 => ?_) (fun hc2 => ?_)
      · have hne : xs[i] ≠ xs.getD 0 0 := bne_nat hc2
        rw [if_pos (.inl (oneV_false hlt hne))]
        refine AW.go ?_
        refine AW.finE (.move rfl (.pv _ .nil)) rfl
      · have he : xs[i] = xs.getD 0 0 := beq_nat hc2
        refine AW.go ?_ (by simp only [go_sem, ↓reduceIte, ei] <;> rfl)
        refine AW.again hK (i + 1) ⟨hlt, fun j hj => ?_⟩ (by omega)
        by_cases hji : j = i
        · subst hji; rw [← getD_get hlt]; exact he
        · exact hall j (by omega)
    · have hge : i = xs.length := by simp at hc; omega
      subst hge
      refine AW.go ?_
      refine AW.cond rfl (fun hc2 => ?_) (fun hc2 => ?_)
      · have hnil : xs = [] := by simpa using hc2
        rw [if_pos (.inr hnil)]
        refine AW.go ?_
        refine AW.finE (.move rfl (.pv _ .nil)) rfl
      · have hnil : xs ≠ [] := by simpa using hc2
        have hpos0 : 1 ≤ xs.length := by cases xs with | nil => exact absurd rfl hnil | cons a r => simp
        have hpos : (1 : Int) ≤ (xs.length : Int) := by omega
        rw [if_neg (by rw [oneV_true hall]; simpa using hnil)]
        refine AW.go ?_ (by simp only [go_sem, ↓reduceIte, hpos] <;> rfl)
        refine AW.callE (fun _ => 0) (plain_fn (xs.take 1) (by simp; omega) (fun x h => hx x (List.mem_of_mem_take h))) (.pv _ .nil) ?_
        refine AW.go ?_
        refine AW.finE (.move rfl (.pv _ .nil)) rfl
  · have hws : wayS xs 2 = (enc10 xs, 0) := by rw [wayS, if_neg hw, if_neg hl]; rfl
    rw [hws]
    refine AW.condT rfl ?_
    refine AW.go ?_
    refine AW.callE (fun _ => 0) (dictEnc_fn xs hx) (.pv _ .nil) ?_
    simp only [if_pos hle]
    refine AW.go ?_
    refine AW.finE (.move rfl (.pv _ .nil)) rfl
  · have hws : wayS xs 3 = (enc09 xs, 0) := by rw [wayS, if_neg hw, if_neg hl]; rfl
    rw [hws]
    refine AW.condF rfl ?_
    refine AW.go ?_
    refine AW.condT rfl ?_
    refine AW.go ?_
    refine AW.callE (fun _ => 0) (gorEnc_fn xs hx) (.pv _ .nil) ?_
    simp only [if_pos hle]
    refine AW.go ?_
    refine AW.finE (.move rfl (.pv _ .nil)) rfl
end Go.Ck

set_option linter.unusedVariables false
set_option maxRecDepth 10000
set_option maxHeartbeats 1000000
namespace Go.Ck
open Go.Proofs
theorem refWay_fn (xs : List Nat) (w : Int) (hx : ∀ x ∈ xs, x < 2 ^ 64) : Fn Tryz.prog 43 [] [.pv (.sl 1 (u64s xs)), .pv (.int .i64 w)]
    (fun rs H' => rs = [.own 5 (bytes (wayS xs w).1), .pv (.int .i64 (wayS xs w).2)] ∧ H' = []) := by
  refine Fn.of_body (fn := Tryz.f43) (n := 68) (res := [.tmp 4, .tmp 5]) (by kernel_rfl) rfl rfl rfl rfl rfl (fun C => ?_)
  have hr : room = 140737488355328 := rfl
  by_cases hw : w < 0 ∨ 4 ≤ w
  · have hws : wayS xs w = ([], 1) := by rw [wayS, if_pos hw]
    rw [hws]
    by_cases h1 : w < 0
    · have d1 : decide (w < 0) = true := decide_eq_true h1
      refine AW.gg ?_ (by simp only [go_sem, ↓reduceIte, d1] <;> rfl)
      refine AW.condT rfl ?_
      refine AW.go ?_
      refine AW.finE (.move rfl (.pv _ .nil)) rfl
    · have d1 : decide (w < 0) = false := decide_eq_false h1
      have d2 : decide (w > 3) = true := decide_eq_true (by omega)
      refine AW.gg ?_ (by simp only [go_sem, ↓reduceIte, d1, d2] <;> rfl)
      refine AW.condT rfl ?_
      refine AW.go ?_
      refine AW.finE (.move rfl (.pv _ .nil)) rfl
  have d1 : decide (w < 0) = false := decide_eq_false (by omega)
  have d2 : decide (w > 3) = false := decide_eq_false (by omega)
  refine AW.gg ?_ (by simp only [go_sem, ↓reduceIte, d1, d2] <;> rfl)
  refine AW.condF rfl ?_
  refine AW.go ?_
  refine AW.cond rfl (fun hc => ?_) (fun hc => ?_)
  · have hl : 65536 < xs.length := by simp at hc; omega
    have hws : wayS xs w = ([], 4) := by rw [wayS, if_neg hw, if_pos hl]
    rw [hws]
    refine AW.go ?_
    refine AW.finE (.move rfl (.pv _ .nil)) rfl
  have hl : ¬ 65536 < xs.length := by simp at hc; omega
  have hle : xs.length ≤ 65536 := by omega
  refine AW.go ?_
  have hw4 : w = 0 ∨ w = 1 ∨ w = 2 ∨ w = 3 := by omega
  rcases hw4 with rfl | rfl | rfl | rfl
  · have hws : wayS xs 0 = (encP xs, 0) := by rw [wayS, if_neg hw, if_neg hl]; rfl
    rw [hws]
    refine AW.condT rfl ?_
    refine AW.go ?_
    refine AW.loopS (fun i : Nat => ⟨68, [(7, .pv (.int .i64 i)), (6, .own 5 (bytes (encP (xs.take i)))), (0, .pv (.sl 1 (u64s xs)))], []⟩) (fun i => i ≤ xs.length) (fun i => xs.length - i) [7, 6, 0] [] 0 (Nat.zero_le _) ?_
    rintro i hi K hK
    refine AW.go ?_
    refine AW.cond rfl (fun hc => ?_) (fun hc => ?_)
    · have hlt : i < xs.length := by simpa using hc
      have hget := u64s_get hlt
      have hxx := hx _ (List.getElem_mem hlt)
      have hti : xs.take (i + 1) = xs.take i ++ [xs[i]] := by simp
      have hel := encP_len (xs.take i)
      have hfn : encP (xs.take (i + 1)) = encP (xs.take i) ++ beB xs[i] 8 := by rw [hti, encP, List.flatMap_append]; simp [encP]
      rw [List.length_take] at hel
      generalize xs[i] = x at *
      have ei : IntKind.i64.wrap ((i : Int) + 1) = ((i + 1 : Nat) : Int) := wrap_i64_succ (by omega)
      refine AW.go ?_ (by simp only [go_sem, ↓reduceIte, hget] <;> rfl)
      refine AW.callE (fun _ => 0) (refFix_fn x 8 hxx (by omega)) (.pv _ (.pv _ .nil)) ?_
      have h2 : (encP (xs.take i)).length + (beB x 8).length ≤ room := by rw [beB_len]; omega
      refine AW.go ?_ (by simp only [go_sem, ↓reduceIte, h2, ei, ← hfn] <;> rfl)
      refine AW.again hK (i + 1) hlt (by omega)
    · have hge : ¬ i < xs.length := by simpa using hc
      rw [List.take_of_length_le (by omega)]
      refine AW.go ?_
      refine AW.finE (.move rfl (.pv _ .nil)) rfl
  · have hws : wayS xs 1 = if oneV xs = false ∨ xs = [] then ([], 1) else (encP (xs.take 1), 0) := by rw [wayS, if_neg hw, if_neg hl]; rfl
    rw [hws]
    refine AW.condF rfl ?_
    refine AW.go ?_
    refine AW.condT rfl ?_
    refine AW.go ?_
    refine AW.cond rfl (fun hc2 => ?_) (fun hc2 => ?_)
    · have hnil : xs = [] := by simpa using hc2
      rw [if_pos (.inr hnil)]
      refine AW.go ?_
      refine AW.finE (.move rfl (.pv _ .nil)) rfl
    have hnil : xs ≠ [] := by simpa using hc2
    have hlt0 : 0 < xs.length := by cases xs with | nil => exact absurd rfl hnil | cons a r => simp
    have hget0 := u64s_get hlt0
    have hx0 := hx _ (List.getElem_mem hlt0)
    have ht1 : xs.take 1 = [xs[0]] := by cases xs with | nil => exact absurd rfl hnil | cons a r => simp
    have heP : encP (xs.take 1) = beB xs[0] 8 := by rw [ht1, encP]; simp
    rw [heP]
    rw [getD_get hlt0] at hget0 hx0 ⊢
    refine AW.go ?_
    refine AW.loopS (fun i : Nat => ⟨68, [(8, .pv (.int .i64 i)), (0, .pv (.sl 1 (u64s xs)))], []⟩) (fun i => i ≤ xs.length ∧ ∀ j, j < i → xs.getD j 0 = xs.getD 0 0) (fun i => xs.length - i) [8, 0] [] 0 ⟨Nat.zero_le _, fun j hj => by omega⟩ ?_
    rintro i ⟨hi, hall⟩ K hK
    refine AW.go ?_
    refine AW.cond rfl (fun hc => ?_) (fun hc => ?_)
    · have hlt : i < xs.length := by simpa using hc
      have hget := u64s_get hlt
      have ei : IntKind.i64.wrap ((i : Int) + 1) = ((i + 1 : Nat) : Int) := wrap_i64_succ (by omega)
      refine AW.go ?_
      refine AW.sr mixed (by decide +kernel) ?_ (by simp only [go_sem, ↓reduceIte, hget, hget0] <;> rfl)
      refine AW.go ?_
      refine AW.cond rfl (fun hc2 => ?_) (fun hc2 => ?_)
      · have hne : xs[i] ≠ xs.getD 0 0 := bne_nat hc2
        rw [if_pos (.inl (oneV_false hlt hne))]
        refine AW.go ?_
        refine AW.finE (.move rfl (.pv _ .nil)) rfl
      · have he : xs[i] = xs.getD 0 0 := beq_nat hc2
        refine AW.go ?_ (by simp only [go_sem, ↓reduceIte, ei] <;> rfl)
        refine AW.again hK (i + 1) ⟨hlt, fun j hj => ?_⟩ (by omega)
        by_cases hji : j = i
        · subst hji; rw [← getD_get hlt]; exact he
        · exact hall j (by omega)
    · have hge : i = xs.length := by simp at hc; omega
      subst hge
      rw [if_neg (by rw [oneV_true hall]; simpa using hnil)]
      refine AW.go ?_ (by simp only [go_sem, ↓reduceIte, hget0] <;> rfl)
      refine AW.callE (fun _ => 0) (refFix_fn (xs.getD 0 0) 8 hx0 (by omega)) (.pv _ (.pv _ .nil)) ?_
      refine AW.go ?_
      refine AW.finE (.move rfl (.pv _ .nil)) rfl
  · have hws : wayS xs 2 = (enc10 xs, 0) := by rw [wayS, if_neg hw, if_neg hl]; rfl
    rw [hws]
    refine AW.condF rfl ?_
    refine AW.go ?_
    refine AW.condF rfl ?_
    refine AW.go ?_
    refine AW.condT rfl ?_
    refine AW.go ?_
    refine AW.callE (fun _ => 0) (ref10Enc_fn xs hx) (.pv _ .nil) ?_
    simp only [if_pos hle]
    refine AW.go ?_
    refine AW.finE (.move rfl (.pv _ .nil)) rfl
  · have hws : wayS xs 3 = (enc09 xs, 0) := by rw [wayS, if_neg hw, if_neg hl]; rfl
    rw [hws]
    refine AW.condF rfl ?_
    refine AW.go ?_
    refine AW.condF rfl ?_
    refine AW.go ?_
    refine AW.condF rfl ?_
    refine AW.go ?_
    refine AW.callE (fun _ => 0) (ref09Enc_fn xs hx) (.pv _ .nil) ?_
    simp only [if_pos hle]
    refine AW.go ?_
    refine AW.finE (.move rfl (.pv _ .nil)) rfl
end Go.Ck

set_option linter.unusedVariables false
namespace Go.Ck
def stepB (xs : List Nat) (b : Nat × List Nat) (w : Nat) : Nat × List Nat := if (wayS xs w).2 = 0 ∧ (wayS xs w).1.length < b.2.length then (w, (wayS xs w).1) else b
def bestB (xs : List Nat) (n : Nat) : Nat × List Nat := (List.range n).foldl (fun b w => stepB xs b (w + 1)) (0, encP xs)
theorem bestB_zero (xs : List Nat) : bestB xs 0 = (0, encP xs) := rfl
theorem bestB_succ (xs : List Nat) (n : Nat) : bestB xs (n + 1) = stepB xs (bestB xs n) (n + 1) := by simp [bestB, List.range_succ]
def encV (xs : List Nat) : List Nat × Int := if 65536 < xs.length then ([], 4) else ((bestB xs 3).1 :: (bestB xs 3).2, 0)
theorem wayS_zero {xs : List Nat} (h : ¬ 65536 < xs.length) : wayS xs 0 = (encP xs, 0) := by
  rw [wayS, if_neg (by omega), if_neg h]; rfl
theorem bestB_le (xs : List Nat) (n : Nat) : (bestB xs n).2.length ≤ 8 * xs.length := by
  induction n with
  | zero => rw [bestB_zero]; simp only [encP_len]; omega
  | succ n ih =>
    rw [bestB_succ, stepB]
    split
    · rename_i h; simp only; omega
    · exact ih
theorem bestB_tag (xs : List Nat) (n : Nat) : (bestB xs n).1 ≤ n := by
  induction n with
  | zero => simp [bestB_zero]
  | succ n ih =>
    rw [bestB_succ, stepB]
    split
    · simp
    · omega
end Go.Ck
namespace Go.Ck
theorem filt_get (p : Nat → Bool) : ∀ (n w : Nat), w < n → p w = true → ((List.range n).filter p)[((List.range w).filter p).length]? = some w
  | 0, w, h, _ => by omega
  | n + 1, w, h, hp => by
    rw [List.range_succ, List.filter_append]
    by_cases hw : w < n
    · have ih := filt_get p n w hw hp
      obtain ⟨hlt, _⟩ := List.getElem?_eq_some_iff.1 ih
      rw [List.getElem?_append_left hlt]; exact ih
    · have : w = n := by omega
      subst this
      rw [List.getElem?_append_right (Nat.le_refl _), Nat.sub_self]
      simp [hp]
def okB' (xs : List Nat) (w : Nat) : Bool := decide ((wayS xs (w : Int)).2 = 0)
def okTo (xs : List Nat) (w : Nat) : Nat := ((List.range w).filter (okB' xs)).length
theorem okTo_succ (xs : List Nat) (w : Nat) : okTo xs (w + 1) = okTo xs w + (if okB' xs w = true then 1 else 0) := by
  rw [okTo, okTo, List.range_succ, List.filter_append, List.length_append]
  cases h : okB' xs w <;> simp [h]
/-- What is handed out, as it comes. -/
def outs (xs : List Nat) (i : Nat) : Option (List PV) := (((List.range 4).filter (okB' xs))[i]?).map fun (w : Nat) => [PV.int .i64 (w : Int), .sl 1 (bytes (wayS xs (w : Int)).1)]
theorem outs_at {xs : List Nat} {w : Nat} (hw : w < 4) (h : okB' xs w = true) : outs xs (okTo xs w) = some [.int .i64 (w : Int), .sl 1 (bytes (wayS xs (w : Int)).1)] := by
  rw [outs, okTo, filt_get _ 4 w hw h]; rfl
theorem outs_end (xs : List Nat) : outs xs (okTo xs 4) = none := by
  rw [outs, okTo, List.getElem?_eq_none (Nat.le_refl _)]; rfl
end Go.Ck
namespace Go.Ck
/-- The best so far, as the program keeps it. -/
def stepC (xs : List Nat) (b : Nat × List Nat) (w : Nat) : Nat × List Nat := if b.1 = 4 ∨ (wayS xs w).1.length < b.2.length then (w, (wayS xs w).1) else b
def okL (xs : List Nat) : List Nat := (List.range 4).filter (okB' xs)
def bestC (xs : List Nat) (i : Nat) : Nat × List Nat := ((okL xs).take i).foldl (stepC xs) (4, [])
theorem bestC_succ {xs : List Nat} {i w : Nat} (h : (okL xs)[i]? = some w) : bestC xs (i + 1) = stepC xs (bestC xs i) w := by
  rw [bestC, List.take_add_one, h]
  simp [bestC]
theorem bestC_all {xs : List Nat} (h : ¬ 65536 < xs.length) : bestC xs (okL xs).length = bestB xs 3 := by
  have h0 := wayS_zero h
  have hr : List.range 4 = [0, 1, 2, 3] := rfl
  have k0 : okB' xs 0 = true := by
    unfold okB'
    have : wayS xs ((0 : Nat) : Int) = (encP xs, 0) := h0
    rw [this]; rfl
  rw [bestC, List.take_length, okL, hr, bestB_succ, bestB_succ, bestB_succ, bestB_zero]
  have s0 : stepC xs (4, []) 0 = (0, encP xs) := by
    have : wayS xs ((0 : Nat) : Int) = (encP xs, 0) := h0
    rw [stepC, if_pos (.inl rfl), this]
  have st : ∀ (b : Nat × List Nat) (w : Nat), b.1 ≠ 4 → (if okB' xs w = true then stepC xs b w else b) = stepB xs b w := by
    intro b w hb
    unfold stepC stepB okB'
    by_cases h1 : (wayS xs (w : Int)).2 = 0
    · simp [h1, hb]
    · simp [h1]
  have ne : ∀ (b : Nat × List Nat) (w : Nat), w ≠ 4 → b.1 ≠ 4 → (stepB xs b w).1 ≠ 4 := by
    intro b w hw hb
    unfold stepB
    split
    · exact hw
    · exact hb
  have fo : ∀ (l : List Nat) (b : Nat × List Nat), (∀ w ∈ l, w ≠ 4) → b.1 ≠ 4 → (l.filter (okB' xs)).foldl (stepC xs) b = l.foldl (stepB xs) b := by
    intro l
    induction l with
    | nil => intro b _ _; rfl
    | cons w r ih =>
      intro b hw hb
      have hst := st b w hb
      rw [List.filter_cons]
      by_cases hk : okB' xs w = true
      · rw [if_pos hk] at hst ⊢
        rw [List.foldl_cons, List.foldl_cons, hst]
        exact ih _ (fun y hy => hw y (by simp [hy])) (ne b w (hw w (by simp)) hb)
      · rw [if_neg hk] at hst ⊢
        rw [List.foldl_cons, ← hst]
        exact ih _ (fun y hy => hw y (by simp [hy])) hb
  rw [List.filter_cons, if_pos k0, List.foldl_cons, s0, fo [1, 2, 3] (0, encP xs) (by simp) (by simp)]
  rfl
theorem outs_eq (xs : List Nat) (i : Nat) : outs xs i = ((okL xs)[i]?).map fun (w : Nat) => [PV.int .i64 (w : Int), .sl 1 (bytes (wayS xs (w : Int)).1)] := rfl
end Go.Ck

set_option linter.unusedVariables false
set_option maxRecDepth 10000
set_option maxHeartbeats 1000000
namespace Go.Ck
open Go.Proofs
def tgW (xs : List Nat) (w : Nat) : Int := if w = 0 then -1 else ((bestB xs (w - 1)).1 : Nat)
def bsW (xs : List Nat) (w : Nat) : List Nat := if w = 0 then [] else (bestB xs (w - 1)).2
theorem refEnc_fn (xs : List Nat) (hx : ∀ x ∈ xs, x < 2 ^ 64) : Fn Tryz.prog 20 [] [.pv (.sl 1 (u64s xs))]
    (fun rs H' => rs = [.own 5 (bytes (encV xs).1), .pv (.int .i64 (encV xs).2)] ∧ H' = []) := by
  refine Fn.of_body (fn := Tryz.f20) (n := 42) (res := [.tmp 2, .tmp 3]) (by kernel_rfl) rfl rfl rfl rfl rfl (fun C => ?_)
  have hr : room = 140737488355328 := rfl
  unfold encV
  refine AW.go ?_
  refine AW.cond rfl (fun hc => ?_) (fun hc => ?_)
  · have hl : 65536 < xs.length := by simp at hc; omega
    simp only [if_pos hl]
    refine AW.go ?_
    refine AW.finE (.move rfl (.pv _ .nil)) rfl
  have hl : ¬ 65536 < xs.length := by simp at hc; omega
  simp only [if_neg hl]
  refine AW.go ?_
  refine AW.freeze (p := .slot 5) (by simp only [go_sem, ↓reduceIte, freeze, freezeO] <;> rfl) ?_
  refine AW.loopS (fun w : Nat => ⟨42, [(6, .pv (.int .i64 w)), (4, .pv (.int .i64 (tgW xs w))), (5, .pv (.sl 1 (bytes (bsW xs w)))), (0, .pv (.sl 1 (u64s xs)))], []⟩) (fun w => w ≤ 4) (fun w => 4 - w) [6, 4, 5, 0] [] 0 (by omega) ?_
  rintro w hw K hK
  refine AW.go ?_
  refine AW.cond rfl (fun hc => ?_) (fun hc => ?_)
  · have hlt : w < 4 := by simp at hc; omega
    have ei : IntKind.i64.wrap ((w : Int) + 1) = ((w + 1 : Nat) : Int) := wrap_i64_succ (by omega)
    refine AW.go ?_
    refine AW.callE (fun _ => 0) (refWay_fn xs w hx) (.pv _ (.pv _ .nil)) ?_
    refine AW.freeze (p := .part 19 0) (by simp only [go_sem, ↓reduceIte, freeze, freezeO] <;> rfl) ?_
    refine AW.go ?_
    by_cases h0 : w = 0
    · subst h0
      have hz := wayS_zero hl
      have hz' : wayS xs ((0 : Nat) : Int) = (encP xs, 0) := hz
      rw [hz']
      refine AW.gg ?_
      refine AW.condT rfl ?_
      refine AW.go ?_ (by simp only [go_sem, ↓reduceIte, ei] <;> rfl)
      refine AW.again hK 1 (by omega) (by omega) (by simp only [go_sem, ↓reduceIte]) (by simp only [go_sem, ↓reduceIte, tgW, bsW, bestB_zero, Nat.sub_self, Nat.one_ne_zero] <;> rfl)
    obtain ⟨u, rfl⟩ : ∃ u, w = u + 1 := ⟨w - 1, by omega⟩
    have e0 : tgW xs (u + 1) = ((bestB xs u).1 : Nat) := rfl
    have e1 : bsW xs (u + 1) = (bestB xs u).2 := rfl
    have e2 : tgW xs (u + 1 + 1) = ((bestB xs (u + 1)).1 : Nat) := rfl
    have e3 : bsW xs (u + 1 + 1) = (bestB xs (u + 1)).2 := rfl
    have hss := bestB_succ xs u
    rw [stepB] at hss
    rw [e0, e1]
    generalize bestB xs u = b at *
    obtain ⟨t, bs⟩ := b
    simp only at hss ⊢
    by_cases he : (wayS xs ((u + 1 : Nat) : Int)).2 = 0
    · by_cases hlen : (wayS xs ((u + 1 : Nat) : Int)).1.length < bs.length
      · rw [if_pos ⟨he, hlen⟩] at hss
        generalize wayS xs ((u + 1 : Nat) : Int) = r at *
        obtain ⟨rb, re⟩ := r
        simp only at he hlen hss ⊢
        subst he
        refine AW.gg ?_
        refine AW.cond rfl (fun hc2 => ?_) (fun hc2 => absurd hlen (by simpa using hc2))
        refine AW.go ?_ (by simp only [go_sem, ↓reduceIte, ei] <;> rfl)
        refine AW.again hK (u + 1 + 1) (by omega) (by omega) (by simp only [go_sem, ↓reduceIte]) (by simp only [go_sem, ↓reduceIte, e2, e3, hss] <;> rfl)
      · rw [if_neg (fun h => hlen h.2)] at hss
        generalize wayS xs ((u + 1 : Nat) : Int) = r at *
        obtain ⟨rb, re⟩ := r
        simp only at he hlen hss ⊢
        subst he
        refine AW.gg ?_
        refine AW.cond rfl (fun hc2 => absurd (by simpa using hc2) hlen) (fun hc2 => ?_)
        refine AW.go ?_ (by simp only [go_sem, ↓reduceIte, ei] <;> rfl)
        refine AW.again hK (u + 1 + 1) (by omega) (by omega) (by simp only [go_sem, ↓reduceIte]) (by simp only [go_sem, ↓reduceIte, e2, e3, hss] <;> rfl)
    · rw [if_neg (fun h => he h.1)] at hss
      generalize wayS xs ((u + 1 : Nat) : Int) = r at *
      obtain ⟨rb, re⟩ := r
      simp only at he hss ⊢
      have hre : (re == 0) = false := by simpa using he
      refine AW.gg ?_ (by simp only [go_sem, ↓reduceIte, hre] <;> rfl)
      refine AW.condF rfl ?_
      refine AW.go ?_ (by simp only [go_sem, ↓reduceIte, ei] <;> rfl)
      refine AW.again hK (u + 1 + 1) (by omega) (by omega) (by simp only [go_sem, ↓reduceIte]) (by simp only [go_sem, ↓reduceIte, e2, e3, hss] <;> rfl)
  · have h4 : w = 4 := by simp at hc; omega
    subst h4
    have hle := bestB_le xs 3
    have htg := bestB_tag xs 3
    have e0 : tgW xs 4 = ((bestB xs 3).1 : Nat) := rfl
    have e1 : bsW xs 4 = (bestB xs 3).2 := rfl
    rw [e0, e1]
    generalize bestB xs 3 = b at *
    obtain ⟨t, bs⟩ := b
    simp only at hle htg ⊢
    have eu : IntKind.u8.wrap ((t : Nat) : Int) = (t : Nat) := wrap_u8_lt (by omega)
    have h1 : 1 + bs.length ≤ room := by omega
    refine AW.go ?_ (by simp only [go_sem, ↓reduceIte, eu, bytes_one, h1, List.length_cons, List.length_nil, Nat.zero_add, List.cons_append, List.nil_append] <;> rfl)
    refine AW.finE (.move rfl (.pv _ .nil)) rfl
end Go.Ck

set_option linter.unusedVariables false
set_option maxRecDepth 10000
set_option maxHeartbeats 1000000
namespace Go.Ck
open Go.Proofs
theorem AW.absurdC {P : Program} {R : Option Nat} {Φ : Exit → Cx → St → Prop} {e : Exit} {k : List It} {X : Bs → Prop} {s : St} (h : ∀ B, ¬ X B) : AW P R Φ e k (plain X) s := fun B a w ha => absurd ha.1.1.2 (h B)

theorem all_fn (xs : List Nat) : Fn Tryz.prog 39 [] [.pv (.sl 1 (u64s xs))] (fun rs H' => rs = [.fn 66 [.ptr 1 0]] ∧ H' = [(1, .cells 43 [.pv (.sl 1 (u64s xs))])]) := by
  refine Fn.of_body (fn := Tryz.f39) (n := 4) (res := [.tmp 2]) (by kernel_rfl) rfl rfl rfl rfl rfl (fun C => ?_)
  refine AW.go ?_
  refine AW.finE (.fn rfl .nil) rfl

theorem all1_iter (xs : List Nat) (o : Nat) (ho : o ≠ 0) (hx : ∀ x ∈ xs, x < 2 ^ 64) : Iter Tryz.prog 66 [.ptr 12 0] [(12, .cells 43 [.pv (.sl 1 (u64s xs))])] (outs xs) := by
  refine Iter.of_body (fn := Tryz.f66) (n := 25) (by kernel_rfl) rfl rfl rfl rfl (fun l X X0 N hY hN => ?_)
  refine AW.go ?_
  refine AW.loopC (n := 4) (fun m C s => ∃ w, m = 4 - w ∧ w ≤ 4 ∧ okTo xs w ≤ N ∧ C = plain (X (okTo xs w)) ∧ keepB [0, 1, 6] [12] s = ⟨25, [(0, .yl l), (1, .ptr 12 0), (6, .pv (.int .i64 w))], [(12, .cells 43 [.pv (.sl 1 (u64s xs))])]⟩ ∧ keptB none [0, 1, 6] [12] s = true) ⟨0, rfl, by omega, Nat.zero_le _, rfl, by simp only [go_sem, ↓reduceIte] <;> rfl, by simp only [go_sem, ↓reduceIte]⟩ ?_
  rintro m C s ⟨w, rfl, hw, hiN, rfl, hs, hk⟩
  refine AW.keepB [0, 1, 6] [12] hk hs ?_
  refine AW.go ?_
  refine AW.cond rfl (fun hc => ?_) (fun hc => ?_)
  · have hlt : w < 4 := by simp at hc; omega
    have ei : IntKind.i64.wrap ((w : Int) + 1) = ((w + 1 : Nat) : Int) := wrap_i64_succ (by omega)
    have hsu := okTo_succ xs w
    refine AW.go ?_
    refine AW.callE (fun _ => 0) (way_fn xs w hx) (.pv _ (.pv _ .nil)) ?_
    refine AW.freeze (p := .part 12 0) (by simp only [go_sem, ↓reduceIte, freeze, freezeO] <;> rfl) ?_
    refine AW.go ?_
    have hout := outs_at (xs := xs) hlt
    unfold okB' at hout hsu
    generalize wayS xs (w : Int) = r at *
    obtain ⟨rb, re⟩ := r
    simp only at hout hsu ⊢
    by_cases he : re = 0
    · subst he
      rw [if_pos (by simp)] at hsu
      have hout := hout (by simp)
      by_cases hn : okTo xs w = N
      · rcases hN with h | h
        · rw [← hn, hout] at h; cases h
        · rw [hn]; exact AW.absurdC h
      have hlt2 : okTo xs w < N := by omega
      obtain ⟨p, hp, hY1⟩ := hY _ hlt2
      rw [hout] at hp
      cases hp
      refine AW.gg ?_
      refine AW.guardT rfl rfl ?_
      refine AW.yield hY1 rfl rfl ?_ ?_
      · refine AW.gg ?_
        refine AW.condF rfl ?_
        refine AW.go ?_ (by simp only [go_sem, ↓reduceIte, ei] <;> rfl)
        refine AW.stop ⟨4 - (w + 1), by omega, w + 1, rfl, by omega, by omega, by rw [hsu], by simp only [go_sem, ↓reduceIte] <;> rfl, by simp only [go_sem, ↓reduceIte]⟩
      · refine AW.gg ?_
        refine AW.condT rfl ?_
        refine AW.go ?_
        exact AW.nil ⟨.inr rfl, .inr rfl⟩
    · have hre : (re == 0) = false := by simpa using he
      rw [if_neg (by simpa using he), Nat.add_zero] at hsu
      refine AW.gg ?_ (by simp only [go_sem, ↓reduceIte, hre] <;> rfl)
      refine AW.condF rfl ?_
      refine AW.go ?_ (by simp only [go_sem, ↓reduceIte, ei] <;> rfl)
      refine AW.stop ⟨4 - (w + 1), by omega, w + 1, rfl, by omega, by omega, by rw [hsu, Nat.add_zero], by simp only [go_sem, ↓reduceIte] <;> rfl, by simp only [go_sem, ↓reduceIte]⟩
  · have h4 : w = 4 := by simp at hc; omega
    subst h4
    have hend := outs_end xs
    have hNe : okTo xs 4 = N := by
      apply Classical.byContradiction
      intro hne
      obtain ⟨p, hp, _⟩ := hY _ (by omega : okTo xs 4 < N)
      rw [hend] at hp; cases hp
    rw [hNe] at hend ⊢
    refine AW.go ?_
    exact AW.nil ⟨.inl rfl, .inl ⟨hend, rfl⟩⟩
end Go.Ck

set_option linter.unusedVariables false
set_option maxRecDepth 10000
set_option maxHeartbeats 1000000
namespace Go.Ck
open Go.Proofs
attribute [go_sem] putParams keptH allNames pickH
theorem encV_fn (xs : List Nat) (hx : ∀ x ∈ xs, x < 2 ^ 64) : Fn Tryz.prog 16 [] [.pv (.sl 1 (u64s xs))]
    (fun rs H' => rs = [.own 5 (bytes (encV xs).1), .pv (.int .i64 (encV xs).2)] ∧ H' = []) := by
  refine Fn.of_bodyR (fn := Tryz.f16) (n := 31) (res := [.tmp 2, .tmp 3]) (by kernel_rfl) rfl rfl rfl rfl rfl (fun C => ?_)
  have hr : room = 140737488355328 := rfl
  unfold encV
  refine AW.go ?_
  refine AW.cond rfl (fun hc => ?_) (fun hc => ?_)
  · have hl : 65536 < xs.length := by simp at hc; omega
    simp only [if_pos hl]
    refine AW.go ?_
    refine AW.finR (.inl rfl) (.inr rfl) (by simp only [go_sem, ↓reduceIte, retsV] <;> rfl) (.move rfl (.pv _ .nil)) (H' := []) (by simp only [go_sem, ↓reduceIte]) (by simp only [go_sem, ↓reduceIte]) (by simp only [go_sem, ↓reduceIte]) ⟨rfl, rfl⟩
  have hl : ¬ 65536 < xs.length := by simp at hc; omega
  simp only [if_neg hl]
  refine AW.go ?_
  refine AW.callE (fun _ => 12) (all_fn xs) (.pv _ .nil) ?_
  refine AW.go ?_
  refine AW.nilsOwnAt (.cell 5 0) 5 ?_
  refine AW.freeze (p := .cell 5 0) (by simp only [go_sem, ↓reduceIte, freeze, freezeO] <;> rfl) ?_
  have hout : ∀ i p, outs xs i = some p → ∃ w : Nat, (okL xs)[i]? = some w ∧ p = [PV.int .i64 (w : Int), .sl 1 (bytes (wayS xs (w : Int)).1)] := by
    intro i p hp
    rw [outs_eq] at hp
    cases hk : (okL xs)[i]? with
    | none => rw [hk] at hp; cases hp
    | some w => rw [hk] at hp; cases hp; exact ⟨w, rfl, rfl⟩
  refine AW.rangeFunc [4, 5] [4, 5] (fun i hp => hp = [(4, .cells 3 [.pv (.int .i64 ((bestC xs i).1 : Nat))]), (5, .cells 26 [.pv (.sl 1 (bytes (bestC xs i).2))])]) (fun _ _ => False) (okL xs).length (all1_iter xs 1 (by omega) hx) rfl (by simp only [go_sem, ↓reduceIte]) (by simp only [go_sem, ↓reduceIte]) (by simp only [go_sem, ↓reduceIte]) (by simp only [go_sem, ↓reduceIte] <;> rfl) rfl rfl rfl rfl rfl ?_ ?_ (.inl ?_) ?_ ?_ ?_
  · intro i p hp
    obtain ⟨w, _, rfl⟩ := hout i p hp
    rfl
  · intro i hi
    rw [outs_eq]
    have := List.getElem?_eq_getElem hi
    rw [this]
    exact ⟨_, rfl⟩
  · rw [outs_eq, List.getElem?_eq_none (Nat.le_refl _)]; rfl
  · intro i p hi hp
    obtain ⟨w, hw, rfl⟩ := hout i p hp
    have hsu := bestC_succ hw
    rintro _ rfl l C1
    refine AW.go ?_
    refine AW.nil ⟨rfl, rfl, fun C2 => ?_⟩
    rw [stepC] at hsu
    generalize bestC xs i = b at *
    obtain ⟨t, bs⟩ := b
    generalize (wayS xs (w : Int)).1 = r at *
    simp only at hsu ⊢
    have e4 : ((t : Int) == 4) = decide (t = 4) := by rw [Bool.eq_iff_iff]; simp; omega
    by_cases ht : t = 4
    · have d4 : decide (t = 4) = true := decide_eq_true ht
      rw [if_pos (.inl ht)] at hsu
      refine AW.gg ?_ (by simp only [go_sem, ↓reduceIte, e4, d4] <;> rfl)
      refine AW.condT rfl ?_
      refine AW.go ?_
      refine AW.nil ⟨rfl, by simp only [go_sem, ↓reduceIte], by simp only [go_sem, ↓reduceIte], .inl ⟨rfl, ?_⟩⟩
      simp only [go_sem, ↓reduceIte, hsu]
    · have d4 : decide (t = 4) = false := decide_eq_false ht
      by_cases hlen : r.length < bs.length
      · rw [if_pos (.inr hlen)] at hsu
        have dl : decide (r.length < bs.length) = true := decide_eq_true hlen
        refine AW.gg ?_ (by simp only [go_sem, ↓reduceIte, e4, d4, dl] <;> rfl)
        refine AW.condT rfl ?_
        refine AW.go ?_
        refine AW.nil ⟨rfl, by simp only [go_sem, ↓reduceIte], by simp only [go_sem, ↓reduceIte], .inl ⟨rfl, ?_⟩⟩
        simp only [go_sem, ↓reduceIte, hsu]
      · rw [if_neg (fun h => h.elim ht hlen)] at hsu
        have dl : decide (r.length < bs.length) = false := decide_eq_false hlen
        refine AW.gg ?_ (by simp only [go_sem, ↓reduceIte, e4, d4, dl] <;> rfl)
        refine AW.condF rfl ?_
        refine AW.go ?_
        refine AW.nil ⟨rfl, by simp only [go_sem, ↓reduceIte], by simp only [go_sem, ↓reduceIte], .inl ⟨rfl, ?_⟩⟩
        simp only [go_sem, ↓reduceIte, hsu]
  · rintro _ _ rfl
    rw [bestC_all hl]
    have hle := bestB_le xs 3
    have htg := bestB_tag xs 3
    generalize bestB xs 3 = b at *
    obtain ⟨t, bs⟩ := b
    simp only at hle htg ⊢
    have eu : IntKind.u8.wrap ((t : Nat) : Int) = (t : Nat) := wrap_u8_lt (by omega)
    have h1 : 1 + bs.length ≤ room := by omega
    refine AW.go ?_ (by simp only [go_sem, ↓reduceIte, eu, bytes_one, h1, List.length_cons, List.length_nil, Nat.zero_add, List.cons_append, List.nil_append] <;> rfl)
    refine AW.finR (.inr rfl) (.inr rfl) (by simp only [go_sem, ↓reduceIte, retsV] <;> rfl) (.move rfl (.pv _ .nil)) (H' := []) (by simp only [go_sem, ↓reduceIte]) (by simp only [go_sem, ↓reduceIte]) (by simp only [go_sem, ↓reduceIte]) ⟨rfl, rfl⟩
  · rintro j hp h; exact h.elim
end Go.Ck

set_option linter.unusedVariables false
namespace Go.Ck
/-- What differs, or why that is not told; the place behind it; the window behind it. -/
structure GN where
  x : Nat
  e : Int
  k : Nat
  a : Int
  z : Int
def gNy (bs : List Nat) (k : Nat) (a z : Int) : GN :=
  if (a = -1 ∧ z = 0) ∨ z < 0 then ⟨0, 3, k, a, z⟩
  else if k + (64 - a - z).toNat ≤ bs.length then ⟨getB bs k (64 - a - z).toNat * 2 ^ z.toNat % 2 ^ 64, 0, k + (64 - a - z).toNat, a, z⟩ else ⟨0, 2, k, a, z⟩
def gNx (bs : List Nat) (k : Nat) (a z : Int) : GN :=
  if bs.length < k + 1 then ⟨0, 2, k, a, z⟩
  else if getB bs k 1 = 0 then ⟨0, 0, k + 1, a, z⟩
  else if bs.length < k + 2 then ⟨0, 2, k + 1, a, z⟩
  else if getB bs (k + 1) 1 = 1 then
    if bs.length < k + 7 then ⟨0, 2, k + 2, a, z⟩
    else if bs.length < k + 13 then ⟨0, 2, k + 7, a, z⟩
    else gNy bs (k + 13) (getB bs (k + 2) 5 : Nat) (63 - (getB bs (k + 2) 5 : Nat) - (getB bs (k + 7) 6 : Nat))
  else gNy bs (k + 2) a z
/-- A window that may be. -/
def wOK (a z : Int) : Prop := (a = -1 ∧ z = 0) ∨ (0 ≤ a ∧ a ≤ 31 ∧ 0 ≤ z ∧ a + z ≤ 63)
theorem getB_lt {bs : List Nat} (hb : ∀ x ∈ bs, x < 2) (k n : Nat) : getB bs k n < 2 ^ n := by
  have := binN_lt ((bs.drop k).take n) (fun x hx => hb x (List.mem_of_mem_drop (List.mem_of_mem_take hx)))
  exact Nat.lt_of_lt_of_le this (Nat.pow_le_pow_right (by omega) (by simp; omega))
/-- A window as it is read, or the one that was. -/
def wRd (a z : Int) : Prop := (a = -1 ∧ z = 0) ∨ (0 ≤ a ∧ a ≤ 31 ∧ a + z ≤ 63 ∧ -63 ≤ z)
theorem wOK.rd {a z : Int} (h : wOK a z) : wRd a z := by unfold wOK at h; unfold wRd; omega
theorem gNy_ok {bs : List Nat} {k : Nat} {a z : Int} (hw : wRd a z) (hk : k ≤ bs.length) : (gNy bs k a z).k ≤ bs.length ∧ (gNy bs k a z).x < 2 ^ 64 ∧ ((gNy bs k a z).e = 0 → wOK (gNy bs k a z).a (gNy bs k a z).z) := by
  unfold gNy
  split
  · exact ⟨hk, by simp, fun h => by simp at h⟩
  · rename_i h
    split
    · rename_i h2
      exact ⟨h2, Nat.mod_lt _ (by omega), fun _ => by simp only; unfold wRd at hw; unfold wOK; omega⟩
    · exact ⟨hk, by simp, fun h => by simp at h⟩
theorem gNx_ok {bs : List Nat} {k : Nat} {a z : Int} (hb : ∀ x ∈ bs, x < 2) (hw : wOK a z) (hk : k ≤ bs.length) : (gNx bs k a z).k ≤ bs.length ∧ (gNx bs k a z).x < 2 ^ 64 ∧ ((gNx bs k a z).e = 0 → wOK (gNx bs k a z).a (gNx bs k a z).z) := by
  unfold gNx
  split
  · exact ⟨hk, by simp, fun h => by simp at h⟩
  split
  · exact ⟨by simp only; omega, by simp, fun _ => hw⟩
  split
  · exact ⟨by simp only; omega, by simp, fun h => by simp at h⟩
  split
  · split
    · exact ⟨by simp only; omega, by simp, fun h => by simp at h⟩
    split
    · exact ⟨by simp only; omega, by simp, fun h => by simp at h⟩
    · have h5 := getB_lt hb (k + 2) 5
      have h6 := getB_lt hb (k + 7) 6
      exact gNy_ok (by unfold wRd; omega) (by omega)
  · exact gNy_ok hw.rd (by omega)
/-- So many patterns: those so far, why there are no more, the place, the window. -/
structure GS where
  o : List Nat
  e : Int
  k : Nat
  a : Int
  z : Int
def gRs (bs : List Nat) (r : GS) : GS :=
  if r.e ≠ 0 then r
  else if r.o.length = 0 then (if r.k + 64 ≤ bs.length then ⟨[getB bs r.k 64], 0, r.k + 64, r.a, r.z⟩ else ⟨[], 2, r.k, r.a, r.z⟩)
  else ⟨if (gNx bs r.k r.a r.z).e = 0 then r.o ++ [(gNx bs r.k r.a r.z).x ^^^ r.o.getD (r.o.length - 1) 0] else r.o, (gNx bs r.k r.a r.z).e, (gNx bs r.k r.a r.z).k, (gNx bs r.k r.a r.z).a, (gNx bs r.k r.a r.z).z⟩
def gR (bs : List Nat) : Nat → GS
  | 0 => ⟨[], 0, 0, -1, 0⟩
  | n + 1 => gRs bs (gR bs n)
theorem gR_stop {bs : List Nat} {i n : Nat} (hi : i ≤ n) (h : (gR bs i).e ≠ 0) : gR bs n = gR bs i := by
  induction n with
  | zero => rw [show i = 0 by omega]
  | succ n ih =>
    by_cases h1 : i = n + 1
    · rw [h1]
    · rw [gR, ih (by omega), gRs, if_pos h]
structure gOK (bs : List Nat) (n : Nat) : Prop where
  len : (gR bs n).o.length = n
  k : (gR bs n).k ≤ bs.length
  w : wOK (gR bs n).a (gR bs n).z
  lt : ∀ x ∈ (gR bs n).o, x < 2 ^ 64
theorem getD_lt {l : List Nat} {b : Nat} (h : ∀ x ∈ l, x < b) (hb : 0 < b) (i : Nat) : l.getD i 0 < b := by
  rw [List.getD_eq_getElem?_getD]
  cases hg : l[i]? with
  | none => exact hb
  | some z => exact h z (List.mem_of_getElem? hg)
theorem gR_ok {bs : List Nat} (hb : ∀ x ∈ bs, x < 2) : ∀ n, (gR bs n).e = 0 → gOK bs n
  | 0, _ => ⟨rfl, Nat.zero_le _, .inl ⟨rfl, rfl⟩, by simp [gR]⟩
  | n + 1, h => by
    by_cases h0 : (gR bs n).e = 0
    · obtain ⟨h1, h2, h3, h4⟩ := gR_ok hb n h0
      have hg := gNx_ok hb h3 h2
      have hlast : (gR bs n).o.getD ((gR bs n).o.length - 1) 0 < 2 ^ 64 := getD_lt h4 (by omega) _
      have hdef : gR bs (n + 1) = gRs bs (gR bs n) := rfl
      constructor <;> rw [hdef] at h ⊢ <;> generalize gR bs n = r at * <;> unfold gRs at h ⊢ <;> rw [if_neg (by simpa using h0)] at h ⊢
      · split
        · rename_i hl
          rw [if_pos hl] at h
          split
          · simp; omega
          · rename_i h6; rw [if_neg h6] at h; simp at h
        · rename_i hl
          rw [if_neg hl] at h
          simp only at h
          simp only [if_pos h, List.length_append, List.length_singleton]
          omega
      · split
        · split
          · assumption
          · exact h2
        · exact hg.1
      · split
        · split <;> exact h3
        · rename_i hl
          rw [if_neg hl] at h
          exact hg.2.2 h
      · split
        · split
          · intro x hx
            simp at hx
            subst hx
            exact getB_lt hb _ _
          · simp
        · rename_i hl
          rw [if_neg hl] at h
          simp only at h
          intro x hx
          simp only [if_pos h, List.mem_append, List.mem_singleton] at hx
          rcases hx with hx | rfl
          · exact h4 x hx
          · exact Nat.xor_lt_two_pow hg.2.1 hlast
    · have : gR bs (n + 1) = gR bs n := gR_stop (by omega) h0
      rw [this] at h
      exact absurd h h0
def dec09 (l : List Nat) (n : Nat) : List Nat × Int :=
  if (gR (unb l) n).e ≠ 0 then ([], (gR (unb l) n).e) else if enc09 (gR (unb l) n).o = l then ((gR (unb l) n).o, 0) else ([], 3)
theorem enc09_byte (xs : List Nat) : ∀ x ∈ enc09 xs, x < 256 := pk_byte _ (gF_bit xs)
end Go.Ck

set_option linter.unusedVariables false
set_option maxRecDepth 10000
set_option maxHeartbeats 1000000
namespace Go.Ck
open Go.Proofs
abbrev gwO (l : List Nat) (k : Nat) (a z : Int) : List (Nat × HO) := [(1000, .cells 138 [.pv (.sl 1 (bytes l)), .pv (.int .i64 k)]), (1001, .cells 109 [.pv (.int .i64 a), .pv (.int .i64 z)])]
attribute [go_sem] gwO
theorem gnext_fn (l : List Nat) (k : Nat) (a z : Int) (hk : k ≤ 8 * l.length) (hl : 8 * l.length ≤ room) (hb : ∀ x ∈ l, x < 256) (hw : wOK a z) : Fn Tryz.prog 115 (gwO l k a z) [.ptr 1000 0, .ptr 1001 0]
    (fun rs H' => rs = [.pv (.int .u64 (gNx (unb l) k a z).x), .pv (.int .i64 (gNx (unb l) k a z).e)] ∧ H' = gwO l (gNx (unb l) k a z).k (gNx (unb l) k a z).a (gNx (unb l) k a z).z) := by
  refine Fn.of_body (fn := Tryz.f115) (n := 90) (res := [.tmp 4, .tmp 5]) (by kernel_rfl) rfl rfl rfl rfl rfl (fun C => ?_)
  have hr : room < 2 ^ 62 := by decide
  have hul := unb_len l
  have hub := unb_bit l
  refine AW.go ?_
  refine AW.callE id (rdGet_fn l k 1 (by omega) hk hl hb) (.ptr rfl (.pv _ .nil)) ?_
  by_cases h1 : 8 * l.length < k + 1
  · have hs : gNx (unb l) k a z = ⟨0, 2, k, a, z⟩ := by rw [gNx, if_pos (by omega)]
    simp only [if_neg (Nat.not_le.2 h1), hs]
    refine AW.gg ?_
    refine AW.condT rfl ?_
    refine AW.go ?_
    refine AW.finE (.pv _ (.pv _ .nil)) rfl
  have h1' : k + 1 ≤ 8 * l.length := by omega
  simp only [if_pos h1']
  by_cases h2 : getB (unb l) k 1 = 0
  · have hs : gNx (unb l) k a z = ⟨0, 0, k + 1, a, z⟩ := by rw [gNx, if_neg (by omega), if_pos h2]
    simp only [h2, hs]
    refine AW.gg ?_
    refine AW.condT rfl ?_
    refine AW.go ?_
    refine AW.finE (.pv _ (.pv _ .nil)) rfl
  have e2 : (((getB (unb l) k 1 : Nat) : Int) == 0) = false := by simpa using h2
  refine AW.gg ?_ (by simp only [go_sem, ↓reduceIte, e2] <;> rfl)
  refine AW.condF rfl ?_
  refine AW.go ?_
  refine AW.callE id (rdGet_fn l (k + 1) 1 (by omega) h1' hl hb) (.ptr rfl (.pv _ .nil)) ?_
  by_cases h3 : 8 * l.length < k + 2
  · have hs : gNx (unb l) k a z = ⟨0, 2, k + 1, a, z⟩ := by rw [gNx, if_neg (by omega), if_neg h2, if_pos (by omega)]
    simp only [if_neg (Nat.not_le.2 h3), hs]
    refine AW.go ?_
    refine AW.condT rfl ?_
    refine AW.go ?_
    refine AW.finE (.pv _ (.pv _ .nil)) rfl
  have h3' : k + 2 ≤ 8 * l.length := by omega
  simp only [if_pos h3']
  refine AW.go ?_
  refine AW.condF rfl ?_
  refine AW.go ?_
  refine AW.joinS (fun q : Nat × Int × Int => ⟨90, [(0, .ptr 1000 0), (1, .ptr 1001 0)], gwO l q.1 q.2.1 q.2.2⟩) (fun q => q.1 ≤ 8 * l.length ∧ wRd q.2.1 q.2.2 ∧ gNx (unb l) k a z = gNy (unb l) q.1 q.2.1 q.2.2) [0, 1] [1000, 1001] ?_ ?_
  · intro K hK
    refine AW.cond rfl (fun hc => ?_) (fun hc => ?_)
    · have h4 : getB (unb l) (k + 1) 1 = 1 := by simp at hc; omega
      refine AW.go ?_
      refine AW.callE id (rdGet_fn l (k + 2) 5 (by omega) h3' hl hb) (.ptr rfl (.pv _ .nil)) ?_
      by_cases h5 : 8 * l.length < k + 7
      · have hs : gNx (unb l) k a z = ⟨0, 2, k + 2, a, z⟩ := by rw [gNx, if_neg (by omega), if_neg h2, if_neg (by omega), if_pos h4, if_pos (by omega)]
        simp only [if_neg (show ¬ k + 2 + 5 ≤ 8 * l.length by omega), hs]
        refine AW.go ?_
        refine AW.condT rfl ?_
        refine AW.go ?_
        refine AW.finE (.pv _ (.pv _ .nil)) rfl
      have h5' : k + 2 + 5 ≤ 8 * l.length := by omega
      simp only [if_pos h5']
      refine AW.go ?_
      refine AW.condF rfl ?_
      refine AW.go ?_
      refine AW.callE id (rdGet_fn l (k + 7) 6 (by omega) h5' hl hb) (.ptr rfl (.pv _ .nil)) ?_
      by_cases h6 : 8 * l.length < k + 13
      · have hs : gNx (unb l) k a z = ⟨0, 2, k + 7, a, z⟩ := by rw [gNx, if_neg (by omega), if_neg h2, if_neg (by omega), if_pos h4, if_neg (by omega), if_pos (by omega)]
        simp only [if_neg (show ¬ k + 7 + 6 ≤ 8 * l.length by omega), hs]
        refine AW.go ?_
        refine AW.condT rfl ?_
        refine AW.go ?_
        refine AW.finE (.pv _ (.pv _ .nil)) rfl
      have h6' : k + 7 + 6 ≤ 8 * l.length := by omega
      simp only [if_pos h6']
      have hs : gNx (unb l) k a z = gNy (unb l) (k + 13) (getB (unb l) (k + 2) 5 : Nat) (63 - (getB (unb l) (k + 2) 5 : Nat) - (getB (unb l) (k + 7) 6 : Nat)) := by rw [gNx, if_neg (by omega), if_neg h2, if_neg (by omega), if_pos h4, if_neg (by omega), if_neg (by omega)]
      have b5 := getB_lt hub (k + 2) 5
      have b6 := getB_lt hub (k + 7) 6
      generalize getB (unb l) (k + 2) 5 = u at *
      generalize getB (unb l) (k + 7) 6 = v at *
      have w1 : IntKind.i64.wrap (u : Int) = u := wrap_i64_nat (by omega)
      have w2 : IntKind.i64.wrap (v : Int) = v := wrap_i64_nat (by omega)
      have w3 : IntKind.i64.wrap (IntKind.i64.wrap (63 - (u : Int)) - (v : Int)) = 63 - (u : Int) - (v : Int) := by rw [wrap_i64_of (n := 63 - (u : Int)) (by omega) (by omega), wrap_i64_of (by omega) (by omega)]
      refine AW.go ?_
      refine AW.condF rfl ?_
      refine AW.go ?_ (by simp only [go_sem, ↓reduceIte, w1, w2, w3] <;> rfl)
      exact AW.meet hK (k + 13, (u : Int), 63 - (u : Int) - (v : Int)) ⟨by simp only; omega, by unfold wRd; simp only; omega, hs⟩
    · have h4 : ¬ getB (unb l) (k + 1) 1 = 1 := by simp at hc; omega
      have hs : gNx (unb l) k a z = gNy (unb l) (k + 2) a z := by rw [gNx, if_neg (by omega), if_neg h2, if_neg (by omega), if_neg h4]
      refine AW.go ?_
      exact AW.meet hK (k + 2, a, z) ⟨h3', hw.rd, hs⟩
  clear hw hk h1 h1' h2 e2 h3 h3'
  rintro ⟨k', a', z'⟩ ⟨hk, hw, hs⟩
  simp only at hk hw hs
  rw [hs]
  clear hs
  refine AW.go ?_
  refine AW.any0 mixed ?_
  refine via (T := ?T1) (fun hT => ?_) ?_
  rotate_left
  · refine AW.branch (rs := [0, 3]) ?_ (by decide +kernel) (by simp)
    intro j hj
    simp only [List.mem_cons, List.not_mem_nil, or_false] at hj
    rcases hj with rfl | rfl
    · refine AW.go ?_
      refine AW.branch (fuel := 10) (rs := [1, 3]) ?_ (by decide +kernel) (by simp)
      intro j hj
      simp only [List.mem_cons, List.not_mem_nil, or_false] at hj
      rcases hj with rfl | rfl
      · refine AW.go ?_
        refine AW.branch (fuel := 9) (rs := [2, 3]) ?_ (by decide +kernel) (by simp)
        intro j hj
        simp only [List.mem_cons, List.not_mem_nil, or_false] at hj
        rcases hj with rfl | rfl
        · refine AW.go ?_
          refine AW.seqs (fuel := 8) (listed' := #[true, true, true, true, false, false, false, false, false, false, false, false]) [3] ?_ (by decide +kernel)
          refine AW.go ?_
          refine AW.callE (fun _ => 0) none_fn .nil ?_
          refine AW.go ?_
          refine AW.keepB [0, 1, 64, 65] [1000, 1001] (by simp only [go_sem, ↓reduceIte]) (by simp only [go_sem, ↓reduceIte] <;> rfl) ?_
          exact hT ()
        · refine AW.go ?_
          refine AW.callE (fun _ => 0) none_fn .nil ?_
          refine AW.seqs (fuel := 8) (listed' := #[true, true, true, true, false, false, false, false, false, false, false, false]) [2] ?_ (by decide +kernel)
          refine AW.go ?_
          refine AW.keepB [0, 1, 64, 65] [1000, 1001] (by simp only [go_sem, ↓reduceIte]) (by simp only [go_sem, ↓reduceIte] <;> rfl) ?_
          exact hT ()
      · refine AW.go ?_
        refine AW.callE (fun _ => 0) none_fn .nil ?_
        refine AW.seqs (fuel := 8) (listed' := #[true, true, true, true, false, false, false, false, false, false, false, false]) [1, 2] ?_ (by decide +kernel)
        refine AW.go ?_
        refine AW.keepB [0, 1, 64, 65] [1000, 1001] (by simp only [go_sem, ↓reduceIte]) (by simp only [go_sem, ↓reduceIte] <;> rfl) ?_
        exact hT ()
    · refine AW.go ?_
      refine AW.callE (fun _ => 0) none_fn .nil ?_
      refine AW.seqs (fuel := 8) (listed' := #[true, true, true, true, false, false, false, false, false, false, false, false]) [0, 1, 2] ?_ (by decide +kernel)
      refine AW.go ?_
      refine AW.keepB [0, 1, 64, 65] [1000, 1001] (by simp only [go_sem, ↓reduceIte]) (by simp only [go_sem, ↓reduceIte] <;> rfl) ?_
      exact hT ()
  refine AW.seqs (fuel := 7) (listed' := #[true, true, true, true, true, false, false, false, false, false, false, false]) [4] ?_ (by decide +kernel)
  refine AW.go ?_
  refine AW.eq2 (ho := rfl) eqWin rfl rfl ?_
  by_cases hn : a' = -1 ∧ z' = 0
  · have hs : gNy (unb l) k' a' z' = ⟨0, 3, k', a', z'⟩ := by rw [gNy, if_pos (.inl hn)]
    obtain ⟨rfl, rfl⟩ := hn
    rw [hs]
    refine AW.gg ?_
    refine AW.seqs (fuel := 0) (listed' := #[true, true, true, true, true, true, true, true, true, true, true, true]) [5, 6, 7, 8, 9, 10, 11] ?_ (by decide +kernel)
    refine AW.gg ?_
    refine AW.anyDone (by decide +kernel) ?_
    refine AW.condT rfl ?_
    refine AW.go ?_
    refine AW.finE (.pv _ (.pv _ .nil)) rfl
  have en : (a' == -1 && z' == 0) = false := by simp; intro h; exact fun h2 => hn ⟨h, h2⟩
  rw [en]
  by_cases hz : z' < 0
  · have hs : gNy (unb l) k' a' z' = ⟨0, 3, k', a', z'⟩ := by rw [gNy, if_pos (.inr hz)]
    rw [hs]
    have ez : decide (z' < 0) = true := decide_eq_true hz
    refine AW.gg ?_
    refine AW.seqs (fuel := 0) (listed' := #[true, true, true, true, true, true, true, true, true, true, true, true]) [5, 6, 7, 8, 9, 10, 11] ?_ (by decide +kernel)
    refine AW.gg ?_ (by simp only [go_sem, ↓reduceIte, ez] <;> rfl)
    refine AW.anyDone (by decide +kernel) ?_
    refine AW.condT rfl ?_
    refine AW.go ?_
    refine AW.finE (.pv _ (.pv _ .nil)) rfl
  have ez : decide (z' < 0) = false := decide_eq_false hz
  refine AW.gg ?_
  refine AW.seqs (fuel := 0) (listed' := #[true, true, true, true, true, true, true, true, true, true, true, true]) [5, 6, 7, 8, 9, 10, 11] ?_ (by decide +kernel)
  refine AW.gg ?_ (by simp only [go_sem, ↓reduceIte, ez] <;> rfl)
  refine AW.anyDone (by decide +kernel) ?_
  refine AW.condF rfl ?_
  have hnz : ¬ ((a' = -1 ∧ z' = 0) ∨ z' < 0) := fun h => h.elim hn hz
  have hs : gNy (unb l) k' a' z' = if k' + (64 - a' - z').toNat ≤ 8 * l.length then ⟨getB (unb l) k' (64 - a' - z').toNat * 2 ^ z'.toNat % 2 ^ 64, 0, k' + (64 - a' - z').toNat, a', z'⟩ else ⟨0, 2, k', a', z'⟩ := by rw [gNy, if_neg hnz, hul]
  rw [hs]
  clear hs en ez
  unfold wRd at hw
  obtain ⟨u, rfl⟩ : ∃ u : Nat, a' = u := ⟨a'.toNat, by omega⟩
  obtain ⟨t, rfl⟩ : ∃ t : Nat, z' = t := ⟨z'.toNat, by omega⟩
  have eR : (64 - (u : Int) - (t : Int)).toNat = 64 - u - t := by omega
  rw [eR, Int.toNat_natCast]
  refine AW.go ?_
  refine AW.callE (fun _ => 0) (rest_fn u t (by omega)) (.pv _ .nil) ?_
  refine AW.go ?_
  refine AW.callE id (rdGet_fn l k' (64 - u - t) (by omega) hk hl hb) (.ptr rfl (.pv _ .nil)) ?_
  by_cases h7 : k' + (64 - u - t) ≤ 8 * l.length
  · simp only [if_pos h7]
    generalize getB (unb l) k' (64 - u - t) = y at *
    have e7 := shlI_nat64 y t (by omega)
    refine AW.go ?_ (by simp only [go_sem, ↓reduceIte, e7] <;> rfl)
    refine AW.finE (.pv _ (.pv _ .nil)) rfl
  · simp only [if_neg h7]
    have e7 : shlI .u64 ((0 : Nat) : Int) (t : Int) = ((0 : Nat) : Int) := by have := shlI_nat64 0 t (by omega); simpa using this
    refine AW.go ?_ (by simp only [go_sem, ↓reduceIte, e7] <;> rfl)
    refine AW.finE (.pv _ (.pv _ .nil)) rfl

theorem gorDec_fn (l : List Nat) (n : Nat) (hn : n ≤ 65536) (hl : l.length ≤ 2 ^ 40) (hb : ∀ x ∈ l, x < 256) : Fn Tryz.prog 80 [] [.pv (.sl 1 (bytes l)), .pv (.int .i64 n)]
    (fun rs H' => rs = [.own 39 (u64s (dec09 l n).1), .pv (.int .i64 (dec09 l n).2)] ∧ H' = []) := by
  refine Fn.of_body (fn := Tryz.f80) (n := 64) (res := [.tmp 4, .tmp 5]) (by kernel_rfl) rfl rfl rfl rfl rfl (fun C => ?_)
  have hr : room = 140737488355328 := rfl
  have hub := unb_bit l
  have hul := unb_len l
  refine AW.gg ?_
  refine AW.condF (by simp only [go_sem, ↓reduceIte]; congr 3; simp; omega) ?_
  refine AW.go ?_
  refine AW.callE (fun o => if o = 6 then 21 else 0) (rdNew_fn l (by omega)) (.pv _ .nil) ?_
  refine AW.go ?_
  refine AW.callE (fun _ => 0) none_fn .nil ?_
  refine AW.go ?_
  unfold dec09
  generalize hbs : unb l = bs at *
  refine AW.loopS (fun i : Nat => ⟨64, [(24, .pv (.int .i64 i)), (23, .pv (.int .i64 n)), (8, .own 39 (u64s (gR bs i).o)), (7, .ptr 7 0), (6, .ptr 21 0), (0, .pv (.sl 1 (bytes l)))], [(21, .cells 138 [.pv (.sl 1 (bytes l)), .pv (.int .i64 (gR bs i).k)]), (7, .cells 109 [.pv (.int .i64 (gR bs i).a), .pv (.int .i64 (gR bs i).z)])]⟩) (fun i => i ≤ n ∧ (gR bs i).e = 0) (fun i => n - i) [24, 23, 8, 7, 6, 0] [21, 7] 0 ⟨Nat.zero_le _, rfl⟩ ?_
  rintro i ⟨hi, he⟩ K hK
  obtain ⟨o1, o2, o3, o4⟩ := gR_ok hub i he
  refine AW.go ?_
  refine AW.cond rfl (fun hc => ?_) (fun hc => ?_)
  · have hlt : i < n := by simpa using hc
    have hsu : gR bs (i + 1) = gRs bs (gR bs i) := rfl
    have hstop := @gR_stop bs (i + 1) n hlt
    generalize hrr : gR bs (i + 1) = r' at hsu hstop
    generalize gR bs i = r at *
    obtain ⟨o, e, k, a, z⟩ := r
    simp only at he o1 o2 o3 o4 hsu ⊢
    subst he
    have h1 : (i + 1) * 8 ≤ room := by omega
    have h2 : i + 1 ≤ room := by omega
    have ei : IntKind.i64.wrap ((i : Int) + 1) = ((i + 1 : Nat) : Int) := wrap_i64_succ (by omega)
    by_cases h0 : i = 0
    · subst h0
      unfold gRs at hsu
      rw [if_neg (by simp), if_pos (by simpa using o1)] at hsu
      simp only at hsu
      have ho : o = [] := List.length_eq_zero_iff.1 o1
      subst ho
      refine AW.go ?_
      refine AW.condT rfl ?_
      refine AW.go ?_
      refine AW.callE (fun _ => 21) (rdGet_fn l k 64 (by omega) (by omega) (by omega) hb) (.ptr rfl (.pv _ .nil)) ?_
      rw [hbs]
      by_cases h64 : k + 64 ≤ 8 * l.length
      · rw [if_pos (by omega)] at hsu
        simp only [if_pos h64]
        refine AW.go ?_
        refine AW.condF rfl ?_
        refine AW.go ?_ (by simp only [go_sem, ↓reduceIte, u64s_one, ei] <;> rfl)
        rw [hsu] at hrr
        refine AW.again hK 1 ⟨hlt, by rw [show gR bs 1 = _ from hrr]⟩ (by omega) (by simp only [go_sem, ↓reduceIte]) (by simp only [go_sem, ↓reduceIte, show gR bs 1 = _ from hrr] <;> rfl)
      · rw [if_neg (by omega)] at hsu
        have hst := hstop (by rw [hsu]; simp)
        rw [hsu] at hst
        simp only [if_neg h64, hst]
        refine AW.go ?_
        refine AW.condT rfl ?_
        refine AW.go ?_
        refine AW.finE (.move rfl (.pv _ .nil)) rfl
    · unfold gRs at hsu
      rw [if_neg (by simp), if_neg (by simp only; omega)] at hsu
      simp only at hsu
      have c0 : ((i : Int) == 0) = false := by simpa using h0
      have ei1 : IntKind.i64.wrap ((i : Int) - 1) = ((i - 1 : Nat) : Int) := by rw [wrap_i64_of (by omega) (by omega)]; omega
      have hlo : i - 1 < o.length := by omega
      have hget : (u64s o)[i - 1]? = some (.int .u64 (o.getD (o.length - 1) 0 : Nat)) := by rw [u64s_get hlo, getD_get hlo, o1]
      have hy := getD_lt o4 (by omega) (o.length - 1)
      have hgn := gNx_ok hub o3 (a := a) (z := z) (k := k) (by omega)
      have hnx := gnext_fn l k a z (by omega) (by omega) hb o3
      rw [hbs] at hnx
      refine AW.go ?_ (by simp only [go_sem, ↓reduceIte, c0] <;> rfl)
      refine AW.condF rfl ?_
      refine AW.go ?_
      refine AW.callE (fun o => if o = 1000 then 21 else if o = 1001 then 7 else 0) hnx (.ptr rfl (.ptr rfl .nil)) ?_
      generalize gNx bs k a z = q at *
      obtain ⟨x, e, k2, a2, z2⟩ := q
      simp only at hgn hsu ⊢
      generalize o.getD (o.length - 1) 0 = y at *
      have hxy := ibits_xor64 hgn.2.1 hy
      refine AW.go ?_ (by simp only [go_sem, ↓reduceIte, ei1, hlo, hget, hxy] <;> rfl)
      refine AW.cond rfl (fun hc2 => ?_) (fun hc2 => ?_)
      · have hne : e ≠ 0 := by simpa using hc2
        have hst := hstop (by rw [hsu]; exact hne)
        rw [hsu] at hst
        simp only [hst, if_pos hne]
        refine AW.go ?_
        refine AW.finE (.move rfl (.pv _ .nil)) rfl
      · have hne : e = 0 := by simpa using hc2
        subst hne
        rw [if_pos rfl] at hsu
        refine AW.go ?_ (by simp only [go_sem, ↓reduceIte, o1, h1, h2, u64s_one, ei] <;> rfl)
        rw [hsu] at hrr
        refine AW.again hK (i + 1) ⟨hlt, by rw [hrr]⟩ (by omega) (by simp only [go_sem, ↓reduceIte]) (by simp only [go_sem, ↓reduceIte, hrr] <;> rfl)
  have hge : i = n := by simp at hc; omega
  subst hge
  simp only [if_neg (show ¬ (gR bs i).e ≠ 0 from fun h => h he)]
  generalize (gR bs i).o = o at *
  have hle : o.length ≤ 65536 := by omega
  refine AW.go ?_
  refine AW.callE (fun _ => 0) (gorEnc_fn o o4) (.lend rfl co_39 .nil) ?_
  simp only [if_pos hle]
  refine AW.go ?_
  refine AW.callE (fun _ => 0) (bytesEqual_fn (enc09 o) l (enc09_byte _) hb) (.lend rfl co_5 (.pv _ .nil)) ?_
  refine AW.go ?_
  refine AW.cond rfl (fun hc2 => ?_) (fun hc2 => ?_)
  · have hne : ¬ enc09 o = l := by simpa using hc2
    simp only [if_neg hne]
    refine AW.go ?_
    refine AW.finE (.move rfl (.pv _ .nil)) rfl
  · have hne : enc09 o = l := by simpa using hc2
    simp only [if_pos hne]
    refine AW.go ?_
    refine AW.finE (.move rfl (.pv _ .nil)) rfl
end Go.Ck

set_option linter.unusedVariables false
namespace Go.Ck
def zr (a z : Int) : Int := if a = -1 then -1 else z
/-- The reference's reading, between two rounds. -/
structure RQ where
  i : Nat
  o : List Nat
  rest : List Nat
  bad : Int
  a : Int
  z : Int
def RQ.ok (bs : List Nat) (n : Nat) (q : RQ) : Prop := q.i ≤ n ∧ q.o.length = q.i ∧ (∀ x ∈ q.o, x < 2 ^ 64) ∧ (gR bs q.i).e = q.bad ∧
  (q.bad = 0 → q.o = (gR bs q.i).o ∧ q.rest = bs.drop (gR bs q.i).k ∧ q.a = (gR bs q.i).a ∧ q.z = zr (gR bs q.i).a (gR bs q.i).z)
theorem zr_neg {a z : Int} (h : wRd a z) : ((a = -1 ∧ z = 0) ∨ z < 0) ↔ (a < 0 ∨ zr a z < 0) := by
  unfold wRd at h; unfold zr; split <;> omega
theorem zr_pos {a z : Int} (h : 0 ≤ a) : zr a z = z := by unfold zr; rw [if_neg (by omega)]
theorem getB_drop (bs : List Nat) (k n : Nat) : binN ((bs.drop k).take n) = getB bs k n := rfl
/-- n patterns out of bytes, some way. -/
def rd11 (l : List Nat) (n t : Nat) : List Nat × Int :=
  if t = 2 then dec10 l n else if t = 3 then dec09 l n
  else if l.length < 8 * (if t = 1 then 1 else n) then ([], 2) else if l.length ≠ 8 * (if t = 1 then 1 else n) then ([], 3)
  else (if t = 1 then List.replicate n (beN (l.take 8)) else dic l n, 0)
def dec11 (l : List Nat) (n : Int) : List Nat × Int :=
  if n < 0 ∨ 65536 < n then ([], 1) else if l = [] then ([], 2) else if 4 ≤ l.headD 0 then ([], 3)
  else if (rd11 l.tail n.toNat (l.headD 0)).2 ≠ 0 then ([], (rd11 l.tail n.toNat (l.headD 0)).2)
  else if (encV (rd11 l.tail n.toNat (l.headD 0)).1).1 = l then ((rd11 l.tail n.toNat (l.headD 0)).1, 0) else ([], 3)
/-- What fixed reads: the patterns, why not, what is left. -/
def fx (l : List Nat) (n : Nat) : List Nat × Int × List Nat :=
  if 8 * n ≤ l.length then (dic l n, if l.drop (8 * n) = [] then 0 else 3, l.drop (8 * n)) else ([], 2, l.drop (8 * (l.length / 8)))
def vR (l : List Nat) (n t : Nat) : List Nat × Int × List Nat :=
  if t = 0 then fx l n
  else if t = 1 then (if (fx l 1).2.1 ≠ 0 then ([], (fx l 1).2.1, (fx l 1).2.2) else (List.replicate n (beN (l.take 8)), 0, (fx l 1).2.2))
  else if t = 2 then ((dec10 l n).1, (dec10 l n).2, []) else ((dec09 l n).1, (dec09 l n).2, [])
theorem fx_err (l : List Nat) (n : Nat) : (fx l n).2.1 = if l.length < 8 * n then 2 else if l.length ≠ 8 * n then 3 else 0 := by
  unfold fx
  by_cases h : 8 * n ≤ l.length
  · rw [if_pos h]
    have h1 : ¬ l.length < 8 * n := by omega
    by_cases h2 : l.length ≤ 8 * n
    · have h3 : ¬ l.length ≠ 8 * n := by omega
      simp only [List.drop_eq_nil_iff, if_pos h2, if_neg h1, if_neg h3]
    · have h3 : l.length ≠ 8 * n := by omega
      simp only [List.drop_eq_nil_iff, if_neg h2, if_neg h1, if_pos h3]
  · rw [if_neg h, if_pos (by omega)]
theorem vR_rd {l : List Nat} {n t : Nat} (ht : t < 4) : (vR l n t).2.1 = (rd11 l n t).2 ∧ ((rd11 l n t).2 = 0 → (vR l n t).1 = (rd11 l n t).1) := by
  have hc : t = 0 ∨ t = 1 ∨ t = 2 ∨ t = 3 := by omega
  rcases hc with rfl | rfl | rfl | rfl
  · have e := fx_err l n
    simp only [vR, rd11, if_true, Nat.reduceEqDiff, if_false] at *
    constructor
    · rw [e]; split
      · rfl
      · split <;> rfl
    · split
      · intro h; simp at h
      · split
        · intro h; simp at h
        · intro _; unfold fx; rw [if_pos (by omega)]
  · have e := fx_err l 1
    simp only [vR, rd11, if_true, Nat.reduceEqDiff, if_false, Nat.one_ne_zero] at *
    rw [e]
    split
    · simp
    · split <;> simp
  · simp [vR, rd11]
  · simp [vR, rd11]
theorem dec10_lt {l : List Nat} (hb : ∀ x ∈ l, x < 256) (n : Nat) : ∀ x ∈ (dec10 l n).1, x < 2 ^ 64 := by
  unfold dec10 dec10b
  split
  · simp
  split
  · simp
  split
  · simp
  split
  · simp
  split
  · simp
  split
  · exact pats_lt _ _ _ (fun x hx => hb x (List.mem_of_mem_drop hx))
  · simp
theorem dec09_lt (l : List Nat) (n : Nat) : ∀ x ∈ (dec09 l n).1, x < 2 ^ 64 := by
  unfold dec09
  split
  · simp
  · rename_i h
    split
    · exact (gR_ok (unb_bit l) n (by simpa using h)).lt
    · simp
theorem rd11_lt {l : List Nat} (hb : ∀ x ∈ l, x < 256) (n t : Nat) : ∀ x ∈ (rd11 l n t).1, x < 2 ^ 64 := by
  unfold rd11
  by_cases h2 : t = 2
  · rw [if_pos h2]; exact dec10_lt hb n
  rw [if_neg h2]
  by_cases h3 : t = 3
  · rw [if_pos h3]; exact dec09_lt l n
  rw [if_neg h3]
  generalize 8 * (if t = 1 then 1 else n) = m
  by_cases h4 : l.length < m
  · rw [if_pos h4]; intro x hx; cases hx
  rw [if_neg h4]
  by_cases h5 : l.length ≠ m
  · rw [if_pos h5]; intro x hx; cases hx
  rw [if_neg h5]
  by_cases h1 : t = 1
  · rw [if_pos h1]
    intro x hx
    rw [List.eq_of_mem_replicate hx]
    exact be8_lt l hb
  · rw [if_neg h1]
    exact dic_lt l n hb
theorem encP_byte (xs : List Nat) : ∀ x ∈ encP xs, x < 256 := by
  intro x hx
  simp only [encP, List.mem_flatMap] at hx
  obtain ⟨y, _, hx⟩ := hx
  exact beB_byte _ _ x hx
theorem wayS_byte (xs : List Nat) (w : Int) : ∀ x ∈ (wayS xs w).1, x < 256 := by
  unfold wayS
  split
  · simp
  split
  · simp
  split
  · exact enc10_byte xs
  split
  · exact enc09_byte xs
  split
  · exact encP_byte xs
  split
  · simp
  · exact encP_byte _
theorem bestB_byte (xs : List Nat) (n : Nat) : ∀ x ∈ (bestB xs n).2, x < 256 := by
  induction n with
  | zero => rw [bestB_zero]; exact encP_byte xs
  | succ n ih =>
    rw [bestB_succ, stepB]
    split
    · exact wayS_byte xs _
    · exact ih
theorem encV_byte (xs : List Nat) : ∀ x ∈ (encV xs).1, x < 256 := by
  unfold encV
  split
  · simp
  · intro x hx
    rcases List.mem_cons.1 hx with rfl | hx
    · have := bestB_tag xs 3; omega
    · exact bestB_byte xs 3 x hx
theorem dec11_arg {l : List Nat} {n : Int} (h : n < 0 ∨ 65536 < n) : dec11 l n = ([], 1) := by rw [dec11, if_pos h]
theorem dec11_nil {n : Int} (h : ¬ (n < 0 ∨ 65536 < n)) : dec11 [] n = ([], 2) := by rw [dec11, if_neg h]; rfl
theorem dec11_cons (t : Nat) (r : List Nat) {n : Nat} (h : ¬ ((n : Int) < 0 ∨ 65536 < (n : Int))) : dec11 (t :: r) n = if 4 ≤ t then ([], 3) else if (rd11 r n t).2 ≠ 0 then ([], (rd11 r n t).2)
    else if (encV (rd11 r n t).1).1 = t :: r then ((rd11 r n t).1, 0) else ([], 3) := by
  rw [dec11, if_neg h, if_neg (by simp)]; rfl
theorem encV_len (xs : List Nat) : (encV xs).1.length ≤ 8 * xs.length + 1 := by
  unfold encV
  split
  · simp
  · have := bestB_le xs 3; simp only [List.length_cons]; omega
theorem encV_room (xs : List Nat) : (encV xs).1.length ≤ room := by
  unfold encV
  split
  · simp
  · rename_i h
    have := bestB_le xs 3; have : room = 140737488355328 := rfl; simp only [List.length_cons]; omega
end Go.Ck
