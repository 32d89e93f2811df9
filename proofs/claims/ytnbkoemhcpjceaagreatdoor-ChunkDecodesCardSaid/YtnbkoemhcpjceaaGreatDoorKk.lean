/- What is proved here: parts of the proofs of this seat's statements (a verified evaluator for calls over pure values, its laws, and contracts of functions). No condition. -/
import Derived.Test.YtnbkoemhcpjceaaGreatDoorKj
set_option linter.all false
set_option linter.unusedVariables false
namespace Go.Ck
/-- How many bits a number needs. -/
def blen (v : Nat) : Nat := if v = 0 then 0 else blen (v / 2) + 1
termination_by v
decreasing_by omega
theorem blen_zero : blen 0 = 0 := by rw [blen]; simp
theorem blen_pos {v : Nat} (h : v ≠ 0) : blen v = blen (v / 2) + 1 := by rw [blen, if_neg h]
theorem blen_le {v n : Nat} : blen v ≤ n ↔ v < 2 ^ n := by
  induction n generalizing v with
  | zero =>
    by_cases h : v = 0
    · subst h; simp [blen_zero]
    · rw [blen_pos h]; simp; omega
  | succ n ih =>
    by_cases h : v = 0
    · subst h; simp [blen_zero, Nat.two_pow_pos]
    · rw [blen_pos h, Nat.add_le_add_iff_right, ih, Nat.div_lt_iff_lt_mul (by omega), Nat.pow_succ]
theorem blen_lt {v : Nat} : v < 2 ^ blen v := blen_le.1 (Nat.le_refl _)
theorem blen_shift (k : Nat) : ∀ {v : Nat}, 2 ^ k ≤ v → blen v = k + blen (v / 2 ^ k) := by
  induction k with
  | zero => intro v _; simp
  | succ k ih =>
    intro v h
    have hp : 2 ^ (k + 1) = 2 ^ k * 2 := Nat.pow_succ ..
    have hpos := Nat.two_pow_pos k
    rw [blen_pos (by omega), ih (v := v / 2) (by omega), Nat.div_div_eq_div_mul, hp, Nat.mul_comm 2]
    omega
/-- Zeros below the first one. -/
def tzn (v : Nat) : Nat := if v = 0 ∨ v % 2 = 1 then 0 else tzn (v / 2) + 1
termination_by v
decreasing_by omega
theorem tzn_odd {v : Nat} (h : v % 2 = 1) : tzn v = 0 := by rw [tzn, if_pos (.inr h)]
theorem tzn_even {v : Nat} (h0 : v ≠ 0) (h : v % 2 = 0) : tzn v = tzn (v / 2) + 1 := by rw [tzn, if_neg (by omega)]
theorem tzn_lt {n : Nat} : ∀ {v : Nat}, v ≠ 0 → v < 2 ^ n → tzn v < n := by
  induction n with
  | zero => intro v h0 h; simp at h; omega
  | succ n ih =>
    intro v h0 h
    by_cases ho : v % 2 = 1
    · rw [tzn_odd ho]; omega
    · rw [tzn_even h0 (by omega)]
      have := ih (v := v / 2) (by omega) (by rw [Nat.pow_succ] at h; omega)
      omega
theorem land_two (a b c d : Nat) (hb : b < 2) (hd : d < 2) : (2 * a + b) &&& (2 * c + d) = 2 * (a &&& c) + (b &&& d) := by
  have h1 : ((2 * a + b) &&& (2 * c + d)) / 2 = a &&& c := by
    rw [Nat.and_div_two, show (2 * a + b) / 2 = a by omega, show (2 * c + d) / 2 = c by omega]
  have h2 : ((2 * a + b) &&& (2 * c + d)) % 2 = b &&& d := by
    have : ((2 * a + b) &&& (2 * c + d)) % 2 ^ 1 = ((2 * a + b) % 2 ^ 1) &&& ((2 * c + d) % 2 ^ 1) := by rw [Nat.and_mod_two_pow]
    simp only [Nat.pow_one] at this
    rw [this, show (2 * a + b) % 2 = b by omega, show (2 * c + d) % 2 = d by omega]
  omega
theorem land_compl {m a : Nat} (h : a < 2 ^ m) : a &&& (2 ^ m - (a + 1)) = 0 := by
  apply Nat.eq_of_testBit_eq
  intro i
  rw [Nat.testBit_and, Nat.testBit_two_pow_sub_succ h]
  simp
  intro h1 h2
  exact h1
theorem land_neg {n : Nat} : ∀ {v : Nat}, v ≠ 0 → v < 2 ^ n → v &&& (2 ^ n - v) = 2 ^ tzn v := by
  induction n with
  | zero => intro v h0 h; simp at h; omega
  | succ n ih =>
    intro v h0 h
    have hp : 2 ^ (n + 1) = 2 ^ n * 2 := Nat.pow_succ ..
    by_cases ho : v % 2 = 1
    · rw [tzn_odd ho]
      have e1 : v = 2 * (v / 2) + 1 := by omega
      have e2 : 2 ^ (n + 1) - v = 2 * (2 ^ n - (v / 2 + 1)) + 1 := by omega
      rw [e2]
      conv => lhs; lhs; rw [e1]
      rw [land_two _ _ _ _ (by omega) (by omega), land_compl (by omega)]
      rfl
    · rw [tzn_even h0 (by omega)]
      have e1 : v = 2 * (v / 2) + 0 := by omega
      have e2 : 2 ^ (n + 1) - v = 2 * (2 ^ n - v / 2) + 0 := by omega
      rw [e2]
      conv => lhs; lhs; rw [e1]
      rw [land_two _ _ _ _ (by omega) (by omega), ih (by omega) (by omega), Nat.pow_succ]
      simp [Nat.mul_comm]

/-- A number in n bits, the first the greatest. -/
def binB (v : Nat) : Nat → List Nat
  | 0 => []
  | n + 1 => (v / 2 ^ n % 2) :: binB v n
theorem binB_len (v n : Nat) : (binB v n).length = n := by induction n with | zero => rfl | succ n ih => simp [binB, ih]
def binN (l : List Nat) : Nat := l.foldl (fun a x => a * 2 + x) 0
theorem binN_snoc (l : List Nat) (x : Nat) : binN (l ++ [x]) = binN l * 2 + x := by simp [binN]
theorem binN_lt (l : List Nat) (h : ∀ x ∈ l, x < 2) : binN l < 2 ^ l.length := by
  have : ∀ (n : Nat) (l : List Nat), l.length = n → (∀ x ∈ l, x < 2) → binN l < 2 ^ n := by
    intro n
    induction n with
    | zero => intro l hl _; rw [List.length_eq_zero_iff.1 hl]; simp [binN]
    | succ n ih =>
      intro l hl h
      have hne : l ≠ [] := by rintro rfl; simp at hl
      rw [← List.dropLast_concat_getLast hne, binN_snoc]
      have h1 := ih l.dropLast (by simp; omega) (fun x hx => h x (List.dropLast_subset l hx))
      have h2 := h _ (List.getLast_mem hne)
      rw [Nat.pow_succ]
      omega
  exact this _ l rfl h
theorem binB_bit (v n : Nat) : ∀ x ∈ binB v n, x < 2 := by
  induction n with
  | zero => simp [binB]
  | succ n ih => intro x hx; rcases List.mem_cons.1 hx with rfl | hx
                 · omega
                 · exact ih x hx
/-- One more bit among bytes that hold i of them; the bits of the last byte stand to the left. -/
def pkStep (a : List Nat × Nat) (b : Nat) : List Nat × Nat := (if a.2 % 8 = 0 then a.1 ++ [b * 128] else a.1.set (a.2 / 8) (a.1.getD (a.2 / 8) 0 + b * 2 ^ (7 - a.2 % 8)), a.2 + 1)
def pk (l : List Nat) : List Nat := (l.foldl pkStep ([], 0)).1
theorem pk_snd (l : List Nat) (a : List Nat × Nat) : (l.foldl pkStep a).2 = a.2 + l.length := by
  induction l generalizing a with
  | nil => simp
  | cons x r ih => rw [List.foldl_cons, ih]; simp [pkStep]; omega
theorem pk_snoc (l : List Nat) (b : Nat) : pk (l ++ [b]) = if l.length % 8 = 0 then pk l ++ [b * 128] else (pk l).set (l.length / 8) ((pk l).getD (l.length / 8) 0 + b * 2 ^ (7 - l.length % 8)) := by
  have h := pk_snd l ([], 0)
  simp only [Nat.zero_add] at h
  unfold pk
  rw [List.foldl_append, List.foldl_cons, List.foldl_nil, pkStep, h]
theorem pk_len (l : List Nat) : (pk l).length = (l.length + 7) / 8 := by
  have : ∀ n (l : List Nat), l.length = n → (pk l).length = (n + 7) / 8 := by
    intro n
    induction n with
    | zero => intro l h; rw [List.length_eq_zero_iff.1 h]; rfl
    | succ n ih =>
      intro l hl
      have hne : l ≠ [] := by rintro rfl; simp at hl
      have hd : l.dropLast.length = n := by simp; omega
      rw [← List.dropLast_concat_getLast hne, pk_snoc, hd]
      have := ih l.dropLast hd
      split
      · rw [List.length_append, this]; simp; omega
      · rw [List.length_set, this]; omega
  exact this _ l rfl
/-- Ditto; the bits of the last byte stand to the right. -/
def prStep (a : List Nat × Nat) (b : Nat) : List Nat × Nat := (if a.2 % 8 = 0 then a.1 ++ [b] else a.1.set (a.2 / 8) (a.1.getD (a.2 / 8) 0 * 2 + b), a.2 + 1)
def pr (l : List Nat) : List Nat := (l.foldl prStep ([], 0)).1
theorem pr_snd (l : List Nat) (a : List Nat × Nat) : (l.foldl prStep a).2 = a.2 + l.length := by
  induction l generalizing a with
  | nil => simp
  | cons x r ih => rw [List.foldl_cons, ih]; simp [prStep]; omega
theorem pr_snoc (l : List Nat) (b : Nat) : pr (l ++ [b]) = if l.length % 8 = 0 then pr l ++ [b] else (pr l).set (l.length / 8) ((pr l).getD (l.length / 8) 0 * 2 + b) := by
  have h := pr_snd l ([], 0)
  simp only [Nat.zero_add] at h
  unfold pr
  rw [List.foldl_append, List.foldl_cons, List.foldl_nil, prStep, h]
theorem snoc_ind {p : List Nat → Prop} (h0 : p []) (h1 : ∀ l b, p l → p (l ++ [b])) (l : List Nat) : p l := by
  have : ∀ n (l : List Nat), l.length = n → p l := by
    intro n
    induction n with
    | zero => intro l h; rw [List.length_eq_zero_iff.1 h]; exact h0
    | succ n ih =>
      intro l hl
      have hne : l ≠ [] := by rintro rfl; simp at hl
      rw [← List.dropLast_concat_getLast hne]
      exact h1 _ _ (ih l.dropLast (by simp; omega))
  exact this _ l rfl
theorem pr_len (l : List Nat) : (pr l).length = (l.length + 7) / 8 := by
  induction l using snoc_ind with
  | h0 => rfl
  | h1 l b ih => rw [pr_snoc]; split
                 · rw [List.length_append, ih]; simp; omega
                 · rw [List.length_set, ih]; simp; omega
/-- The two of them. -/
theorem pr_pk (l : List Nat) : ∀ j, (pk l).getD j 0 = if j = l.length / 8 then (pr l).getD j 0 * 2 ^ ((8 - l.length % 8) % 8) else (pr l).getD j 0 := by
  induction l using snoc_ind with
  | h0 => intro j; simp [pk, pr]
  | h1 l b ih =>
    intro j
    have hk := pk_len l
    have hr := pr_len l
    rw [pk_snoc, pr_snoc, List.length_append, List.length_singleton]
    by_cases h8 : l.length % 8 = 0
    · rw [if_pos h8, if_pos h8]
      simp only [List.getD_eq_getElem?_getD, List.getElem?_append]
      have e : (l.length + 1) / 8 = l.length / 8 := by omega
      have e2 : (8 - (l.length + 1) % 8) % 8 = 7 := by omega
      rw [e, e2]
      have hih := ih j
      simp only [List.getD_eq_getElem?_getD] at hih
      by_cases hj : j < (pk l).length
      · rw [if_pos hj, if_neg (show ¬ j = l.length / 8 by omega), if_pos (show j < (pr l).length by omega), hih, if_neg (show ¬ j = l.length / 8 by omega)]
      · rw [if_neg hj, if_neg (show ¬ j < (pr l).length by omega)]
        by_cases hj2 : j = l.length / 8
        · rw [if_pos hj2]
          have : j - (pk l).length = 0 := by omega
          have h2 : j - (pr l).length = 0 := by omega
          rw [this, h2]
          simp
        · rw [if_neg hj2]
          have : j - (pk l).length = j - (pk l).length - 1 + 1 := by omega
          have h2 : j - (pr l).length = j - (pr l).length - 1 + 1 := by omega
          rw [this, h2]
          simp
    · rw [if_neg h8, if_neg h8]
      simp only [List.getD_eq_getElem?_getD, List.getElem?_set]
      have hlt : l.length / 8 < (pk l).length := by omega
      have hlt2 : l.length / 8 < (pr l).length := by omega
      have hih := ih j
      have hih2 := ih (l.length / 8)
      simp only [List.getD_eq_getElem?_getD, if_true] at hih hih2
      by_cases hj : l.length / 8 = j
      · subst hj
        simp only [if_true, hlt, hlt2, Option.getD_some]
        rw [hih2]
        generalize ((pr l)[l.length / 8]?).getD 0 = y
        have hc : l.length % 8 = 1 ∨ l.length % 8 = 2 ∨ l.length % 8 = 3 ∨ l.length % 8 = 4 ∨ l.length % 8 = 5 ∨ l.length % 8 = 6 ∨ l.length % 8 = 7 := by omega
        rcases hc with h | h | h | h | h | h | h
        all_goals
          first
            | (rw [if_pos (by omega), h, show (l.length + 1) % 8 = l.length % 8 + 1 by omega, h]; simp only [Nat.reduceSub, Nat.reduceMod, Nat.reducePow, Nat.reduceAdd]; omega)
            | (rw [if_neg (by omega), h]; simp only [Nat.reduceSub, Nat.reduceMod, Nat.reducePow]; omega)
      · rw [if_neg hj, if_neg hj, hih]
        rw [if_neg (fun h => hj h.symm)]
        by_cases hj2 : j = (l.length + 1) / 8
        · rw [if_pos hj2]
          have h9 : (l.length + 1) % 8 = 0 := by omega
          rw [h9]; simp
        · rw [if_neg hj2]
end Go.Ck
namespace Go.Ck
def bl8 (n : Nat) : Nat := if n < 1 then 0 else if n < 2 then 1 else if n < 4 then 2 else if n < 8 then 3 else if n < 16 then 4 else if n < 32 then 5 else if n < 64 then 6 else if n < 128 then 7 else 8
theorem blen_bl8 {n : Nat} (h : n < 256) : blen n = bl8 n := by
  have h0 := blen_le (v := n) (n := 0)
  have h1 := blen_le (v := n) (n := 1)
  have h2 := blen_le (v := n) (n := 2)
  have h3 := blen_le (v := n) (n := 3)
  have h4 := blen_le (v := n) (n := 4)
  have h5 := blen_le (v := n) (n := 5)
  have h6 := blen_le (v := n) (n := 6)
  have h7 := blen_le (v := n) (n := 7)
  have h8 := blen_le (v := n) (n := 8)
  simp only [Nat.reducePow] at h0 h1 h2 h3 h4 h5 h6 h7 h8
  unfold bl8
  repeat' split
  all_goals omega
theorem bl8_le (n : Nat) : bl8 n ≤ 8 := by
  unfold bl8
  repeat' split
  all_goals omega
end Go.Ck
namespace Go.Ck
theorem pr_lt (l : List Nat) (h : ∀ x ∈ l, x < 2) : (∀ j, (pr l).getD j 0 < 256) ∧ (pr l).getD (l.length / 8) 0 < 2 ^ (l.length % 8) := by
  induction l using snoc_ind with
  | h0 => simp [pr]
  | h1 l b ih =>
    obtain ⟨i1, i2⟩ := ih (fun x hx => h x (by simp [hx]))
    have hb : b < 2 := h b (by simp)
    have hr := pr_len l
    have hk : l.length % 8 < 8 := Nat.mod_lt _ (by omega)
    rw [pr_snoc, List.length_append, List.length_singleton]
    by_cases h8 : l.length % 8 = 0
    · rw [if_pos h8]
      have hj : ∀ j, (pr l ++ [b]).getD j 0 < 256 ∧ (j = l.length / 8 → (pr l ++ [b]).getD j 0 < 2) := by
        intro j
        have := i1 j
        simp only [List.getD_eq_getElem?_getD, List.getElem?_append] at this ⊢
        split
        · exact ⟨this, fun he => by omega⟩
        · rcases Nat.eq_zero_or_pos (j - (pr l).length) with h0 | h0
          · rw [h0]; simp; omega
          · rw [show j - (pr l).length = j - (pr l).length - 1 + 1 by omega]; simp
      refine ⟨fun j => (hj j).1, ?_⟩
      rw [show (l.length + 1) % 8 = 1 by omega, show (l.length + 1) / 8 = l.length / 8 by omega]
      exact (hj _).2 rfl
    · rw [if_neg h8]
      have hlt : l.length / 8 < (pr l).length := by omega
      have hp : 2 ^ (l.length % 8 + 1) = 2 ^ (l.length % 8) * 2 := Nat.pow_succ ..
      have hp8 : 2 ^ (l.length % 8 + 1) ≤ 2 ^ 8 := Nat.pow_le_pow_right (by omega) (by omega)
      have hj : ∀ j, ((pr l).set (l.length / 8) ((pr l).getD (l.length / 8) 0 * 2 + b)).getD j 0 = if j = l.length / 8 then (pr l).getD (l.length / 8) 0 * 2 + b else (pr l).getD j 0 := by
        intro j
        simp only [List.getD_eq_getElem?_getD, List.getElem?_set]
        by_cases hj : l.length / 8 = j
        · rw [if_pos hj, if_pos hj.symm, if_pos hlt]; rfl
        · rw [if_neg hj, if_neg (fun h => hj h.symm)]
      refine ⟨fun j => ?_, ?_⟩
      · rw [hj]
        split
        · omega
        · exact i1 j
      · rw [hj]
        by_cases h7 : l.length % 8 = 7
        · rw [show (l.length + 1) % 8 = 0 by omega, if_neg (by omega)]
          have : (pr l).length ≤ (l.length + 1) / 8 := by omega
          rw [List.getD_eq_getElem?_getD, List.getElem?_eq_none this]; simp
        · rw [show (l.length + 1) % 8 = l.length % 8 + 1 by omega, if_pos (by omega)]
          omega
/-- A byte more, where one begins. -/
def pkA (l : List Nat) : List Nat := if l.length % 8 = 0 then pk l ++ [0] else pk l
theorem pkA_spec (l : List Nat) (b : Nat) (h : ∀ x ∈ l, x < 2) (hb : b < 2) : l.length / 8 < (pkA l).length ∧ (pkA l).length ≤ l.length / 8 + 1 ∧ (pkA l).getD (l.length / 8) 0 < 256 ∧
    pk (l ++ [b]) = (pkA l).set (l.length / 8) ((pkA l).getD (l.length / 8) 0 + b * 2 ^ (7 - l.length % 8)) ∧
    (pkA l).getD (l.length / 8) 0 ||| b * 2 ^ (7 - l.length % 8) = (pkA l).getD (l.length / 8) 0 + b * 2 ^ (7 - l.length % 8) := by
  have hk := pk_len l
  have h2 := (pr_lt l h).2
  have hp := pr_pk l (l.length / 8)
  rw [if_pos rfl] at hp
  unfold pkA
  rw [pk_snoc]
  by_cases h8 : l.length % 8 = 0
  · simp only [if_pos h8]
    have e : l.length / 8 = (pk l).length := by omega
    rw [e, h8]
    refine ⟨by simp, by simp, by simp, by simp, by simp⟩
  · simp only [if_neg h8]
    rw [show (8 - l.length % 8) % 8 = 8 - l.length % 8 by omega] at hp
    refine ⟨by omega, by omega, ?_, trivial, ?_⟩
    · rw [hp]
      have hq : 2 ^ (l.length % 8) * 2 ^ (8 - l.length % 8) = 2 ^ 8 := by rw [← Nat.pow_add]; congr 1; omega
      have := Nat.mul_lt_mul_of_pos_right h2 (Nat.two_pow_pos (8 - l.length % 8))
      omega
    · rw [hp]
      have hlt : b * 2 ^ (7 - l.length % 8) < 2 ^ (8 - l.length % 8) := by
        have : 2 ^ (8 - l.length % 8) = 2 ^ (7 - l.length % 8) * 2 := by rw [← Nat.pow_succ]; congr 1; omega
        have := Nat.two_pow_pos (7 - l.length % 8)
        have : b * 2 ^ (7 - l.length % 8) ≤ 1 * 2 ^ (7 - l.length % 8) := Nat.mul_le_mul_right _ (by omega)
        omega
      have := Nat.two_pow_add_eq_or_of_lt hlt ((pr l).getD (l.length / 8) 0)
      rw [Nat.mul_comm, ← this]
theorem and_one {x : Nat} (h : x < 2 ^ 64) : ibits .and .u64 (x : Int) 1 = ((x % 2 : Nat) : Int) := by
  have := ibits_and64 h (b := 1) (by omega)
  rw [Nat.and_one_is_mod] at this
  exact this
theorem binB_succ (v n : Nat) : binB v (n + 1) = (v / 2 ^ n % 2) :: binB v n := rfl
end Go.Ck
namespace Go.Ck
theorem binB_get (v : Nat) : ∀ (n i : Nat), i < n → (binB v n)[i]? = some (v / 2 ^ (n - 1 - i) % 2)
  | 0, i, h => by omega
  | n + 1, 0, h => by simp [binB]
  | n + 1, i + 1, h => by
    rw [binB, List.getElem?_cons_succ, binB_get v n i (by omega)]
    congr 4; omega
/-- The bits of bytes. -/
def unb (l : List Nat) : List Nat := l.flatMap fun x => binB x 8
theorem unb_nil : unb [] = [] := rfl
theorem unb_cons (x : Nat) (l : List Nat) : unb (x :: l) = binB x 8 ++ unb l := by simp [unb]
theorem unb_append (l r : List Nat) : unb (l ++ r) = unb l ++ unb r := by simp [unb]
theorem unb_len (l : List Nat) : (unb l).length = 8 * l.length := by
  induction l with
  | nil => rfl
  | cons x r ih => rw [unb_cons, List.length_append, ih, binB_len]; simp; omega
theorem unb_get : ∀ (l : List Nat) (k : Nat) (h : k / 8 < l.length), (unb l)[k]? = some (l[k / 8] / 2 ^ (7 - k % 8) % 2)
  | [], k, h => by simp at h
  | x :: r, k, h => by
    rw [unb_cons]
    by_cases hk : k < 8
    · rw [List.getElem?_append_left (by rw [binB_len]; exact hk), binB_get x 8 k hk]
      have : k / 8 = 0 := by omega
      simp only [this, List.getElem_cons_zero]
      rw [show 8 - 1 - k = 7 - k % 8 by omega]
    · rw [List.getElem?_append_right (by rw [binB_len]; omega), binB_len]
      have h2 : (k - 8) / 8 < r.length := by simp at h; omega
      rw [unb_get r (k - 8) h2]
      have : k / 8 = (k - 8) / 8 + 1 := by omega
      simp only [this, List.getElem_cons_succ]
      rw [show (k - 8) % 8 = k % 8 by omega]
theorem unb_bit (l : List Nat) : ∀ x ∈ unb l, x < 2 := by
  intro x hx
  simp only [unb, List.mem_flatMap] at hx
  obtain ⟨y, _, hx⟩ := hx
  exact binB_bit y 8 x hx
/-- So many bits from a place on, as a number. -/
def getB (l : List Nat) (k n : Nat) : Nat := binN ((l.drop k).take n)
end Go.Ck
namespace Go.Ck
theorem getD_get {l : List Nat} {i : Nat} (h : i < l.length) : l[i] = l.getD i 0 := by rw [List.getD_eq_getElem?_getD, List.getElem?_eq_getElem h]; rfl
theorem ext_getD {l r : List Nat} (hl : l.length = r.length) (h : ∀ j, l.getD j 0 = r.getD j 0) : l = r := by
  apply List.ext_getElem hl
  intro i h1 h2
  rw [getD_get h1, getD_get h2, h]
theorem getD_set (l : List Nat) (i j v : Nat) : (l.set i v).getD j 0 = if i = j ∧ i < l.length then v else l.getD j 0 := by
  simp only [List.getD_eq_getElem?_getD, List.getElem?_set]
  by_cases h : i = j
  · subst h
    by_cases h2 : i < l.length
    · simp [h2]
    · simp [h2]
  · simp [h]
def prA (l : List Nat) : List Nat := if l.length % 8 = 0 then pr l ++ [0] else pr l
theorem prA_spec (l : List Nat) (b : Nat) (h : ∀ x ∈ l, x < 2) (hb : b < 2) : l.length / 8 < (prA l).length ∧ (prA l).length ≤ l.length / 8 + 1 ∧ (prA l).getD (l.length / 8) 0 * 2 + b < 256 ∧
    pr (l ++ [b]) = (prA l).set (l.length / 8) ((prA l).getD (l.length / 8) 0 * 2 + b) := by
  have hk := pr_len l
  have h2 := (pr_lt l h).2
  unfold prA
  rw [pr_snoc]
  by_cases h8 : l.length % 8 = 0
  · simp only [if_pos h8]
    have e : l.length / 8 = (pr l).length := by omega
    rw [e]
    refine ⟨by simp, by simp, by simp; omega, by simp⟩
  · simp only [if_neg h8]
    have hp8 : 2 ^ (l.length % 8) ≤ 2 ^ 7 := Nat.pow_le_pow_right (by omega) (by omega)
    refine ⟨by omega, by omega, by omega, trivial⟩
theorem pk_of_pr (l : List Nat) : pk l = (pr l).set (l.length / 8) ((pr l).getD (l.length / 8) 0 * 2 ^ ((8 - l.length % 8) % 8)) := by
  have hk := pr_len l
  have hk2 := pk_len l
  refine ext_getD (by rw [List.length_set]; omega) (fun j => ?_)
  rw [pr_pk, getD_set]
  by_cases hj : j = l.length / 8
  · subst hj
    rw [if_pos rfl]
    by_cases h8 : l.length / 8 < (pr l).length
    · rw [if_pos ⟨rfl, h8⟩]
    · rw [if_neg (fun h => h8 h.2), List.getD_eq_getElem?_getD, List.getElem?_eq_none (by omega)]; simp
  · rw [if_neg hj, if_neg (fun h => hj h.1.symm)]
end Go.Ck
namespace Go.Ck
theorem setSame (l : List Nat) (i : Nat) : l.set i (l.getD i 0) = l := by
  refine ext_getD (by simp) (fun j => ?_)
  rw [getD_set]
  split
  · rename_i h; rw [h.1]
  · rfl
end Go.Ck

set_option linter.unusedVariables false
set_option maxRecDepth 10000
namespace Go.Ck
open Go.Proofs
theorem wrong_fn (n : Nat) (hn : n ≤ 64) : Fn Tryz.prog 136 [] [.pv (.int .i64 n)] (fun rs H' => rs = [.pv (.bool false)] ∧ H' = []) := by
  refine Fn.of_body (fn := Tryz.f136) (n := 9) (res := [.tmp 2]) (by kernel_rfl) rfl rfl rfl rfl rfl (fun C => ?_)
  refine AW.gg ?_
  refine AW.finE (.pv _ .nil) ?_
  congr 3
  simp; omega

/-- What Len64's string tells. -/
theorem len64_fn (v : Nat) (hv : v < 2 ^ 64) : Fn Tryz.prog 142 [] [.pv (.int .u64 v)] (fun rs H' => rs = [.pv (.int .i64 (blen v : Nat))] ∧ H' = []) := by
  refine Fn.of_body (fn := Tryz.f142) (n := 25) (res := [.tmp 2]) (by kernel_rfl) rfl rfl rfl rfl rfl (fun C => ?_)
  have s32 : ∀ v : Nat, shrI .u64 (v : Int) 32 = ((v / 2 ^ 32 : Nat) : Int) := fun v => shrI_nat .u64 v 32 (by decide)
  have s16 : ∀ v : Nat, shrI .u64 (v : Int) 16 = ((v / 2 ^ 16 : Nat) : Int) := fun v => shrI_nat .u64 v 16 (by decide)
  have s8 : ∀ v : Nat, shrI .u64 (v : Int) 8 = ((v / 2 ^ 8 : Nat) : Int) := fun v => shrI_nat .u64 v 8 (by decide)
  refine AW.go ?_
  refine AW.joinS (fun a : Nat × Nat => ⟨25, [(0, .pv (.int .u64 a.1)), (2, .pv (.int .i64 a.2))], []⟩) (fun a => a.1 < 2 ^ 32 ∧ blen v = a.2 + blen a.1 ∧ a.2 ≤ 32) [0, 2] [] ?_ ?_
  · intro K hK
    refine AW.cond rfl (fun hc => ?_) (fun hc => ?_)
    · refine AW.go ?_
      refine AW.meet hK (v / 2 ^ 32, 32) ⟨by simp only; omega, ?_, by simp⟩ (by simp only [go_sem, ↓reduceIte]) (by simp only [go_sem, ↓reduceIte, s32] <;> rfl)
      exact blen_shift 32 (by simp at hc; omega)
    · refine AW.go ?_
      refine AW.meet hK (v, 0) ⟨by simp at hc; simp only; omega, by simp, by simp⟩
  rintro ⟨u, m⟩ ⟨hu, hm, hm2⟩
  simp only at hu hm hm2
  refine AW.go ?_
  refine AW.joinS (fun a : Nat × Nat => ⟨25, [(0, .pv (.int .u64 a.1)), (2, .pv (.int .i64 a.2))], []⟩) (fun a => a.1 < 2 ^ 16 ∧ blen v = a.2 + blen a.1 ∧ a.2 ≤ 48) [0, 2] [] ?_ ?_
  · intro K hK
    refine AW.cond rfl (fun hc => ?_) (fun hc => ?_)
    · have e : IntKind.i64.wrap ((m : Int) + 16) = ((m + 16 : Nat) : Int) := by rw [wrap_i64_of (by omega) (by omega)]; omega
      refine AW.go ?_
      refine AW.meet hK (u / 2 ^ 16, m + 16) ⟨by simp only; omega, ?_, by simp only; omega⟩ (by simp only [go_sem, ↓reduceIte]) (by simp only [go_sem, ↓reduceIte, s16, e] <;> rfl)
      have := blen_shift 16 (v := u) (by simp at hc; omega)
      simp only; omega
    · refine AW.go ?_
      refine AW.meet hK (u, m) ⟨by simp at hc; simp only; omega, hm, by simp only; omega⟩
  clear hu hm hm2
  rintro ⟨u, m⟩ ⟨hu, hm, hm2⟩
  simp only at hu hm hm2
  refine AW.go ?_
  refine AW.joinS (fun a : Nat × Nat => ⟨25, [(0, .pv (.int .u64 a.1)), (2, .pv (.int .i64 a.2))], []⟩) (fun a => a.1 < 2 ^ 8 ∧ blen v = a.2 + blen a.1 ∧ a.2 ≤ 56) [0, 2] [] ?_ ?_
  · intro K hK
    refine AW.cond rfl (fun hc => ?_) (fun hc => ?_)
    · have e : IntKind.i64.wrap ((m : Int) + 8) = ((m + 8 : Nat) : Int) := by rw [wrap_i64_of (by omega) (by omega)]; omega
      refine AW.go ?_
      refine AW.meet hK (u / 2 ^ 8, m + 8) ⟨by simp only; omega, ?_, by simp only; omega⟩ (by simp only [go_sem, ↓reduceIte]) (by simp only [go_sem, ↓reduceIte, s8, e] <;> rfl)
      have := blen_shift 8 (v := u) (by simp at hc; omega)
      simp only; omega
    · refine AW.go ?_
      refine AW.meet hK (u, m) ⟨by simp at hc; simp only; omega, hm, by simp only; omega⟩
  clear hu hm hm2
  rintro ⟨u, m⟩ ⟨hu, hm, hm2⟩
  simp only at hu hm hm2
  have e8 : IntKind.u8.wrap (u : Int) = (u : Int) := wrap_u8_lt hu
  refine AW.go ?_ (by simp only [go_sem, ↓reduceIte, e8] <;> rfl)
  refine AW.indexStr (UInt8.ofNat (bl8 u)) (ho := rfl) rfl rfl ?_ ?_
  · clear e8 hm
    revert u
    decide +kernel
  · have h8 := bl8_le u
    have ec : ((UInt8.ofNat (bl8 u)).toNat : Int) = (blen u : Nat) := by
      rw [UInt8.toNat_ofNat', Nat.mod_eq_of_lt (by omega), blen_bl8 hu]
    have hb8 := blen_le.2 hu
    have e1 : IntKind.i64.wrap ((blen u : Nat) : Int) = (blen u : Nat) := wrap_i64_nat (by omega)
    have e2 : IntKind.i64.wrap ((m : Int) + (blen u : Nat)) = ((blen v : Nat) : Int) := by rw [hm]; exact wrap_i64_nat (n := m + blen u) (by omega)
    refine AW.go ?_ (by simp only [go_sem, ↓reduceIte, ec, e1, e2] <;> rfl)
    refine AW.finE (.pv _ .nil) rfl
end Go.Ck

set_option linter.unusedVariables false
set_option maxRecDepth 10000
namespace Go.Ck
open Go.Proofs
theorem gt0 : (0, debruijn) ∈ gtabs Tryz.prog := by
  have : gtabs Tryz.prog = [(0, debruijn)] := by kernel_rfl
  rw [this]; exact List.mem_singleton_self _
theorem debr : ∀ t : Nat, t < 64 → debruijn[2 ^ t * 285870213051353865 % 2 ^ 64 / 2 ^ 58]? = some t := by decide +kernel
theorem width_fn (v : Nat) (hv : v < 2 ^ 64) : Fn Tryz.prog 135 [] [.pv (.int .u64 v)] (fun rs H' => rs = [.pv (.int .i64 (blen v : Nat))] ∧ H' = []) := by
  refine Fn.of_body (fn := Tryz.f135) (n := 5) (res := [.tmp 2]) (by kernel_rfl) rfl rfl rfl rfl rfl (fun C => ?_)
  refine AW.go ?_
  refine AW.callE (fun _ => 0) (len64_fn v hv) (.pv _ .nil) ?_
  refine AW.go ?_
  refine AW.finE (.pv _ .nil) rfl

theorem lz_fn (v : Nat) (hv : v < 2 ^ 64) : Fn Tryz.prog 140 [] [.pv (.int .u64 v)] (fun rs H' => rs = [.pv (.int .i64 ((64 - blen v : Nat) : Int))] ∧ H' = []) := by
  refine Fn.of_body (fn := Tryz.f140) (n := 6) (res := [.tmp 2]) (by kernel_rfl) rfl rfl rfl rfl rfl (fun C => ?_)
  have h64 := blen_le.2 hv
  have e : IntKind.i64.wrap (64 - (blen v : Nat)) = ((64 - blen v : Nat) : Int) := by rw [wrap_i64_of (by omega) (by omega)]; omega
  refine AW.go ?_
  refine AW.callE (fun _ => 0) (len64_fn v hv) (.pv _ .nil) ?_
  refine AW.go ?_ (by simp only [go_sem, ↓reduceIte, e] <;> rfl)
  refine AW.finE (.pv _ .nil) rfl

theorem tz_spec {v : Nat} (h0 : v ≠ 0) (hv : v < 2 ^ 64) : ∃ p j : Nat, ibits .and .u64 (v : Int) (IntKind.u64.wrap (0 - (v : Int))) = (p : Int) ∧ shrI .u64 (IntKind.u64.wrap ((p : Int) * 285870213051353865)) 58 = (j : Int) ∧ j < 64 ∧ debruijn[j]? = some (tzn v) := by
  refine ⟨2 ^ tzn v, 2 ^ tzn v * 285870213051353865 % 2 ^ 64 / 2 ^ 58, ?_, ?_, by omega, debr _ (tzn_lt h0 hv)⟩
  · have : IntKind.u64.wrap (0 - (v : Int)) = ((2 ^ 64 - v : Nat) : Int) := by rw [IntKind.wrap_u64]; omega
    rw [this, ibits_and64 hv (by omega), land_neg h0 hv]
  · generalize 2 ^ tzn v = p
    have h1 : (p : Int) * 285870213051353865 = ((p * 285870213051353865 : Nat) : Int) := by omega
    rw [h1, wrap_u64]
    exact shrI_nat .u64 _ 58 (by decide)
theorem tz_fn (v : Nat) (hv : v < 2 ^ 64) : Fn Tryz.prog 141 [] [.pv (.int .u64 v)] (fun rs H' => rs = [.pv (.int .i64 ((if v = 0 then 64 else tzn v : Nat) : Int))] ∧ H' = []) := by
  refine Fn.of_body (fn := Tryz.f141) (n := 14) (res := [.tmp 2]) (by kernel_rfl) rfl rfl rfl rfl rfl (fun C => ?_)
  refine AW.go ?_
  refine AW.cond rfl (fun hc => ?_) (fun hc => ?_)
  · have h0 : v = 0 := by simpa using hc
    rw [if_pos h0]
    refine AW.go ?_
    refine AW.finE (.pv _ .nil) rfl
  · have h0 : v ≠ 0 := by simpa using hc
    rw [if_neg h0]
    obtain ⟨p, j, e1, e2, hj, hd⟩ := tz_spec h0 hv
    have ht := tzn_lt h0 hv
    generalize tzn v = t at *
    refine AW.go ?_ (by simp only [go_sem, ↓reduceIte, e1, e2] <;> rfl)
    have hget : (debruijn.map fun (j : Nat) => PV.int .u8 (j : Int))[j]? = some (.int .u8 (t : Nat)) := by rw [List.getElem?_map, hd]; rfl
    refine AW.globIdx (ho := rfl) (l := debruijn) gt0 rfl hj tk_147 ?_
    have e4 : IntKind.i64.wrap ((t : Nat) : Int) = (t : Nat) := wrap_i64_nat (by omega)
    refine AW.go ?_ (by simp only [go_sem, ↓reduceIte, hget, e4] <;> rfl)
    refine AW.finE (.pv _ .nil) rfl
end Go.Ck

set_option linter.unusedVariables false
set_option maxRecDepth 10000
namespace Go.Ck
open Go.Proofs
abbrev wrO (bs : List Nat) : List (Nat × HO) := [(1000, .cells 126 [.own 5 (bytes (pk bs)), .pv (.int .i64 bs.length)])]
attribute [go_sem] wrO
theorem wrBytes_fn (bs : List Nat) (hl : bs.length ≤ room) : Fn Tryz.prog 124 (wrO bs) [.ptr 1000 0] (fun rs H' => rs = [.own 5 (bytes (pk bs))] ∧ H' = wrO bs) := by
  refine Fn.of_body (fn := Tryz.f124) (n := 10) (res := [.tmp 2]) (by kernel_rfl) rfl rfl rfl rfl rfl (fun C => ?_)
  have hk := pk_len bs
  refine AW.go ?_
  refine AW.condF rfl ?_
  refine AW.go ?_
  refine AW.callE (fun _ => 0) (clone_bytes (pk bs) (by omega)) (.lend rfl co_5 .nil) ?_
  refine AW.go ?_
  refine AW.finE (.move rfl .nil) rfl

theorem wrPut_fn (bs : List Nat) (v n : Nat) (hb : ∀ x ∈ bs, x < 2) (hn : n ≤ 64) (hv : v < 2 ^ n) (hl : bs.length + n ≤ room) : Fn Tryz.prog 123 (wrO bs) [.ptr 1000 0, .pv (.int .u64 v), .pv (.int .i64 n)]
    (fun rs H' => rs = [.pv (.int .i64 0)] ∧ H' = wrO (bs ++ binB v n)) := by
  refine Fn.of_body (fn := Tryz.f123) (n := 77) (res := [.tmp 6]) (by kernel_rfl) rfl rfl rfl rfl rfl (fun C => ?_)
  have hr : room < 2 ^ 62 := by decide
  have hv64 : v < 2 ^ 64 := Nat.lt_of_lt_of_le hv (Nat.pow_le_pow_right (by omega) hn)
  have hbl := blen_le.2 hv
  refine AW.gg ?_
  refine AW.guardT rfl rfl ?_
  refine AW.callE (fun _ => 0) (wrong_fn n hn) (.pv _ .nil) ?_
  refine AW.gg ?_
  refine AW.guardT rfl rfl ?_
  refine AW.callE (fun _ => 0) (width_fn v hv64) (.pv _ .nil) ?_
  refine AW.gg ?_
  refine AW.condF (by simp only [go_sem, ↓reduceIte]; congr 3; simp; omega) ?_
  refine AW.go ?_
  refine AW.loopS (fun a : List Nat × Nat => ⟨77, [(22, .pv (.int .i64 a.2)), (21, .pv (.int .i64 n)), (0, .ptr 1000 0), (1, .pv (.int .u64 v)), (2, .pv (.int .i64 n))], wrO a.1⟩) (fun a => a.1 ++ binB v (n - a.2) = bs ++ binB v n ∧ a.2 ≤ n ∧ ∀ x ∈ a.1, x < 2) (fun a => n - a.2) [22, 21, 0, 1, 2] [1000] (bs, 0) ⟨rfl, Nat.zero_le _, hb⟩ ?_
  rintro ⟨o, i⟩ ⟨ho, hi, hob⟩ K hK
  simp only at ho hi hob
  have hol : o.length + (n - i) = bs.length + n := by have := congrArg List.length ho; simpa [binB_len] using this
  refine AW.go ?_
  refine AW.cond rfl (fun hc => ?_) (fun hc => ?_)
  · have hlt : i < n := by simpa using hc
    have hok := pk_len o
    have hsuc : n - i = (n - 1 - i) + 1 := by omega
    rw [hsuc, binB_succ] at ho
    obtain ⟨a1, a2, a3, a4, a5⟩ := pkA_spec o (v / 2 ^ (n - 1 - i) % 2) hob (by omega)
    have hbit : v / 2 ^ (n - 1 - i) % 2 < 2 := by omega
    generalize hbd : v / 2 ^ (n - 1 - i) % 2 = b at *
    have hm8 : Int.tmod ((o.length : Nat) : Int) 8 = ((o.length % 8 : Nat) : Int) := rfl
    refine AW.go ?_ (by simp only [go_sem, ↓reduceIte, hm8] <;> rfl)
    refine AW.joinS (fun _ : Unit => ⟨77, [(22, .pv (.int .i64 i)), (21, .pv (.int .i64 n)), (0, .ptr 1000 0), (1, .pv (.int .u64 v)), (2, .pv (.int .i64 n)), (7, .pv (.int .i64 i))], [(1000, .cells 126 [.own 5 (bytes (pkA o)), .pv (.int .i64 o.length)])]⟩) (fun _ => True) [22, 21, 0, 1, 2, 7] [1000] ?_ ?_
    · intro K hK
      refine AW.cond rfl (fun hc2 => ?_) (fun hc2 => ?_)
      · have h8 : o.length % 8 = 0 := by simp at hc2; omega
        have hle : (pk o).length + 1 ≤ room := by omega
        have b00 : [PV.int .u8 0] = bytes [0] := rfl
        refine AW.go ?_ (by simp only [go_sem, ↓reduceIte, hle] <;> rfl)
        refine AW.meet hK () trivial (by simp only [go_sem, ↓reduceIte]) (by simp only [go_sem, ↓reduceIte, pkA, h8, b00] <;> rfl)
      · have h8 : ¬ o.length % 8 = 0 := by simp at hc2; omega
        refine AW.go ?_
        refine AW.meet hK () trivial (by simp only [go_sem, ↓reduceIte]) (by simp only [go_sem, ↓reduceIte, pkA, h8] <;> rfl)
    rintro _ -
    have e1 : IntKind.i64.wrap (IntKind.i64.wrap ((n : Int) - 1) - (i : Int)) = ((n - 1 - i : Nat) : Int) := by
      rw [wrap_i64_of (n := (n : Int) - 1) (by omega) (by omega), wrap_i64_of (by omega) (by omega)]; omega
    have e2 : IntKind.u8.wrap (ibits .and .u64 (shrI .u64 (v : Int) ((n - 1 - i : Nat) : Int)) 1) = ((b : Nat) : Int) := by
      rw [shrI_nat .u64 v _ (by show n - 1 - i ≤ 64; omega), and_one (Nat.lt_of_le_of_lt (Nat.div_le_self _ _) hv64), hbd, wrap_u8_lt (by omega)]
    refine AW.go ?_ (by simp only [go_sem, ↓reduceIte, e1, e2] <;> rfl)
    have hget := bytes_get a1
    have hgD : (pkA o)[o.length / 8] = (pkA o).getD (o.length / 8) 0 := by rw [List.getD_eq_getElem?_getD, List.getElem?_eq_getElem a1]; rfl
    rw [hgD] at hget
    have d8 : IntKind.i64.wrap (Int.tdiv ((o.length : Nat) : Int) 8) = ((o.length / 8 : Nat) : Int) := by
      rw [show Int.tdiv ((o.length : Nat) : Int) 8 = ((o.length / 8 : Nat) : Int) from rfl]; exact wrap_i64_nat (by omega)
    have e7 : IntKind.i64.wrap (7 - ((o.length % 8 : Nat) : Int)) = ((7 - o.length % 8 : Nat) : Int) := by
      rw [wrap_i64_of (by omega) (by omega)]; omega
    have hp7 : 2 ^ (7 - o.length % 8) ≤ 2 ^ 7 := Nat.pow_le_pow_right (by omega) (by omega)
    have hbp : b * 2 ^ (7 - o.length % 8) ≤ 1 * 2 ^ (7 - o.length % 8) := Nat.mul_le_mul_right _ (by omega)
    have es : shlI .u8 ((b : Nat) : Int) ((7 - o.length % 8 : Nat) : Int) = ((b * 2 ^ (7 - o.length % 8) : Nat) : Int) := by
      rw [shlI_nat8 _ _ (by omega), Nat.mod_eq_of_lt (by omega)]
    have eo : ibits .or .u8 (((pkA o).getD (o.length / 8) 0 : Nat) : Int) ((b * 2 ^ (7 - o.length % 8) : Nat) : Int) = (((pkA o).getD (o.length / 8) 0 + b * 2 ^ (7 - o.length % 8) : Nat) : Int) := by
      rw [ibits_or8 (by omega) (by omega), a5]
    refine AW.srTail 20 mixed (by decide +kernel) ?_ (by simp only [go_sem, ↓reduceIte, hget, a1, hm8, d8, e7, es, eo] <;> rfl)
    have el : IntKind.i64.wrap (((o.length : Nat) : Int) + 1) = ((o.length + 1 : Nat) : Int) := wrap_i64_succ (by omega)
    have ei : IntKind.i64.wrap ((i : Int) + 1) = ((i + 1 : Nat) : Int) := wrap_i64_succ (by omega)
    refine AW.go ?_ (by simp only [go_sem, ↓reduceIte, hget, a1, d8, bytes_set, el, ei, ← a4] <;> rfl)
    refine AW.again hK (o ++ [b], i + 1) ⟨?_, hlt, ?_⟩ (by simp only; omega) (by simp only [go_sem, ↓reduceIte]) (by simp only [go_sem, ↓reduceIte, List.length_append, List.length_singleton] <;> rfl)
    · simp only
      rw [← ho, show n - (i + 1) = n - 1 - i by omega]; simp
    · intro x hx
      simp only [List.mem_append, List.mem_singleton] at hx
      rcases hx with hx | rfl
      · exact hob x hx
      · exact hbit
  · have hge : n - i = 0 := by simp at hc; omega
    rw [hge] at ho
    simp only [binB, List.append_nil] at ho
    refine AW.go ?_
    rw [ho]
    refine AW.finE (.pv _ .nil) rfl
end Go.Ck

set_option linter.unusedVariables false
set_option maxRecDepth 10000
namespace Go.Ck
open Go.Proofs
abbrev rdO (l : List Nat) (k : Nat) : List (Nat × HO) := [(1000, .cells 138 [.pv (.sl 1 (bytes l)), .pv (.int .i64 k)])]
attribute [go_sem] rdO
theorem rdNew_fn (l : List Nat) (hl : l.length ≤ room) : Fn Tryz.prog 112 [] [.pv (.sl 1 (bytes l))] (fun rs H' => rs = [.ptr 6 0] ∧ H' = [(6, .cells 138 [.pv (.sl 1 (bytes l)), .pv (.int .i64 0)])]) := by
  refine Fn.of_body (fn := Tryz.f112) (n := 7) (res := [.tmp 2]) (by kernel_rfl) rfl rfl rfl rfl rfl (fun C => ?_)
  refine AW.go ?_
  refine AW.callE (fun _ => 0) (clone_bytes l hl) (.pv _ .nil) ?_
  refine AW.go ?_
  refine AW.finE (.ptr rfl .nil) rfl

theorem rdLeft_fn (l : List Nat) (k : Nat) (hk : k ≤ 8 * l.length) (hl : 8 * l.length ≤ room) : Fn Tryz.prog 137 (rdO l k) [.ptr 1000 0] (fun rs H' => rs = [.pv (.int .i64 ((8 * l.length - k : Nat) : Int))] ∧ H' = rdO l k) := by
  refine Fn.of_body (fn := Tryz.f137) (n := 16) (res := [.tmp 2]) (by kernel_rfl) rfl rfl rfl rfl rfl (fun C => ?_)
  have hr : room < 2 ^ 62 := by decide
  refine AW.go ?_
  refine AW.condF rfl ?_
  refine AW.go ?_
  have e : IntKind.i64.wrap (IntKind.i64.wrap ((l.length : Int) * 8) - (k : Int)) = ((8 * l.length - k : Nat) : Int) := by
    rw [wrap_i64_of (n := (l.length : Int) * 8) (by omega) (by omega), wrap_i64_of (by omega) (by omega)]; omega
  refine AW.sr mixed (by decide +kernel) ?_ (by simp only [go_sem, ↓reduceIte, e] <;> rfl)
  refine AW.go ?_
  refine AW.finE (.pv _ .nil) rfl

theorem rdGet_fn (l : List Nat) (k n : Nat) (hn : n ≤ 64) (hk : k ≤ 8 * l.length) (hl : 8 * l.length ≤ room) (hb : ∀ x ∈ l, x < 256) : Fn Tryz.prog 113 (rdO l k) [.ptr 1000 0, .pv (.int .i64 n)]
    (fun rs H' => rs = [.pv (.int .u64 ((if k + n ≤ 8 * l.length then getB (unb l) k n else 0 : Nat) : Int)), .pv (.int .i64 (if k + n ≤ 8 * l.length then 0 else 2))] ∧ H' = rdO l (if k + n ≤ 8 * l.length then k + n else k)) := by
  refine Fn.of_body (fn := Tryz.f113) (n := 56) (res := [.tmp 4, .tmp 5]) (by kernel_rfl) rfl rfl rfl rfl rfl (fun C => ?_)
  have hr : room < 2 ^ 62 := by decide
  refine AW.gg ?_
  refine AW.guardT rfl rfl ?_
  refine AW.callE (fun _ => 0) (wrong_fn n hn) (.pv _ .nil) ?_
  refine AW.gg ?_
  refine AW.condF rfl ?_
  refine AW.go ?_
  refine AW.callE id (rdLeft_fn l k hk hl) (.ptr rfl .nil) ?_
  refine AW.go ?_
  refine AW.cond rfl (fun hc => ?_) (fun hc => ?_)
  · have hle : ¬ k + n ≤ 8 * l.length := by simp at hc; omega
    simp only [if_neg hle]
    refine AW.go ?_
    refine AW.finE (.pv _ (.pv _ .nil)) rfl
  have hle : k + n ≤ 8 * l.length := by simp at hc; omega
  simp only [if_pos hle]
  refine AW.go ?_
  refine AW.loopS (fun i : Nat => ⟨56, [(21, .pv (.int .i64 i)), (20, .pv (.int .i64 n)), (6, .pv (.int .u64 (getB (unb l) k i : Nat))), (0, .ptr 1000 0)], rdO l (k + i)⟩) (fun i => i ≤ n) (fun i => n - i) [21, 20, 6, 0] [1000] 0 (Nat.zero_le _) ?_
  rintro i hi K hK
  refine AW.go ?_
  refine AW.cond rfl (fun hc2 => ?_) (fun hc2 => ?_)
  · have hlt : i < n := by simpa using hc2
    refine AW.go ?_
    have a1 : (k + i) / 8 < l.length := by omega
    have hget := bytes_get a1
    have hx := hb _ (List.getElem_mem a1)
    have hu := unb_get l (k + i) a1
    generalize l[(k + i) / 8] = x at *
    have hm8 : Int.tmod ((k + i : Nat) : Int) 8 = (((k + i) % 8 : Nat) : Int) := rfl
    have d8 : IntKind.i64.wrap (Int.tdiv ((k + i : Nat) : Int) 8) = (((k + i) / 8 : Nat) : Int) := by
      rw [show Int.tdiv ((k + i : Nat) : Int) 8 = (((k + i) / 8 : Nat) : Int) from rfl]; exact wrap_i64_nat (by omega)
    have e7 : IntKind.i64.wrap (7 - (((k + i) % 8 : Nat) : Int)) = ((7 - (k + i) % 8 : Nat) : Int) := by
      rw [wrap_i64_of (by omega) (by omega)]; omega
    have es : shrI .u8 ((x : Nat) : Int) ((7 - (k + i) % 8 : Nat) : Int) = ((x / 2 ^ (7 - (k + i) % 8) : Nat) : Int) := shrI_nat .u8 x _ (by show 7 - (k + i) % 8 ≤ 8; omega)
    have ea : ibits .and .u8 ((x / 2 ^ (7 - (k + i) % 8) : Nat) : Int) 1 = ((x / 2 ^ (7 - (k + i) % 8) % 2 : Nat) : Int) := by
      have := ibits_and8 (a := x / 2 ^ (7 - (k + i) % 8)) (b := 1) (Nat.lt_of_le_of_lt (Nat.div_le_self _ _) hx) (by omega)
      rw [Nat.and_one_is_mod] at this
      exact this
    have hb2 : x / 2 ^ (7 - (k + i) % 8) % 2 < 2 := by omega
    refine AW.sr mixed (by decide +kernel) ?_ (by simp only [go_sem, ↓reduceIte, hget, a1, hm8, d8, e7, es, ea] <;> rfl)
    generalize x / 2 ^ (7 - (k + i) % 8) % 2 = b at *
    have hsn : getB (unb l) k (i + 1) = getB (unb l) k i * 2 + b := by
      unfold getB
      rw [← binN_snoc]
      congr 1
      have h1 : ((unb l).drop k)[i]? = some b := by rw [List.getElem?_drop]; exact hu
      rw [List.take_add_one, h1]; rfl
    have hlt2 : getB (unb l) k i < 2 ^ 63 := by
      have := binN_lt (((unb l).drop k).take i) (fun y hy => unb_bit l y (List.mem_of_mem_drop (List.mem_of_mem_take hy)))
      have h2 : 2 ^ (((unb l).drop k).take i).length ≤ 2 ^ 63 := Nat.pow_le_pow_right (by omega) (by simp; omega)
      unfold getB
      omega
    have es1 : shlI .u64 ((getB (unb l) k i : Nat) : Int) 1 = ((getB (unb l) k i * 2 : Nat) : Int) := by
      have := shlI_nat64 (getB (unb l) k i) 1 (by omega)
      rw [Nat.pow_one, Nat.mod_eq_of_lt (by omega)] at this
      exact this
    have eub : IntKind.u64.wrap ((b : Nat) : Int) = (b : Nat) := wrap_u64_lt (by omega)
    have eor : ibits .or .u64 ((getB (unb l) k i * 2 : Nat) : Int) ((b : Nat) : Int) = ((getB (unb l) k (i + 1) : Nat) : Int) := by
      rw [ibits_or64 (by omega) (by omega), hsn]
      have := Nat.two_pow_add_eq_or_of_lt (i := 1) (b := b) (by omega) (getB (unb l) k i)
      rw [Nat.pow_one] at this
      rw [Nat.mul_comm _ 2, ← this]
    have el : IntKind.i64.wrap (((k + i : Nat) : Int) + 1) = ((k + (i + 1) : Nat) : Int) := wrap_i64_succ (n := k + i) (by omega)
    have ei : IntKind.i64.wrap ((i : Int) + 1) = ((i + 1 : Nat) : Int) := wrap_i64_succ (by omega)
    refine AW.go ?_ (by simp only [go_sem, ↓reduceIte, es1, eub, eor, el, ei] <;> rfl)
    refine AW.again hK (i + 1) hlt (by omega)
  · have hge : i = n := by simp at hc2; omega
    subst hge
    refine AW.go ?_
    refine AW.finE (.pv _ (.pv _ .nil)) rfl
end Go.Ck

set_option linter.unusedVariables false
set_option maxRecDepth 10000
namespace Go.Ck
open Go.Proofs
theorem refWidth_fn (v : Nat) (hv : v < 2 ^ 64) : Fn Tryz.prog 104 [] [.pv (.int .u64 v)] (fun rs H' => rs = [.pv (.int .i64 (blen v : Nat))] ∧ H' = []) := by
  refine Fn.of_body (fn := Tryz.f104) (n := 11) (res := [.tmp 2]) (by kernel_rfl) rfl rfl rfl rfl rfl (fun C => ?_)
  have h64 := blen_le.2 hv
  refine AW.go ?_
  refine AW.loopS (fun a : Nat × Nat => ⟨11, [(0, .pv (.int .u64 a.1)), (3, .pv (.int .i64 a.2))], []⟩) (fun a => a.2 + blen a.1 = blen v) (fun a => a.1) [0, 3] [] (v, 0) (by simp) ?_
  rintro ⟨u, m⟩ h K hK
  simp only at h
  refine AW.go ?_
  refine AW.cond rfl (fun hc => ?_) (fun hc => ?_)
  · have h0 : u ≠ 0 := by simp at hc; omega
    rw [blen_pos h0] at h
    have e2 : Int.tdiv (u : Int) 2 = ((u / 2 : Nat) : Int) := rfl
    have hu : u < 2 ^ 64 ∨ ¬ u < 2 ^ 64 := by omega
    have e3 : IntKind.i64.wrap ((m : Int) + 1) = ((m + 1 : Nat) : Int) := wrap_i64_succ (by omega)
    have e4 : IntKind.u64.wrap ((u / 2 : Nat) : Int) = ((u / 2 : Nat) : Int) := by
      have := blen_le (v := u / 2) (n := 64)
      exact wrap_u64_lt (this.1 (by omega))
    refine AW.go ?_ (by simp only [go_sem, ↓reduceIte, e2, e3, e4] <;> rfl)
    refine AW.again hK (u / 2, m + 1) (by simp only; omega) (by simp only; omega)
  · have h0 : u = 0 := by simp at hc; omega
    subst h0
    rw [blen_zero, Nat.add_zero] at h
    subst h
    refine AW.go ?_
    refine AW.finE (.pv _ .nil) rfl

theorem refPut_fn (bs : List Nat) (v n : Nat) (hn : n ≤ 64) (hv : v < 2 ^ n) (hl : (bs.length + n) * 8 ≤ room) : Fn Tryz.prog 101 [] [.pv (.sl 1 (nis bs)), .pv (.int .u64 v), .pv (.int .i64 n)]
    (fun rs H' => rs = [.own 3 (nis (bs ++ binB v n)), .pv (.int .i64 0)] ∧ H' = []) := by
  refine Fn.of_body (fn := Tryz.f101) (n := 42) (res := [.tmp 6, .tmp 7]) (by kernel_rfl) rfl rfl rfl rfl rfl (fun C => ?_)
  have hv64 : v < 2 ^ 64 := Nat.lt_of_lt_of_le hv (Nat.pow_le_pow_right (by omega) hn)
  have hbl := blen_le.2 hv
  have hg : decide ((n : Int) > 64) = false := by simp; omega
  have hg2 : decide (n < blen v) = false := by simp; omega
  refine AW.gg ?_ (by simp only [go_sem, ↓reduceIte, hg] <;> rfl)
  refine AW.guardT rfl rfl ?_
  refine AW.callE (fun _ => 0) (refWidth_fn v hv64) (.pv _ .nil) ?_
  refine AW.gg ?_ (by simp only [go_sem, ↓reduceIte, hg2] <;> rfl)
  refine AW.condF rfl ?_
  have hbs : bs.length * 8 ≤ room := by omega
  have hbs2 : bs.length ≤ room := by omega
  refine AW.go ?_ (by simp only [go_sem, ↓reduceIte, Nat.zero_add, List.nil_append, hbs, hbs2] <;> rfl)
  refine AW.loopS (fun a : List Nat × Nat => ⟨42, [(8, .own 3 (nis a.1)), (9, .pv (.int .i64 ((a.2 : Int) - 1))), (1, .pv (.int .u64 v))], []⟩) (fun a => a.1 ++ binB v a.2 = bs ++ binB v n ∧ a.2 ≤ n) (fun a => a.2) [8, 9, 1] [] (bs, n) ⟨rfl, Nat.le_refl _⟩ ?_ (by simp only [go_sem, ↓reduceIte]) (by simp only [go_sem, ↓reduceIte]; rw [wrap_i64_of (by omega) (by omega)] <;> rfl)
  rintro ⟨o, j⟩ ⟨ho, hj⟩ K hK
  simp only at ho hj
  have hol : o.length + j = bs.length + n := by have := congrArg List.length ho; simpa [binB_len] using this
  refine AW.go ?_
  refine AW.cond rfl (fun hc => ?_) (fun hc => ?_)
  · cases j with
    | zero => simp at hc
    | succ j =>
      have e0 : (((j + 1 : Nat) : Int) - 1) = (j : Nat) := by omega
      have e2 : IntKind.u64.wrap ((j : Nat) : Int) = (j : Nat) := wrap_u64_lt (by omega)
      have e4 : IntKind.i64.wrap ((j : Int) - 1) = (j : Int) - 1 := wrap_i64_of (by omega) (by omega)
      have e3 : IntKind.i64.wrap (ibits .and .u64 (shrI .u64 (v : Int) (j : Nat)) 1) = ((v / 2 ^ j % 2 : Nat) : Int) := by
        rw [shrI_nat .u64 v _ (by show j ≤ 64; omega), and_one (Nat.lt_of_le_of_lt (Nat.div_le_self _ _) hv64), wrap_i64_nat (by omega)]
      have h1 : (o.length + 1) * 8 ≤ room := by omega
      have h2 : o.length + 1 ≤ room := by omega
      refine AW.go ?_ (by simp only [go_sem, ↓reduceIte, e0, e2, e3, e4, nis_one, h1, h2] <;> rfl)
      refine AW.again hK (o ++ [v / 2 ^ j % 2], j) ⟨?_, by simp only; omega⟩ (by simp only; omega)
      rw [← ho, binB_succ]; simp
  · cases j with
    | zero =>
      simp only [binB, List.append_nil] at ho
      refine AW.go ?_
      rw [ho]
      refine AW.finE (.move rfl (.pv _ .nil)) rfl
    | succ j => exact absurd hc (by simp)

theorem refGet_fn (bs : List Nat) (n : Nat) (hn : n ≤ 64) (hb : ∀ x ∈ bs, x < 2) : Fn Tryz.prog 117 [] [.pv (.sl 1 (nis bs)), .pv (.int .i64 n)]
    (fun rs H' => rs = [.pv (.int .u64 ((if n ≤ bs.length then binN (bs.take n) else 0 : Nat) : Int)), .pv (.sl 1 (nis (if n ≤ bs.length then bs.drop n else bs))), .pv (.int .i64 (if n ≤ bs.length then 0 else 2))] ∧ H' = []) := by
  refine Fn.of_body (fn := Tryz.f117) (n := 38) (res := [.tmp 4, .tmp 5, .tmp 6]) (by kernel_rfl) rfl rfl rfl rfl rfl (fun C => ?_)
  have hg : decide ((n : Int) > 64) = false := by simp; omega
  refine AW.gg ?_ (by simp only [go_sem, ↓reduceIte, hg] <;> rfl)
  refine AW.condF rfl ?_
  refine AW.go ?_
  refine AW.cond rfl (fun hc => ?_) (fun hc => ?_)
  · have hle : ¬ n ≤ bs.length := by simp at hc; omega
    simp only [if_neg hle]
    refine AW.go ?_
    refine AW.finE (.pv _ (.pv _ (.pv _ .nil))) rfl
  have hle : n ≤ bs.length := by simp at hc; omega
  simp only [if_pos hle]
  refine AW.go ?_
  refine AW.loopS (fun i : Nat => ⟨38, [(8, .pv (.int .i64 i)), (7, .pv (.int .u64 (binN (bs.take i) : Nat))), (0, .pv (.sl 1 (nis bs))), (1, .pv (.int .i64 n))], []⟩) (fun i => i ≤ n) (fun i => n - i) [8, 7, 0, 1] [] 0 (Nat.zero_le _) ?_
  rintro i hi K hK
  refine AW.go ?_
  refine AW.cond rfl (fun hc2 => ?_) (fun hc2 => ?_)
  · have hlt : i < n := by simpa using hc2
    have a1 : i < bs.length := by omega
    have hget := nis_get a1
    have hx := hb _ (List.getElem_mem a1)
    have hti : bs.take (i + 1) = bs.take i ++ [bs[i]] := by simp
    generalize bs[i] = x at *
    have hbl := binN_lt (bs.take i) (fun x hx => hb x (List.mem_of_mem_take hx))
    have hp : 2 ^ (bs.take i).length ≤ 2 ^ 63 := Nat.pow_le_pow_right (by omega) (by simp; omega)
    have eu : IntKind.u64.wrap ((x : Nat) : Int) = (x : Nat) := wrap_u64_lt (by omega)
    have ei : IntKind.i64.wrap ((i : Int) + 1) = ((i + 1 : Nat) : Int) := wrap_i64_succ (by omega)
    have em : IntKind.u64.wrap (((binN (bs.take i) : Nat) : Int) * 2) = ((binN (bs.take i) * 2 : Nat) : Int) := wrap_u64_lt (n := binN (bs.take i) * 2) (by omega)
    have ea : IntKind.u64.wrap (((binN (bs.take i) * 2 : Nat) : Int) + (x : Nat)) = ((binN (bs.take (i + 1)) : Nat) : Int) := by
      rw [hti, binN_snoc]
      exact wrap_u64_lt (n := binN (bs.take i) * 2 + x) (by omega)
    refine AW.go ?_ (by simp only [go_sem, ↓reduceIte, hget, eu, em, ea, ei] <;> rfl)
    refine AW.again hK (i + 1) hlt (by omega)
  · have hge : i = n := by simp at hc2; omega
    subst hge
    refine AW.go ?_
    have e : (((bs.length : Int) - (i : Nat)).toNat) = bs.length - i := by omega
    have e2 : (nis (bs.drop i)).take (bs.length - i) = nis (bs.drop i) := List.take_of_length_le (by simp [nis])
    refine AW.sr mixed (by decide +kernel) ?_ (by simp only [go_sem, ↓reduceIte, hle, e]; rw [← nis_take, e2] <;> rfl)
    refine AW.go ?_
    refine AW.finE (.pv _ (.pv _ (.pv _ .nil))) rfl
end Go.Ck

set_option linter.unusedVariables false
set_option maxRecDepth 10000
namespace Go.Ck
open Go.Proofs
theorem refOf_fn (l : List Nat) (hl : l.length * 64 ≤ room) (hb : ∀ x ∈ l, x < 256) : Fn Tryz.prog 116 [] [.pv (.sl 1 (bytes l))] (fun rs H' => rs = [.own 3 (nis (unb l))] ∧ H' = []) := by
  refine Fn.of_body (fn := Tryz.f116) (n := 29) (res := [.tmp 2]) (by kernel_rfl) rfl rfl rfl rfl rfl (fun C => ?_)
  have hr : room < 2 ^ 62 := by decide
  refine AW.go ?_
  refine AW.loopS (fun i : Nat => ⟨29, [(4, .pv (.int .i64 i)), (3, .own 3 (nis (unb (l.take i)))), (0, .pv (.sl 1 (bytes l)))], []⟩) (fun i => i ≤ l.length) (fun i => l.length - i) [4, 3, 0] [] 0 (Nat.zero_le _) ?_
  rintro i hi K hK
  refine AW.go ?_
  refine AW.cond rfl (fun hc => ?_) (fun hc => ?_)
  · have hlt : i < l.length := by simpa using hc
    have hx := hb _ (List.getElem_mem hlt)
    have hget := bytes_get hlt
    have hti : l.take (i + 1) = l.take i ++ [l[i]] := by simp
    have hul := unb_len (l.take i)
    have htl : (l.take i).length = i := by simp; omega
    generalize l[i] = x at *
    have hun : unb (l.take (i + 1)) = unb (l.take i) ++ binB x 8 := by rw [hti, unb_append, unb_cons, unb_nil, List.append_nil]
    refine AW.go ?_
    refine AW.loopS (fun a : List Nat × Nat => ⟨29, [(4, .pv (.int .i64 i)), (3, .own 3 (nis a.1)), (0, .pv (.sl 1 (bytes l))), (5, .pv (.int .i64 ((a.2 : Int) - 1)))], []⟩) (fun a => a.1 ++ binB x a.2 = unb (l.take (i + 1)) ∧ a.2 ≤ 8) (fun a => a.2) [4, 3, 0, 5] [] (unb (l.take i), 8) ⟨hun.symm, by omega⟩ ?_
    rintro ⟨o, j⟩ ⟨ho, hj⟩ K' hK'
    simp only at ho hj
    have hol : o.length + j = 8 * (i + 1) := by
      have := congrArg List.length ho
      rw [List.length_append, binB_len, unb_len, List.length_take] at this
      omega
    refine AW.go ?_
    refine AW.cond rfl (fun hc2 => ?_) (fun hc2 => ?_)
    · cases j with
      | zero => simp at hc2
      | succ j =>
        have e0 : (((j + 1 : Nat) : Int) - 1) = (j : Nat) := by omega
        have e2 : IntKind.u64.wrap ((j : Nat) : Int) = (j : Nat) := wrap_u64_lt (by omega)
        have e4 : IntKind.i64.wrap ((j : Int) - 1) = (j : Int) - 1 := wrap_i64_of (by omega) (by omega)
        have e3 : IntKind.i64.wrap (ibits .and .u8 (shrI .u8 (x : Int) (j : Nat)) 1) = ((x / 2 ^ j % 2 : Nat) : Int) := by
          rw [shrI_nat .u8 x _ (by show j ≤ 8; omega)]
          have := ibits_and8 (a := x / 2 ^ j) (b := 1) (Nat.lt_of_le_of_lt (Nat.div_le_self _ _) hx) (by omega)
          rw [Nat.and_one_is_mod] at this
          rw [show (1 : Int) = ((1 : Nat) : Int) from rfl, this, wrap_i64_nat (by omega)]
        have h1 : (o.length + 1) * 8 ≤ room := by omega
        have h2 : o.length + 1 ≤ room := by omega
        refine AW.go ?_ (by simp only [go_sem, ↓reduceIte, hget, e0, e2, e3, e4, nis_one, h1, h2] <;> rfl)
        refine AW.again hK' (o ++ [x / 2 ^ j % 2], j) ⟨?_, by simp only; omega⟩ (by simp only; omega)
        rw [← ho, binB_succ]; simp
    · cases j with
      | zero =>
        simp only [binB, List.append_nil] at ho
        rw [ho]
        have ei : IntKind.i64.wrap ((i : Int) + 1) = ((i + 1 : Nat) : Int) := wrap_i64_succ (by omega)
        refine AW.go ?_ (by simp only [go_sem, ↓reduceIte, ei] <;> rfl)
        refine AW.again hK (i + 1) hlt (by omega)
      | succ j => exact absurd hc2 (by simp)
  · have hge : ¬ i < l.length := by simpa using hc
    rw [List.take_of_length_le (by omega)]
    refine AW.go ?_
    refine AW.finE (.move rfl .nil) rfl

theorem refBits_fn (l : List Nat) (hl : l.length ≤ room) (hb : ∀ x ∈ l, x < 2) : Fn Tryz.prog 102 [] [.pv (.sl 1 (nis l))] (fun rs H' => rs = [.own 5 (bytes (pk l))] ∧ H' = []) := by
  refine Fn.of_body (fn := Tryz.f102) (n := 54) (res := [.tmp 2]) (by kernel_rfl) rfl rfl rfl rfl rfl (fun C => ?_)
  have hr : room < 2 ^ 62 := by decide
  have d8 : ∀ n : Nat, n ≤ room → IntKind.i64.wrap (Int.tdiv (n : Int) 8) = ((n / 8 : Nat) : Int) := fun n hn => by
    rw [show Int.tdiv ((n : Nat) : Int) 8 = ((n / 8 : Nat) : Int) from rfl]; exact wrap_i64_nat (by omega)
  have hm8 : ∀ n : Nat, Int.tmod (n : Int) 8 = ((n % 8 : Nat) : Int) := fun n => rfl
  have b00 : [PV.int .u8 0] = bytes [0] := rfl
  refine AW.go ?_
  refine AW.loopS (fun i : Nat => ⟨54, [(4, .pv (.int .i64 i)), (3, .own 5 (bytes (pr (l.take i)))), (0, .pv (.sl 1 (nis l)))], []⟩) (fun i => i ≤ l.length) (fun i => l.length - i) [4, 3, 0] [] 0 (Nat.zero_le _) ?_
  rintro i hi K hK
  refine AW.go ?_
  refine AW.cond rfl (fun hc => ?_) (fun hc => ?_)
  · have hlt : i < l.length := by simpa using hc
    have hx := hb _ (List.getElem_mem hlt)
    have hgl := nis_get hlt
    have hti : l.take (i + 1) = l.take i ++ [l[i]] := by simp
    have htl : (l.take i).length = i := by simp; omega
    have hpl := pr_len (l.take i)
    generalize l[i] = b at *
    have hsp := prA_spec (l.take i) b (fun x hx => hb x (List.mem_of_mem_take hx)) hx
    rw [htl, ← hti] at hsp
    obtain ⟨a1, a2, a3, a4⟩ := hsp
    have hA : prA (l.take i) = if i % 8 = 0 then pr (l.take i) ++ [0] else pr (l.take i) := by unfold prA; rw [htl]
    refine AW.go ?_ (by simp only [go_sem, ↓reduceIte, hm8] <;> rfl)
    refine AW.joinS (fun _ : Unit => ⟨54, [(4, .pv (.int .i64 i)), (3, .own 5 (bytes (prA (l.take i)))), (0, .pv (.sl 1 (nis l)))], []⟩) (fun _ => True) [4, 3, 0] [] ?_ ?_
    · intro K hK
      refine AW.cond rfl (fun hc2 => ?_) (fun hc2 => ?_)
      · have h8 : i % 8 = 0 := by simp at hc2; omega
        have hle : (pr (l.take i)).length + 1 ≤ room := by omega
        refine AW.go ?_ (by simp only [go_sem, ↓reduceIte, hle] <;> rfl)
        refine AW.meet hK () trivial (by simp only [go_sem, ↓reduceIte]) (by simp only [go_sem, ↓reduceIte, hA, h8, b00] <;> rfl)
      · have h8 : ¬ i % 8 = 0 := by simp at hc2; omega
        refine AW.go ?_
        refine AW.meet hK () trivial (by simp only [go_sem, ↓reduceIte]) (by simp only [go_sem, ↓reduceIte, hA, h8] <;> rfl)
    rintro _ -
    have hget := bytes_get a1
    rw [getD_get] at hget
    generalize hy : (prA (l.take i)).getD (i / 8) 0 = y at *
    have hd := d8 i (by omega)
    have e1 : IntKind.u8.wrap (((y : Nat) : Int) * 2) = ((y * 2 : Nat) : Int) := wrap_u8_lt (n := y * 2) (by omega)
    have e2 : IntKind.u8.wrap ((b : Nat) : Int) = (b : Nat) := wrap_u8_lt (by omega)
    have e3 : IntKind.u8.wrap (((y * 2 : Nat) : Int) + (b : Nat)) = ((y * 2 + b : Nat) : Int) := wrap_u8_lt (n := y * 2 + b) (by omega)
    have ei : IntKind.i64.wrap ((i : Int) + 1) = ((i + 1 : Nat) : Int) := wrap_i64_succ (by omega)
    refine AW.go ?_
    refine AW.srTail 15 mixed (by decide +kernel) ?_ (by simp only [go_sem, ↓reduceIte, hget, hgl, a1, hd, e1, e2, e3] <;> rfl)
    refine AW.go ?_ (by simp only [go_sem, ↓reduceIte, hget, a1, hd, bytes_set, ei, ← a4] <;> rfl)
    refine AW.again hK (i + 1) hlt (by omega)
  · have hge : ¬ i < l.length := by simpa using hc
    rw [List.take_of_length_le (by omega)]
    have hpl := pr_len l
    have hp2 := pr_lt l hb
    have hkp := pk_of_pr l
    refine AW.go ?_
    refine AW.loopS (fun m : Nat => ⟨54, [(5, .pv (.int .i64 m)), (3, .own 5 (bytes ((pr l).set (l.length / 8) ((pr l).getD (l.length / 8) 0 * 2 ^ (m - l.length)))))], []⟩) (fun m => l.length ≤ m ∧ m ≤ l.length + (8 - l.length % 8) % 8) (fun m => l.length + 8 - m) [5, 3] [] l.length ⟨Nat.le_refl _, by omega⟩ ?_ (by simp only [go_sem, ↓reduceIte]) (by simp only [go_sem, ↓reduceIte, Nat.sub_self, Nat.pow_zero, Nat.mul_one, setSame] <;> rfl)
    rintro m ⟨hm1, hm2⟩ K' hK'
    refine AW.go ?_ (by simp only [go_sem, ↓reduceIte, hm8] <;> rfl)
    refine AW.cond rfl (fun hc2 => ?_) (fun hc2 => ?_)
    · have h8 : m % 8 ≠ 0 := by simp at hc2; omega
      generalize hz : (pr l).getD (l.length / 8) 0 = z at *
      have hlt8 : m - l.length + 1 ≤ 8 - l.length % 8 := by omega
      have hz2 : z * 2 ^ (m - l.length + 1) < 256 := by
        have hq : 2 ^ (l.length % 8) * 2 ^ (m - l.length + 1) ≤ 2 ^ 8 := by rw [← Nat.pow_add]; exact Nat.pow_le_pow_right (by omega) (by omega)
        have := Nat.mul_lt_mul_of_pos_right hp2.2 (Nat.two_pow_pos (m - l.length + 1))
        omega
      rw [Nat.pow_succ, ← Nat.mul_assoc] at hz2
      have hset : ((pr l).set (l.length / 8) (z * 2 ^ (m - l.length))).length = (pr l).length := by simp
      have hin : l.length / 8 < (pr l).length := by omega
      have e1 : IntKind.i64.wrap (((pr l).length : Int) - 1) = ((l.length / 8 : Nat) : Int) := by rw [wrap_i64_of (by omega) (by omega)]; omega
      have hget : (bytes ((pr l).set (l.length / 8) (z * 2 ^ (m - l.length))))[l.length / 8]? = some (.int .u8 ((z * 2 ^ (m - l.length) : Nat) : Int)) := by simp [bytes, hin]
      have e2 : IntKind.u8.wrap (((z * 2 ^ (m - l.length) : Nat) : Int) * 2) = ((z * 2 ^ (m - l.length) * 2 : Nat) : Int) := wrap_u8_lt (n := z * 2 ^ (m - l.length) * 2) hz2
      have ei : IntKind.i64.wrap ((m : Int) + 1) = ((m + 1 : Nat) : Int) := wrap_i64_succ (by omega)
      generalize hw : z * 2 ^ (m - l.length) = w at *
      refine AW.go ?_ (by simp only [go_sem, ↓reduceIte, hset, e1, hin, hget, e2, bytes_set, ei] <;> rfl)
      refine AW.again hK' (m + 1) ⟨by omega, by omega⟩ (by omega) (by simp only [go_sem, ↓reduceIte]) (by simp only [go_sem, ↓reduceIte, List.set_set]; rw [show m + 1 - l.length = m - l.length + 1 by omega, Nat.pow_succ, ← Nat.mul_assoc, hw] <;> rfl)
    · have h8 : m % 8 = 0 := by simp at hc2; omega
      have : m - l.length = (8 - l.length % 8) % 8 := by omega
      rw [this, ← hkp]
      refine AW.go ?_
      refine AW.finE (.move rfl .nil) rfl
end Go.Ck

set_option linter.unusedVariables false
namespace Go.Ck
def plc (v : Nat) : List Nat → Nat → Int
  | [], _ => -1
  | x :: r, i => if x = v then (i : Int) else plc v r (i + 1)
theorem plc_not {v : Nat} : ∀ {l : List Nat} {i : Nat}, v ∉ l → plc v l i = -1
  | [], _, _ => rfl
  | x :: r, i, h => by
    simp only [List.mem_cons, not_or] at h
    rw [plc, if_neg (fun e => h.1 e.symm), plc_not h.2]
theorem plc_mem {v : Nat} : ∀ {l : List Nat} {i : Nat}, v ∈ l → ∃ k, plc v l i = ((i + k : Nat) : Int) ∧ k < l.length ∧ l[k]? = some v
  | [], _, h => by simp at h
  | x :: r, i, h => by
    rw [plc]
    by_cases e : x = v
    · exact ⟨0, by rw [if_pos e]; simp, by simp, by simp [e]⟩
    · rw [if_neg e]
      obtain ⟨k, h1, h2, h3⟩ := plc_mem (i := i + 1) (List.mem_of_ne_of_mem (fun h => e h.symm) h)
      exact ⟨k + 1, by rw [h1]; congr 1; omega, by simp; omega, by simpa using h3⟩
theorem plc_neg {v : Nat} {l : List Nat} {i : Nat} : plc v l i < 0 ↔ v ∉ l := by
  by_cases h : v ∈ l
  · obtain ⟨k, h1, _⟩ := plc_mem (i := i) h
    rw [h1]
    exact ⟨fun h2 => by omega, fun h2 => absurd h h2⟩
  · rw [plc_not h]; exact ⟨fun _ => h, fun _ => by omega⟩
/-- The patterns that there are, as they come. -/
def ddS (d : List Nat) (x : Nat) : List Nat := if plc x d 0 < 0 then d ++ [x] else d
def dd (xs : List Nat) : List Nat := xs.foldl ddS []
theorem dd_snoc (xs : List Nat) (x : Nat) : dd (xs ++ [x]) = ddS (dd xs) x := by simp [dd]
theorem dd_mem (xs : List Nat) (y : Nat) : y ∈ dd xs ↔ y ∈ xs := by
  induction xs using snoc_ind with
  | h0 => simp [dd]
  | h1 l b ih =>
    rw [dd_snoc, ddS]
    simp only [plc_neg, List.mem_append, List.mem_singleton]
    split
    · simp only [List.mem_append, List.mem_singleton, ih]
    · rename_i h
      rw [ih]
      constructor
      · exact .inl
      · rintro (h2 | rfl)
        · exact h2
        · exact ih.1 (Classical.not_not.1 h)
theorem dd_len (xs : List Nat) : (dd xs).length ≤ xs.length := by
  induction xs using snoc_ind with
  | h0 => simp [dd]
  | h1 l b ih => rw [dd_snoc, ddS]; split <;> simp <;> omega
/-- How wide a place is. -/
def wd (n : Nat) : Nat := blen (n - 1)
theorem wd_le {n : Nat} (h : n ≤ 2 ^ 16) : wd n ≤ 16 := by unfold wd; rw [blen_le]; omega
theorem wd_lt {k n : Nat} (h : k < n) : k < 2 ^ wd n := by
  unfold wd
  have := @blen_lt (n - 1)
  omega
def bits10 (d xs : List Nat) : List Nat := xs.flatMap fun x => binB (plc x d 0).toNat (wd d.length)
def head10 (d : List Nat) : List Nat := leb d.length ++ d.flatMap fun x => beB x 8
def enc10 (xs : List Nat) : List Nat := head10 (dd xs) ++ pk (bits10 (dd xs) xs)
theorem bits10_len (d xs : List Nat) : (bits10 d xs).length = wd d.length * xs.length := by
  induction xs with
  | nil => rfl
  | cons x r ih => simp only [bits10, List.flatMap_cons, List.length_append, binB_len, List.length_cons] at ih ⊢; rw [ih, Nat.mul_succ]; omega
theorem be8_len (d : List Nat) : (d.flatMap fun x => beB x 8).length = 8 * d.length := by
  induction d with
  | nil => rfl
  | cons x r ih => simp only [List.flatMap_cons, List.length_append, beB_len, List.length_cons] at ih ⊢; rw [ih]; omega
theorem bits10_bit (d xs : List Nat) : ∀ x ∈ bits10 d xs, x < 2 := by
  intro x hx
  simp only [bits10, List.mem_flatMap] at hx
  obtain ⟨y, _, hx⟩ := hx
  exact binB_bit _ _ x hx
end Go.Ck

set_option linter.unusedVariables false
set_option maxRecDepth 10000
namespace Go.Ck
open Go.Proofs
theorem place_fn (xs : List Nat) (v : Nat) (hl : xs.length ≤ room) : Fn Tryz.prog 99 [] [.pv (.sl 1 (u64s xs)), .pv (.int .u64 v)] (fun rs H' => rs = [.pv (.int .i64 (plc v xs 0))] ∧ H' = []) := by
  refine Fn.of_body (fn := Tryz.f99) (n := 19) (res := [.tmp 4]) (by kernel_rfl) rfl rfl rfl rfl rfl (fun C => ?_)
  have hr : room < 2 ^ 62 := by decide
  refine AW.go ?_
  refine AW.loopS (fun i : Nat => ⟨19, [(5, .pv (.int .i64 i)), (0, .pv (.sl 1 (u64s xs))), (1, .pv (.int .u64 v))], []⟩) (fun i => i ≤ xs.length ∧ plc v xs 0 = plc v (xs.drop i) i) (fun i => xs.length - i) [5, 0, 1] [] 0 ⟨Nat.zero_le _, rfl⟩ ?_
  rintro i ⟨hi, hidx⟩ K hK
  refine AW.go ?_
  refine AW.cond rfl (fun hb => ?_) (fun hb => ?_)
  · have hlt : i < xs.length := by simpa using hb
    have hget := u64s_get hlt
    rw [List.drop_eq_getElem_cons hlt, plc] at hidx
    generalize xs[i] = x at *
    refine AW.go ?_ (by simp only [go_sem, ↓reduceIte, hget] <;> rfl)
    refine AW.cond rfl (fun hb2 => ?_) (fun hb2 => ?_)
    · have hx : x = v := by simp at hb2; omega
      rw [if_pos hx] at hidx
      refine AW.go ?_
      refine AW.finE (.pv _ .nil) ?_
      rw [hidx]
    · have hx : ¬ x = v := by simp at hb2; omega
      rw [if_neg hx] at hidx
      have ei : IntKind.i64.wrap ((i : Int) + 1) = ((i + 1 : Nat) : Int) := wrap_i64_succ (by omega)
      refine AW.go ?_ (by simp only [go_sem, ↓reduceIte, ei] <;> rfl)
      refine AW.again hK (i + 1) ⟨hlt, hidx⟩ (by omega)
  · have hge : ¬ i < xs.length := by simpa using hb
    refine AW.go ?_
    refine AW.finE (.pv _ .nil) ?_
    rw [hidx, List.drop_eq_nil_of_le (by omega), plc]

theorem width10_fn (n : Nat) (hn : n < 2 ^ 63) : Fn Tryz.prog 100 [] [.pv (.int .i64 n)] (fun rs H' => rs = [.pv (.int .i64 (blen (n - 1) : Nat))] ∧ H' = []) := by
  refine Fn.of_body (fn := Tryz.f100) (n := 9) (res := [.tmp 2]) (by kernel_rfl) rfl rfl rfl rfl rfl (fun C => ?_)
  refine AW.go ?_
  refine AW.cond rfl (fun hc => ?_) (fun hc => ?_)
  · have h0 : n = 0 := by simp at hc; omega
    subst h0
    rw [Nat.zero_sub, blen_zero]
    refine AW.go ?_
    refine AW.finE (.pv _ .nil) rfl
  · have h0 : n ≠ 0 := by simp at hc; omega
    have e1 : IntKind.u64.wrap (IntKind.i64.wrap ((n : Int) - 1)) = ((n - 1 : Nat) : Int) := by
      rw [wrap_i64_of (by omega) (by omega), show ((n : Int) - 1) = ((n - 1 : Nat) : Int) by omega, wrap_u64_lt (by omega)]
    refine AW.go ?_ (by simp only [go_sem, ↓reduceIte, e1] <;> rfl)
    refine AW.callE (fun _ => 0) (refWidth_fn (n - 1) (by omega)) (.pv _ .nil) ?_
    refine AW.go ?_
    refine AW.finE (.pv _ .nil) rfl

theorem dictWidth_fn (n : Nat) (hn : n < 2 ^ 63) : Fn Tryz.prog 111 [] [.pv (.int .i64 n)] (fun rs H' => rs = [.pv (.int .i64 (blen (n - 1) : Nat))] ∧ H' = []) := by
  refine Fn.of_body (fn := Tryz.f111) (n := 8) (res := [.tmp 2]) (by kernel_rfl) rfl rfl rfl rfl rfl (fun C => ?_)
  have e1 : IntKind.u64.wrap (IntKind.i64.wrap ((if (1 : Int) > (n : Int) then (1 : Int) else (n : Int)) - 1)) = ((n - 1 : Nat) : Int) := by
    have : (if (1 : Int) > (n : Int) then (1 : Int) else (n : Int)) - 1 = ((n - 1 : Nat) : Int) := by split <;> omega
    rw [this, wrap_i64_of (by omega) (by omega), wrap_u64_lt (by omega)]
  refine AW.go ?_ (by simp only [go_sem, ↓reduceIte, e1] <;> rfl)
  refine AW.callE (fun _ => 0) (width_fn (n - 1) (by omega)) (.pv _ .nil) ?_
  refine AW.go ?_
  refine AW.finE (.pv _ .nil) rfl

theorem trail_fn (v : Nat) (h0 : v ≠ 0) (hv : v < 2 ^ 64) : Fn Tryz.prog 105 [] [.pv (.int .u64 v)] (fun rs H' => rs = [.pv (.int .i64 (tzn v : Nat))] ∧ H' = []) := by
  refine Fn.of_body (fn := Tryz.f105) (n := 12) (res := [.tmp 2]) (by kernel_rfl) rfl rfl rfl rfl rfl (fun C => ?_)
  have hlt := tzn_lt h0 hv
  refine AW.go ?_
  refine AW.loopS (fun a : Nat × Nat => ⟨12, [(0, .pv (.int .u64 a.1)), (3, .pv (.int .i64 a.2))], []⟩) (fun a => a.2 + tzn a.1 = tzn v ∧ a.1 ≠ 0 ∧ a.1 < 2 ^ 64) (fun a => a.1) [0, 3] [] (v, 0) ⟨by simp, h0, hv⟩ ?_
  rintro ⟨u, m⟩ ⟨h, hu0, hu⟩ K hK
  simp only at h hu0 hu
  have em : Int.tmod (u : Int) 2 = ((u % 2 : Nat) : Int) := rfl
  refine AW.go ?_ (by simp only [go_sem, ↓reduceIte, em] <;> rfl)
  refine AW.cond rfl (fun hc => ?_) (fun hc => ?_)
  · have h2 : u % 2 = 0 := by simp at hc; omega
    rw [tzn_even hu0 h2] at h
    have e2 : Int.tdiv (u : Int) 2 = ((u / 2 : Nat) : Int) := rfl
    have e3 : IntKind.i64.wrap ((m : Int) + 1) = ((m + 1 : Nat) : Int) := wrap_i64_succ (by omega)
    have e4 : IntKind.u64.wrap ((u / 2 : Nat) : Int) = ((u / 2 : Nat) : Int) := wrap_u64_lt (by omega)
    refine AW.go ?_ (by simp only [go_sem, ↓reduceIte, e2, e3, e4] <;> rfl)
    refine AW.again hK (u / 2, m + 1) ⟨by simp only; omega, by simp only; omega, by simp only; omega⟩ (by simp only; omega)
  · have h2 : u % 2 = 1 := by simp at hc; omega
    rw [tzn_odd h2, Nat.add_zero] at h
    subst h
    refine AW.go ?_
    refine AW.finE (.pv _ .nil) rfl

theorem lead_fn (v : Nat) (hv : v < 2 ^ 64) : Fn Tryz.prog 106 [] [.pv (.int .u64 v)] (fun rs H' => rs = [.pv (.int .i64 (min (64 - blen v) 31 : Nat))] ∧ H' = []) := by
  refine Fn.of_body (fn := Tryz.f106) (n := 7) (res := [.tmp 2]) (by kernel_rfl) rfl rfl rfl rfl rfl (fun C => ?_)
  have h64 := blen_le.2 hv
  have e : IntKind.i64.wrap (64 - (blen v : Nat)) = ((64 - blen v : Nat) : Int) := by rw [wrap_i64_of (by omega) (by omega)]; omega
  refine AW.go ?_
  refine AW.callE (fun _ => 0) (refWidth_fn v hv) (.pv _ .nil) ?_
  have hm : (if (31 : Int) < ((64 - blen v : Nat) : Int) then (31 : Int) else ((64 - blen v : Nat) : Int)) = ((min (64 - blen v) 31 : Nat) : Int) := by split <;> omega
  refine AW.go ?_ (by simp only [go_sem, ↓reduceIte, e, hm] <;> rfl)
  refine AW.finE (.pv _ .nil) rfl

theorem put09_fn (bs : List Nat) (v n : Nat) (hn : n ≤ 64) (hv : v < 2 ^ n) (hl : (bs.length + n) * 8 ≤ room) : Fn Tryz.prog 103 [] [.pv (.sl 1 (nis bs)), .pv (.int .u64 v), .pv (.int .i64 n)]
    (fun rs H' => rs = [.own 3 (nis (bs ++ binB v n))] ∧ H' = []) := by
  refine Fn.of_body (fn := Tryz.f103) (n := 17) (res := [.tmp 6]) (by kernel_rfl) rfl rfl rfl rfl rfl (fun C => ?_)
  refine AW.go ?_
  refine AW.callE (fun _ => 0) (refPut_fn bs v n hn hv hl) (.pv _ (.pv _ (.pv _ .nil))) ?_
  refine AW.go ?_
  refine AW.finE (.move rfl .nil) rfl

abbrev grO (l : List Nat) (e : Int) : List (Nat × HO) := [(1000, .cells 121 [.pv (.sl 1 (nis l)), .pv (.int .i64 e)])]
attribute [go_sem] grO
end Go.Ck

set_option linter.unusedVariables false
set_option maxRecDepth 10000
namespace Go.Ck
open Go.Proofs
theorem ref10Enc_fn (xs : List Nat) (hx : ∀ x ∈ xs, x < 2 ^ 64) : Fn Tryz.prog 72 [] [.pv (.sl 1 (u64s xs))]
    (fun rs H' => rs = [.own 5 (bytes (if xs.length ≤ 65536 then enc10 xs else [])), .pv (.int .i64 (if xs.length ≤ 65536 then 0 else 4))] ∧ H' = []) := by
  refine Fn.of_body (fn := Tryz.f72) (n := 77) (res := [.tmp 2, .tmp 3]) (by kernel_rfl) rfl rfl rfl rfl rfl (fun C => ?_)
  have hr : room = 140737488355328 := rfl
  refine AW.go ?_
  refine AW.cond rfl (fun hc => ?_) (fun hc => ?_)
  · have hle : ¬ xs.length ≤ 65536 := by simp at hc; omega
    simp only [if_neg hle]
    refine AW.go ?_
    refine AW.finE (.move rfl (.pv _ .nil)) rfl
  have hle : xs.length ≤ 65536 := by simp at hc; omega
  simp only [if_pos hle]
  refine AW.go ?_
  refine AW.loopS (fun i : Nat => ⟨77, [(5, .pv (.int .i64 i)), (4, .own 39 (u64s (dd (xs.take i)))), (0, .pv (.sl 1 (u64s xs)))], []⟩) (fun i => i ≤ xs.length) (fun i => xs.length - i) [5, 4, 0] [] 0 (Nat.zero_le _) ?_
  rintro i hi K hK
  refine AW.go ?_
  refine AW.cond rfl (fun hc => ?_) (fun hc => ?_)
  · have hlt : i < xs.length := by simpa using hc
    have hget := u64s_get hlt
    have hti : xs.take (i + 1) = xs.take i ++ [xs[i]] := by simp
    have hdl := dd_len (xs.take i)
    have htl : (xs.take i).length = i := by simp; omega
    generalize xs[i] = x at *
    have ei : IntKind.i64.wrap ((i : Int) + 1) = ((i + 1 : Nat) : Int) := wrap_i64_succ (by omega)
    have hds : dd (xs.take (i + 1)) = ddS (dd (xs.take i)) x := by rw [hti, dd_snoc]
    refine AW.go ?_ (by simp only [go_sem, ↓reduceIte, hget] <;> rfl)
    refine AW.callE (fun _ => 0) (place_fn (dd (xs.take i)) x (by omega)) (.lend rfl co_39 (.pv _ .nil)) ?_
    refine AW.go ?_
    refine AW.cond rfl (fun hc2 => ?_) (fun hc2 => ?_)
    · have hn : plc x (dd (xs.take i)) 0 < 0 := by simpa using hc2
      have h1 : ((dd (xs.take i)).length + 1) * 8 ≤ room := by omega
      have h2 : (dd (xs.take i)).length + 1 ≤ room := by omega
      rw [ddS, if_pos hn] at hds
      refine AW.go ?_ (by simp only [go_sem, ↓reduceIte, hget, u64s_one, h1, h2, ei] <;> rfl)
      refine AW.again hK (i + 1) hlt (by omega) (by simp only [go_sem, ↓reduceIte]) (by simp only [go_sem, ↓reduceIte, hds] <;> rfl)
    · have hn : ¬ plc x (dd (xs.take i)) 0 < 0 := by simp at hc2; omega
      rw [ddS, if_neg hn] at hds
      refine AW.go ?_ (by simp only [go_sem, ↓reduceIte, ei] <;> rfl)
      refine AW.again hK (i + 1) hlt (by omega) (by simp only [go_sem, ↓reduceIte]) (by simp only [go_sem, ↓reduceIte, hds] <;> rfl)
  have hge : ¬ i < xs.length := by simpa using hc
  rw [List.take_of_length_le (by omega)]
  have hdl := dd_len xs
  have hdm : ∀ y ∈ dd xs, y < 2 ^ 64 := fun y hy => hx y ((dd_mem xs y).1 hy)
  have hmem : ∀ y ∈ xs, y ∈ dd xs := fun y hy => (dd_mem xs y).2 hy
  unfold enc10
  generalize dd xs = d at *
  have hu : IntKind.u64.wrap ((d.length : Nat) : Int) = (d.length : Nat) := wrap_u64_lt (by omega)
  refine AW.go ?_ (by simp only [go_sem, ↓reduceIte, hu] <;> rfl)
  have h10 := leb_len10 (v := d.length) (by omega)
  refine AW.callE (fun _ => 0) (refAppend_fn [] d.length (by omega) (by simp; omega)) (.nilsP 1 (.pv _ .nil)) ?_
  refine AW.go ?_
  have hfl := be8_len d
  refine AW.loopS (fun i : Nat => ⟨77, [(7, .pv (.int .i64 i)), (6, .own 5 (bytes (leb d.length ++ (d.take i).flatMap fun x => beB x 8))), (4, .own 39 (u64s d)), (0, .pv (.sl 1 (u64s xs)))], []⟩) (fun i => i ≤ d.length) (fun i => d.length - i) [7, 6, 4, 0] [] 0 (Nat.zero_le _) ?_ (by simp only [go_sem, ↓reduceIte]) (by simp only [go_sem, ↓reduceIte, List.take_zero, List.flatMap_nil, List.append_nil] <;> rfl)
  clear hK hi hge hc
  rintro i hi K hK
  refine AW.go ?_
  refine AW.cond rfl (fun hc => ?_) (fun hc => ?_)
  · have hlt : i < d.length := by simpa using hc
    have hget := u64s_get hlt
    have hdx := hdm _ (List.getElem_mem hlt)
    have hti : d.take (i + 1) = d.take i ++ [d[i]] := by simp
    have hfi := be8_len (d.take i)
    have hfn : (d.take (i + 1)).flatMap (fun x => beB x 8) = (d.take i).flatMap (fun x => beB x 8) ++ beB d[i] 8 := by rw [hti, List.flatMap_append]; simp
    rw [List.length_take] at hfi
    generalize d[i] = x at *
    refine AW.go ?_ (by simp only [go_sem, ↓reduceIte, hget, hlt] <;> rfl)
    refine AW.callE (fun _ => 0) (refFix_fn x 8 hdx (by omega)) (.pv _ (.pv _ .nil)) ?_
    have h2 : (leb d.length ++ (d.take i).flatMap fun x => beB x 8).length + (beB x 8).length ≤ room := by rw [List.length_append, hfi, beB_len]; omega
    have ei : IntKind.i64.wrap ((i : Int) + 1) = ((i + 1 : Nat) : Int) := wrap_i64_succ (by omega)
    refine AW.go ?_ (by simp only [go_sem, ↓reduceIte, h2, ei, List.append_assoc, ← hfn] <;> rfl)
    refine AW.again hK (i + 1) hlt (by omega)
  have hge : ¬ i < d.length := by simpa using hc
  rw [List.take_of_length_le (by omega)]
  have hw16 := wd_le (n := d.length) (by omega)
  refine AW.go ?_
  refine AW.callE (fun _ => 0) (width10_fn d.length (by omega)) (.pv _ .nil) ?_
  refine AW.go ?_
  refine AW.loopS (fun i : Nat => ⟨77, [(10, .pv (.int .i64 i)), (9, .own 3 (nis (bits10 d (xs.take i)))), (8, .pv (.int .i64 (wd d.length : Nat))), (6, .own 5 (bytes (leb d.length ++ d.flatMap fun x => beB x 8))), (4, .own 39 (u64s d)), (0, .pv (.sl 1 (u64s xs)))], []⟩) (fun i => i ≤ xs.length) (fun i => xs.length - i) [10, 9, 8, 6, 4, 0] [] 0 (Nat.zero_le _) ?_
  clear hK hi hge hc
  rintro i hi K hK
  refine AW.go ?_
  refine AW.cond rfl (fun hc => ?_) (fun hc => ?_)
  · have hlt : i < xs.length := by simpa using hc
    have hget := u64s_get hlt
    obtain ⟨p, hp1, hp2, hp3⟩ := plc_mem (i := 0) (hmem _ (List.getElem_mem hlt))
    have hti : xs.take (i + 1) = xs.take i ++ [xs[i]] := by simp
    have hbi := bits10_len d (xs.take i)
    have hfn : bits10 d (xs.take (i + 1)) = bits10 d (xs.take i) ++ binB p (wd d.length) := by
      rw [hti, bits10, List.flatMap_append, bits10]
      simp only [List.flatMap_cons, List.flatMap_nil, List.append_nil, hp1]
      congr 2; omega
    rw [List.length_take] at hbi
    rw [Nat.zero_add] at hp1
    generalize xs[i] = x at *
    refine AW.go ?_ (by simp only [go_sem, ↓reduceIte, hget] <;> rfl)
    refine AW.callE (fun _ => 0) (place_fn d x (by omega)) (.lend rfl co_39 (.pv _ .nil)) ?_
    rw [hp1]
    have eu : IntKind.u64.wrap ((p : Nat) : Int) = (p : Nat) := wrap_u64_lt (by omega)
    refine AW.go ?_ (by simp only [go_sem, ↓reduceIte, eu] <;> rfl)
    have hm : wd d.length * min i xs.length ≤ 16 * 65536 := Nat.mul_le_mul hw16 (by omega)
    refine AW.callE (fun _ => 0) (refPut_fn (bits10 d (xs.take i)) p (wd d.length) (by omega) (wd_lt hp2) (by rw [hbi]; omega)) (.lend rfl co_3 (.pv _ (.pv _ .nil))) ?_
    have ei : IntKind.i64.wrap ((i : Int) + 1) = ((i + 1 : Nat) : Int) := wrap_i64_succ (by omega)
    refine AW.go ?_ (by simp only [go_sem, ↓reduceIte, ei, ← hfn] <;> rfl)
    refine AW.again hK (i + 1) hlt (by omega)
  have hge : ¬ i < xs.length := by simpa using hc
  rw [List.take_of_length_le (by omega)]
  have hbi := bits10_len d xs
  have hm : wd d.length * xs.length ≤ 16 * 65536 := Nat.mul_le_mul hw16 (by omega)
  refine AW.go ?_
  refine AW.callE (fun _ => 0) (refBits_fn (bits10 d xs) (by omega) (bits10_bit d xs)) (.lend rfl co_3 .nil) ?_
  have h2 : (leb d.length ++ d.flatMap fun x => beB x 8).length + (pk (bits10 d xs)).length ≤ room := by rw [List.length_append, hfl, pk_len]; omega
  refine AW.go ?_ (by simp only [go_sem, ↓reduceIte, h2] <;> rfl)
  refine AW.finE (.move rfl (.pv _ .nil)) rfl
end Go.Ck

set_option linter.unusedVariables false
set_option maxRecDepth 10000
namespace Go.Ck
open Go.Proofs
theorem numsOf_bytes (l : List Nat) : numsOf (bytes l) = some (l.map fun (n : Nat) => (n : Int)) := by
  induction l with
  | nil => rfl
  | cons a r ih => simp only [bytes, List.map_cons, numsOf] at ih ⊢; rw [ih]
theorem ofNums_eq {a b : List Nat} (ha : ∀ x ∈ a, x < 256) (hb : ∀ x ∈ b, x < 256) : (ofNums (a.map fun (n : Nat) => (n : Int)) == ofNums (b.map fun (n : Nat) => (n : Int))) = decide (a = b) := by
  rw [Bool.eq_iff_iff]
  simp only [beq_iff_eq, decide_eq_true_eq]
  constructor
  · intro h
    have h2 := congrArg (fun l : List UInt8 => l.map UInt8.toNat) h
    simp only [ofNums, List.map_map] at h2
    have e : ∀ l : List Nat, (∀ x ∈ l, x < 256) → l.map (UInt8.toNat ∘ (fun n : Int => UInt8.ofNat n.toNat) ∘ fun (n : Nat) => (n : Int)) = l := by
      intro l hl
      conv => rhs; rw [← List.map_id l]
      apply List.map_congr_left
      intro x hx
      have := hl x hx
      simp [UInt8.toNat_ofNat']
      omega
    rwa [e a ha, e b hb] at h2
  · rintro rfl; rfl

theorem bytesEqual_fn (a b : List Nat) (ha : ∀ x ∈ a, x < 256) (hb : ∀ x ∈ b, x < 256) : Fn Tryz.prog 56 [] [.pv (.sl 1 (bytes a)), .pv (.sl 1 (bytes b))] (fun rs H' => rs = [.pv (.bool (decide (a = b)))] ∧ H' = []) := by
  refine Fn.of_body (fn := Tryz.f56) (n := 10) (res := [.tmp 4]) (by kernel_rfl) rfl rfl rfl rfl rfl (fun C => ?_)
  have e := ofNums_eq ha hb
  refine AW.go ?_ (by simp only [go_sem, ↓reduceIte, numsOf_bytes, e] <;> rfl)
  refine AW.finE (.pv _ .nil) ?_
  rfl

theorem ref01Same_fn (a b : List Nat) (hl : a.length ≤ room) : Fn Tryz.prog 8 [] [.pv (.sl 1 (bytes a)), .pv (.sl 1 (bytes b))] (fun rs H' => rs = [.pv (.bool (decide (a = b)))] ∧ H' = []) := by
  refine Fn.of_body (fn := Tryz.f8) (n := 26) (res := [.tmp 4]) (by kernel_rfl) rfl rfl rfl rfl rfl (fun C => ?_)
  have hr : room < 2 ^ 62 := by decide
  refine AW.go ?_
  refine AW.cond rfl (fun hc => ?_) (fun hc => ?_)
  · have hne : a ≠ b := by rintro rfl; simp at hc
    refine AW.go ?_
    refine AW.finE (.pv _ .nil) ?_
    rw [decide_eq_false hne]
  have hlen : a.length = b.length := by simp at hc; omega
  refine AW.go ?_
  refine AW.loopS (fun i : Nat => ⟨26, [(5, .pv (.int .i64 i)), (0, .pv (.sl 1 (bytes a))), (1, .pv (.sl 1 (bytes b)))], []⟩) (fun i => i ≤ a.length ∧ a.take i = b.take i) (fun i => a.length - i) [5, 0, 1] [] 0 ⟨Nat.zero_le _, rfl⟩ ?_
  rintro i ⟨hi, ht⟩ K hK
  refine AW.go ?_
  refine AW.cond rfl (fun hc => ?_) (fun hc => ?_)
  · have hlt : i < a.length := by simpa using hc
    have hlt2 : i < b.length := by omega
    have h1 := bytes_get hlt
    have h2 := bytes_get hlt2
    have ei : IntKind.i64.wrap ((i : Int) + 1) = ((i + 1 : Nat) : Int) := wrap_i64_succ (by omega)
    refine AW.go ?_
    refine AW.sr mixed (by decide +kernel) ?_ (by simp only [go_sem, ↓reduceIte, h1, h2] <;> rfl)
    refine AW.go ?_
    refine AW.cond rfl (fun hc => ?_) (fun hc => ?_)
    · have hne : a ≠ b := by rintro rfl; simp at hc
      refine AW.go ?_
      refine AW.finE (.pv _ .nil) ?_
      rw [decide_eq_false hne]
    · have he : a[i] = b[i] := by simp at hc; omega
      refine AW.go ?_ (by simp only [go_sem, ↓reduceIte, ei] <;> rfl)
      refine AW.again hK (i + 1) ⟨hlt, ?_⟩ (by omega)
      rw [List.take_succ_eq_append_getElem hlt, List.take_succ_eq_append_getElem hlt2, ht, he]
  · have hge : ¬ i < a.length := by simpa using hc
    rw [List.take_of_length_le (by omega), List.take_of_length_le (by omega)] at ht
    refine AW.go ?_
    refine AW.finE (.pv _ .nil) ?_
    rw [decide_eq_true ht]

end Go.Ck
