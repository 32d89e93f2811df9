/- What is proved here: parts of the proofs of this seat's statements (a verified evaluator for calls over pure values, its laws, and contracts of functions). No condition. -/
import Derived.Test.YtnbkoemhcpjceaaKk
set_option linter.all false
set_option linter.unusedVariables false
namespace Go.Ck
theorem foldl_base (b : Nat) : ∀ (l : List Nat) (a : Nat), l.foldl (fun a x => a * b + x) a = a * b ^ l.length + l.foldl (fun a x => a * b + x) 0
  | [], a => by simp
  | x :: r, a => by
    rw [List.foldl_cons, foldl_base b r (a * b + x), List.foldl_cons, foldl_base b r (0 * b + x), List.length_cons, Nat.pow_succ, Nat.zero_mul, Nat.zero_add, Nat.add_mul, Nat.mul_assoc, Nat.mul_comm b (b ^ r.length), Nat.add_assoc]
theorem beN_cons (x : Nat) (l : List Nat) : beN (x :: l) = x * 256 ^ l.length + beN l := by
  have := foldl_base 256 l (0 * 256 + x)
  rw [beN, List.foldl_cons, this, Nat.zero_mul, Nat.zero_add]; rfl
theorem binN_cons (x : Nat) (l : List Nat) : binN (x :: l) = x * 2 ^ l.length + binN l := by
  have := foldl_base 2 l (0 * 2 + x)
  rw [binN, List.foldl_cons, this, Nat.zero_mul, Nat.zero_add]; rfl
theorem beN_beB (v n : Nat) : beN (beB v n) = v % 256 ^ n := by
  induction n with
  | zero => simp [beB, beN, Nat.mod_one]
  | succ n ih => rw [beB, beN_cons, beB_len, ih, Nat.pow_succ, Nat.mod_mul]; rw [Nat.mul_comm, Nat.add_comm]
theorem binN_binB (v n : Nat) : binN (binB v n) = v % 2 ^ n := by
  induction n with
  | zero => simp [binB, binN, Nat.mod_one]
  | succ n ih => rw [binB, binN_cons, binB_len, ih, Nat.pow_succ, Nat.mod_mul]; rw [Nat.mul_comm, Nat.add_comm]
theorem beN8 {x : Nat} (h : x < 2 ^ 64) : beN (beB x 8) = x := by
  rw [beN_beB]; exact Nat.mod_eq_of_lt (by omega)
theorem rdv_leb (n : Nat) : ∀ (v : Nat), v ≤ n → ∀ (k acc : Nat) (r : List Nat), v * 128 ^ k < 2 ^ 64 → (k = 0 ∨ v ≠ 0) → k ≤ 9 → rdv k acc (leb v ++ r) = (acc + v * 128 ^ k, k + (leb v).length, 0) := by
  induction n using Nat.strongRecOn with
  | _ n ih =>
    intro v hv k acc r hlt h0 hk
    have h9 : k = 9 → v < 2 := by
      rintro rfl
      have : v * 128 ^ 9 < 2 * 128 ^ 9 := by omega
      exact Nat.lt_of_mul_lt_mul_right this
    by_cases h : v < 128
    · rw [leb_lt h, List.singleton_append, rdv, if_neg (by omega), if_neg (by omega), if_neg (by omega)]; rfl
    · rw [leb_ge h, List.cons_append, rdv, if_neg (by omega), if_pos (by omega)]
      have hp : 128 ^ (k + 1) = 128 ^ k * 128 := Nat.pow_succ ..
      have hd : v = v / 128 * 128 + v % 128 := by omega
      have he : v * 128 ^ k = v / 128 * 128 ^ (k + 1) + v % 128 * 128 ^ k := by
        rw [hp, Nat.mul_comm (128 ^ k), ← Nat.mul_assoc, ← Nat.add_mul, ← hd]
      have hk9 : k ≠ 9 := fun e => by have := h9 e; omega
      rw [show (v % 128 + 128) % 128 = v % 128 by omega, ih (v / 128) (by omega) (v / 128) (Nat.le_refl _) (k + 1) _ r (by omega) (.inr (by omega)) (by omega), List.length_cons]
      refine Prod.ext ?_ (Prod.ext ?_ rfl)
      · simp only; omega
      · simp only; omega
theorem readV_leb {v : Nat} (h : v < 2 ^ 64) (r : List Nat) : readV (leb v ++ r) = (v, (leb v).length, 0) := by
  rw [readV_eq, rdv_leb v v (Nat.le_refl _) 0 0 r (by simpa using h) (.inl rfl) (by omega)]
  simp
/-- A number that was read is read again where more follows. -/
theorem rdv_more : ∀ (l : List Nat) (k acc : Nat) (c : List Nat), (rdv k acc l).2.2 = 0 → rdv k acc (l ++ c) = rdv k acc l
  | [], k, acc, c, h => by simp [rdv] at h
  | x :: r, k, acc, c, h => by
    rw [List.cons_append]
    simp only [rdv] at h ⊢
    split at h <;> rename_i h1
    · simp at h
    rw [if_neg h1, if_neg h1]
    split at h <;> rename_i h2
    · rw [if_pos h2, if_pos h2]; exact rdv_more r _ _ c h
    · rw [if_neg h2, if_neg h2]
theorem readV_more {l : List Nat} (c : List Nat) (h : (readV l).2.2 = 0) : readV (l ++ c) = readV l := by
  rw [readV_eq] at h
  rw [readV_eq, readV_eq, rdv_more l 0 0 c h]
/-- The bits of packed bits. -/
theorem pk_bits (l : List Nat) : (∀ x ∈ l, x < 2) → ∀ k, (pk l).getD (k / 8) 0 / 2 ^ (7 - k % 8) % 2 = l.getD k 0 := by
  induction l using snoc_ind with
  | h0 => intro _ k; simp [pk]
  | h1 l b ih =>
    intro hb k
    have ih := ih (fun x hx => hb x (by simp [hx]))
    have hb2 := hb b (by simp)
    have hk := pk_len l
    have e0 : (l ++ [b]).getD k 0 = if k = l.length then b else l.getD k 0 := by
      simp only [List.getD_eq_getElem?_getD, List.getElem?_append]
      by_cases h1 : k < l.length
      · rw [if_pos h1, if_neg (by omega)]
      · rw [if_neg h1]
        by_cases h2 : k = l.length
        · subst h2; simp
        · rw [if_neg h2, List.getElem?_eq_none (l := [b]) (by simp only [List.length_singleton]; omega), List.getElem?_eq_none (l := l) (by omega)]
    have key : ∀ (q m i : Nat), m < 8 → i < 8 → i ≠ m → (q * 2 ^ (8 - m) + b * 2 ^ (7 - m)) / 2 ^ (7 - i) % 2 = q * 2 ^ (8 - m) / 2 ^ (7 - i) % 2 := by
      intro q m i hm hi hne
      have e8 : 2 ^ (8 - m) = 2 * 2 ^ (7 - m) := by rw [← Nat.pow_succ']; congr 1; omega
      have eq1 : q * 2 ^ (8 - m) + b * 2 ^ (7 - m) = (2 * q + b) * 2 ^ (7 - m) := by rw [e8, ← Nat.mul_assoc, ← Nat.add_mul, Nat.mul_comm q 2]
      have eq2 : q * 2 ^ (8 - m) = (2 * q) * 2 ^ (7 - m) := by rw [e8, ← Nat.mul_assoc, Nat.mul_comm q 2]
      rw [eq1, eq2]
      by_cases him : i < m
      · have e7 : 2 ^ (7 - i) = 2 ^ (7 - m) * 2 ^ (m - i) := by rw [← Nat.pow_add]; congr 1; omega
        rw [e7, ← Nat.div_div_eq_div_mul, ← Nat.div_div_eq_div_mul, Nat.mul_div_cancel _ (Nat.two_pow_pos _), Nat.mul_div_cancel _ (Nat.two_pow_pos _)]
        have e1 : 2 ^ (m - i) = 2 * 2 ^ (m - i - 1) := by rw [← Nat.pow_succ']; congr 1; omega
        rw [e1, ← Nat.div_div_eq_div_mul, ← Nat.div_div_eq_div_mul, show (2 * q + b) / 2 = q by omega, show 2 * q / 2 = q by omega]
      · have e7 : 2 ^ (7 - m) = 2 ^ (i - m - 1) * 2 * 2 ^ (7 - i) := by rw [← Nat.pow_succ, ← Nat.pow_add]; congr 1; omega
        rw [e7, ← Nat.mul_assoc, ← Nat.mul_assoc (2 * q), Nat.mul_div_cancel _ (Nat.two_pow_pos _), Nat.mul_div_cancel _ (Nat.two_pow_pos _), ← Nat.mul_assoc, ← Nat.mul_assoc, Nat.mul_mod_left, Nat.mul_mod_left]
    have same : ∀ (q m : Nat), m < 8 → (q * 2 ^ (8 - m) + b * 2 ^ (7 - m)) / 2 ^ (7 - m) % 2 = b := by
      intro q m hm
      have e8 : 2 ^ (8 - m) = 2 * 2 ^ (7 - m) := by rw [← Nat.pow_succ']; congr 1; omega
      have eq1 : q * 2 ^ (8 - m) + b * 2 ^ (7 - m) = (2 * q + b) * 2 ^ (7 - m) := by rw [e8, ← Nat.mul_assoc, ← Nat.add_mul, Nat.mul_comm q 2]
      rw [eq1, Nat.mul_div_cancel _ (Nat.two_pow_pos _)]
      omega
    rw [e0, pk_snoc]
    by_cases h8 : l.length % 8 = 0
    · rw [if_pos h8]
      have e1 : (pk l ++ [b * 128]).getD (k / 8) 0 = if k / 8 = l.length / 8 then b * 128 else (pk l).getD (k / 8) 0 := by
        simp only [List.getD_eq_getElem?_getD, List.getElem?_append]
        by_cases h1 : k / 8 < (pk l).length
        · rw [if_pos h1, if_neg (by omega)]
        · rw [if_neg h1]
          by_cases h2 : k / 8 = l.length / 8
          · rw [if_pos h2, show k / 8 - (pk l).length = 0 by omega]; rfl
          · rw [if_neg h2, List.getElem?_eq_none (l := [b * 128]) (by simp only [List.length_singleton]; omega), List.getElem?_eq_none (l := pk l) (by omega)]
      rw [e1]
      by_cases h2 : k / 8 = l.length / 8
      · rw [if_pos h2]
        by_cases h3 : k = l.length
        · rw [if_pos h3]
          have := same 0 0 (by omega)
          rw [show k % 8 = 0 by omega]; simpa using this
        · rw [if_neg h3]
          have h4 : l.getD k 0 = 0 := by rw [List.getD_eq_getElem?_getD, List.getElem?_eq_none (by omega)]; rfl
          have := key 0 0 (k % 8) (by omega) (by omega) (by omega)
          rw [h4]; simpa using this
      · rw [if_neg h2, if_neg (fun e => h2 (by rw [e]))]
        exact ih k
    · rw [if_neg h8, getD_set]
      by_cases h2 : l.length / 8 = k / 8
      · rw [if_pos ⟨h2, by omega⟩]
        have hdiv : (pk l).getD (l.length / 8) 0 = (pr l).getD (l.length / 8) 0 * 2 ^ (8 - l.length % 8) := by
          have := pr_pk l (l.length / 8)
          rw [if_pos rfl, show (8 - l.length % 8) % 8 = 8 - l.length % 8 by omega] at this
          exact this
        have ihk := ih k
        rw [← h2, hdiv] at ihk
        rw [hdiv]
        by_cases h3 : k = l.length
        · rw [if_pos h3, h3]; exact same _ _ (by omega)
        · rw [if_neg h3, key _ _ (k % 8) (by omega) (by omega) (by omega)]
          exact ihk
      · rw [if_neg (fun h => h2 h.1), if_neg (fun e => h2 (by rw [e]))]
        exact ih k
theorem unb_pk {l : List Nat} (h : ∀ x ∈ l, x < 2) : unb (pk l) = l ++ List.replicate (8 * ((l.length + 7) / 8) - l.length) 0 := by
  refine ext_getD (by rw [unb_len, pk_len, List.length_append, List.length_replicate]; omega) (fun k => ?_)
  have e1 : (unb (pk l)).getD k 0 = (pk l).getD (k / 8) 0 / 2 ^ (7 - k % 8) % 2 := by
    by_cases hk : k / 8 < (pk l).length
    · rw [List.getD_eq_getElem?_getD, unb_get _ _ hk, getD_get hk]; rfl
    · rw [List.getD_eq_getElem?_getD, List.getElem?_eq_none (by rw [unb_len]; omega), List.getD_eq_getElem?_getD, List.getElem?_eq_none (by omega)]; simp
  rw [e1, pk_bits l h]
  simp only [List.getD_eq_getElem?_getD, List.getElem?_append]
  by_cases hk : k < l.length
  · rw [if_pos hk]
  · rw [if_neg hk, List.getElem?_eq_none (by omega), List.getElem?_replicate]
    split <;> rfl
end Go.Ck

set_option linter.unusedVariables false
namespace Go.Ck
theorem flat_dropN {α : Type} (f : α → List Nat) (w : Nat) (hf : ∀ x, (f x).length = w) : ∀ (xs : List α) (i : Nat), (xs.flatMap f).drop (w * i) = (xs.drop i).flatMap f
  | xs, 0 => by simp
  | [], i + 1 => by simp
  | x :: r, i + 1 => by
    rw [List.flatMap_cons, List.drop_succ_cons, Nat.mul_succ, Nat.add_comm, ← List.drop_drop, ← hf x, List.drop_left, hf x, flat_dropN f w hf r i]
theorem flat_takeN {α : Type} (f : α → List Nat) (w : Nat) (hf : ∀ x, (f x).length = w) (xs : List α) (c : List Nat) (i : Nat) (h : i < xs.length) : ((xs.flatMap f ++ c).drop (w * i)).take w = f xs[i] := by
  have hlen : w * i ≤ (xs.flatMap f).length := by
    have e : (xs.flatMap f).length = w * xs.length := by
      clear h
      induction xs with
      | nil => simp
      | cons x r ih => rw [List.flatMap_cons, List.length_append, hf, ih, List.length_cons, Nat.mul_succ, Nat.add_comm]
    rw [e]; exact Nat.mul_le_mul_left _ (by omega)
  rw [List.drop_append_of_le_length hlen, flat_dropN f w hf, List.drop_eq_getElem_cons h, List.flatMap_cons, List.append_assoc, ← hf xs[i], List.take_left]
end Go.Ck

set_option linter.unusedVariables false
namespace Go.Ck
theorem getB_more {B : List Nat} (C : List Nat) {k n : Nat} (h : k + n ≤ B.length) : getB (B ++ C) k n = getB B k n := by
  unfold getB
  rw [List.drop_append_of_le_length (by omega), List.take_append_of_le_length (by simp; omega)]
end Go.Ck

set_option linter.unusedVariables false
namespace Go.Ck
/-- The lowest bits of an int. -/
theorem and_low (c : Int) (k : Nat) (hk : k ≤ 62) : ∃ m : Nat, m < 2 ^ k ∧ ibits .and .i64 c ((2 ^ k - 1 : Nat) : Int) = (m : Int) := by
  refine ⟨(BitVec.ofInt 64 c).toNat % 2 ^ k, Nat.mod_lt _ (Nat.two_pow_pos k), ?_⟩
  have h1 : 2 ^ k ≤ 2 ^ 62 := Nat.pow_le_pow_right (by omega) hk
  have h0 := Nat.two_pow_pos k
  simp only [ibits, ofInt_nat, BitVec.toNat_and, BitVec.toNat_ofNat]
  rw [show IntKind.i64.bits = 64 from rfl, Nat.mod_eq_of_lt (a := 2 ^ k - 1) (by omega), Nat.and_two_pow_sub_one_eq_mod]
  have h2 := Nat.mod_lt (BitVec.ofInt 64 c).toNat h0
  exact wrap_i64_nat (by omega)
end Go.Ck

set_option linter.unusedVariables false
namespace Go.Ck
def zig (n : Int) : Nat := if 0 ≤ n then (2 * n).toNat else (2 * (-(n + 1)) + 1).toNat
def zag (v : Nat) : Int := if v % 2 = 0 then ((v / 2 : Nat) : Int) else -((v / 2 : Nat) : Int) - 1
def i64r (n : Int) : Prop := -2 ^ 63 ≤ n ∧ n < 2 ^ 63
theorem zig_lt {n : Int} (h : i64r n) : zig n < 2 ^ 64 := by unfold i64r at h; unfold zig; split <;> omega
theorem zag_zig {n : Int} : zag (zig n) = n := by
  unfold zig
  split
  · unfold zag; rw [if_pos (by omega)]; omega
  · unfold zag; rw [if_neg (by omega)]; omega
theorem zag_r {v : Nat} (h : v < 2 ^ 64) : i64r (zag v) := by unfold zag i64r; split <;> omega
theorem xor_ones {a : Nat} (h : a < 2 ^ 64) : ibits .xor .u64 (a : Int) ((2 ^ 64 - 1 : Nat) : Int) = ((2 ^ 64 - 1 - a : Nat) : Int) := by
  have e : (BitVec.ofNat 64 (2 ^ 64 - 1)) = BitVec.allOnes 64 := by decide
  simp only [ibits, ofInt_nat]
  rw [show IntKind.u64.bits = 64 from rfl, e, BitVec.xor_allOnes, BitVec.toNat_not, BitVec.toNat_ofNat, Nat.mod_eq_of_lt h, wrap_u64_lt (by omega)]
theorem xor_zero {a : Nat} (h : a < 2 ^ 64) : ibits .xor .u64 (a : Int) 0 = (a : Int) := by
  have := ibits_xor64 (a := a) (b := 0) h (by omega)
  simpa using this
theorem wrap_i64_r (n : Int) : i64r (IntKind.i64.wrap n) := by rw [IntKind.wrap_i64]; unfold i64r; omega
theorem zig_val {n : Int} (h : i64r n) : ibits .xor .u64 (shlI .u64 (IntKind.u64.wrap n) 1) (IntKind.u64.wrap (shrI .i64 n 63)) = (zig n : Int) := by
  have h1 : IntKind.u64.wrap n = ((n % 2 ^ 64).toNat : Int) := by rw [IntKind.wrap_u64]; omega
  have hs : shrI .i64 n 63 = if 0 ≤ n then 0 else -1 := by
    unfold i64r at h
    unfold shrI
    have e : (2 : Int) ^ (min (63 : Int).toNat IntKind.i64.bits) = 9223372036854775808 := by decide
    rw [e, Int.fdiv_eq_ediv_of_nonneg _ (by omega)]
    split <;> omega
  have h2 := shlI_nat64 (n % 2 ^ 64).toNat 1 (by omega)
  rw [h1, hs]
  rw [show ((1 : Nat) : Int) = 1 from rfl] at h2
  rw [h2]
  unfold i64r at h
  by_cases h0 : 0 ≤ n
  · rw [if_pos h0, show IntKind.u64.wrap 0 = 0 by decide, xor_zero (Nat.mod_lt _ (by omega))]
    unfold zig; rw [if_pos h0]; omega
  · rw [if_neg h0, show IntKind.u64.wrap (-1) = ((2 ^ 64 - 1 : Nat) : Int) by decide, xor_ones (Nat.mod_lt _ (by omega))]
    unfold zig; rw [if_neg h0]; omega
theorem xor_i64 {a : Nat} (h : a < 2 ^ 63) : ibits .xor .i64 (a : Int) (-1) = -(a : Int) - 1 := by
  have e : (BitVec.ofInt 64 (-1)) = BitVec.allOnes 64 := by decide
  simp only [ibits, ofInt_nat]
  rw [show IntKind.i64.bits = 64 from rfl, e, BitVec.xor_allOnes, BitVec.toNat_not, BitVec.toNat_ofNat, Nat.mod_eq_of_lt (by omega), IntKind.wrap_i64]
  omega
theorem xor_i64_0 {a : Nat} (h : a < 2 ^ 63) : ibits .xor .i64 (a : Int) 0 = (a : Int) := by
  have e : (BitVec.ofInt 64 0) = 0#64 := by decide
  simp only [ibits, ofInt_nat]
  rw [show IntKind.i64.bits = 64 from rfl, e, BitVec.xor_zero, BitVec.toNat_ofNat, Nat.mod_eq_of_lt (by omega), wrap_i64_nat h]
theorem zag_val {v : Nat} (h : v < 2 ^ 64) : ibits .xor .i64 (IntKind.i64.wrap (shrI .u64 (v : Int) 1)) (IntKind.i64.wrap (0 - IntKind.i64.wrap (ibits .and .u64 (v : Int) 1))) = zag v := by
  have h1 := shrI_nat .u64 v 1 (by decide)
  rw [show ((1 : Nat) : Int) = 1 from rfl] at h1
  rw [h1, and_one h, wrap_i64_nat (n := v / 2 ^ 1) (by omega), wrap_i64_nat (n := v % 2) (by omega)]
  unfold zag
  by_cases h0 : v % 2 = 0
  · rw [h0, if_pos rfl, show IntKind.i64.wrap (0 - ((0 : Nat) : Int)) = 0 by decide]
    exact xor_i64_0 (by omega)
  · rw [if_neg h0, show v % 2 = 1 by omega, show IntKind.i64.wrap (0 - ((1 : Nat) : Int)) = -1 by decide]
    exact xor_i64 (by omega)
/-- What lies between numbers, behind one that stands ahead. -/
def dif : Int → List Int → List Int
  | _, [] => []
  | p, x :: r => IntKind.i64.wrap (x - p) :: dif x r
def acc : Int → List Int → List Int
  | _, [] => []
  | p, x :: r => IntKind.i64.wrap (x + p) :: acc (IntKind.i64.wrap (x + p)) r
theorem dif_len : ∀ (p : Int) (l : List Int), (dif p l).length = l.length
  | _, [] => rfl
  | p, x :: r => by simp [dif, dif_len x r]
theorem acc_len : ∀ (p : Int) (l : List Int), (acc p l).length = l.length
  | _, [] => rfl
  | p, x :: r => by simp [acc, acc_len _ r]
theorem dif_r : ∀ (p : Int) (l : List Int), ∀ x ∈ dif p l, i64r x
  | _, [] => by simp [dif]
  | p, x :: r => by
    intro y hy
    rcases List.mem_cons.1 hy with rfl | hy
    · exact wrap_i64_r _
    · exact dif_r x r y hy
theorem acc_r : ∀ (p : Int) (l : List Int), ∀ x ∈ acc p l, i64r x
  | _, [] => by simp [acc]
  | p, x :: r => by
    intro y hy
    rcases List.mem_cons.1 hy with rfl | hy
    · exact wrap_i64_r _
    · exact acc_r _ r y hy
theorem acc_dif : ∀ (p : Int) (l : List Int), (∀ x ∈ l, i64r x) → acc p (dif p l) = l
  | _, [], _ => rfl
  | p, x :: r, h => by
    have hx := h x (by simp)
    have e : IntKind.i64.wrap (IntKind.i64.wrap (x - p) + p) = x := by
      rw [IntKind.wrap_i64, IntKind.wrap_i64]; unfold i64r at hx; omega
    rw [dif, acc, e, acc_dif x r (fun y hy => h y (by simp [hy]))]
/-- From place j + 1 on. -/
def stepD (j : Nat) (l : List Int) : List Int := l.take (j + 1) ++ dif (l.getD j 0) (l.drop (j + 1))
def stepA (j : Nat) (l : List Int) : List Int := l.take (j + 1) ++ acc (l.getD j 0) (l.drop (j + 1))
theorem stepD_len (j : Nat) (l : List Int) : (stepD j l).length = l.length := by simp [stepD, dif_len]; omega
theorem stepA_len (j : Nat) (l : List Int) : (stepA j l).length = l.length := by simp [stepA, acc_len]; omega
theorem step_parts {l d : List Int} {j : Nat} (hd : d.length = l.length - (j + 1)) : (l.take (j + 1) ++ d).take (j + 1) = l.take (j + 1) ∧ (l.take (j + 1) ++ d).drop (j + 1) = d ∧ (l.take (j + 1) ++ d).getD j 0 = l.getD j 0 := by
  by_cases h : j + 1 ≤ l.length
  · have hl : (l.take (j + 1)).length = j + 1 := by simp; omega
    refine ⟨?_, ?_, ?_⟩
    · rw [List.take_append_of_le_length (by omega), List.take_of_length_le (l := l.take (j + 1)) (by omega)]
    · rw [List.drop_append_of_le_length (by omega), List.drop_of_length_le (l := l.take (j + 1)) (by omega), List.nil_append]
    · rw [List.getD_eq_getElem?_getD, List.getElem?_append_left (by omega), List.getElem?_take, if_pos (by omega), List.getD_eq_getElem?_getD]
  · have hd0 : d = [] := List.length_eq_zero_iff.1 (by omega)
    subst hd0
    have ht : l.take (j + 1) = l := List.take_of_length_le (by omega)
    rw [List.append_nil, ht]
    exact ⟨ht, List.drop_of_length_le (by omega), rfl⟩
theorem stepA_D (j : Nat) {l : List Int} (h : ∀ x ∈ l, i64r x) : stepA j (stepD j l) = l := by
  obtain ⟨h1, h2, h3⟩ := step_parts (l := l) (d := dif (l.getD j 0) (l.drop (j + 1))) (j := j) (by rw [dif_len]; simp)
  rw [stepA, stepD, h1, h2, h3, acc_dif _ _ (fun x hx => h x (List.mem_of_mem_drop hx)), List.take_append_drop]
theorem stepD_r (j : Nat) {l : List Int} (h : ∀ x ∈ l, i64r x) : ∀ x ∈ stepD j l, i64r x := by
  intro x hx
  rcases List.mem_append.1 hx with hx | hx
  · exact h x (List.mem_of_mem_take hx)
  · exact dif_r _ _ x hx
theorem stepA_r (j : Nat) {l : List Int} (h : ∀ x ∈ l, i64r x) : ∀ x ∈ stepA j l, i64r x := by
  intro x hx
  rcases List.mem_append.1 hx with hx | hx
  · exact h x (List.mem_of_mem_take hx)
  · exact acc_r _ _ x hx
def diffS (l : List Int) : Nat → List Int
  | 0 => l
  | k + 1 => stepD k (diffS l k)
def sumS (l : List Int) : Nat → List Int
  | 0 => l
  | k + 1 => sumS (stepA k l) k
theorem diffS_len (l : List Int) : ∀ k, (diffS l k).length = l.length
  | 0 => rfl
  | k + 1 => by rw [diffS, stepD_len, diffS_len l k]
theorem sumS_len : ∀ (k : Nat) (l : List Int), (sumS l k).length = l.length
  | 0, l => rfl
  | k + 1, l => by rw [sumS, sumS_len k, stepA_len]
theorem diffS_r {l : List Int} (h : ∀ x ∈ l, i64r x) : ∀ k, ∀ x ∈ diffS l k, i64r x
  | 0 => h
  | k + 1 => stepD_r k (diffS_r h k)
theorem sumS_r : ∀ (k : Nat) {l : List Int} (h : ∀ x ∈ l, i64r x), ∀ x ∈ sumS l k, i64r x
  | 0, l, h => h
  | k + 1, l, h => sumS_r k (stepA_r k h)
theorem sum_diff : ∀ (k : Nat) {l : List Int}, (∀ x ∈ l, i64r x) → sumS (diffS l k) k = l
  | 0, l, h => rfl
  | k + 1, l, h => by rw [diffS, sumS, stepA_D k (diffS_r h k), sum_diff k h]
theorem stepD_big {l : List Int} {j : Nat} (h : l.length ≤ j + 1) : stepD j l = l := by
  rw [stepD, List.take_of_length_le h, List.drop_of_length_le h]; simp [dif]
theorem stepA_big {l : List Int} {j : Nat} (h : l.length ≤ j + 1) : stepA j l = l := by
  rw [stepA, List.take_of_length_le h, List.drop_of_length_le h]; simp [acc]
/-- Steps that find nothing behind their place. -/
theorem diffS_min (l : List Int) : ∀ k, diffS l k = diffS l (min k l.length)
  | 0 => by simp
  | k + 1 => by
    by_cases h : k + 1 ≤ l.length
    · rw [Nat.min_eq_left h]
    · rw [diffS, stepD_big (by rw [diffS_len]; omega), diffS_min l k, Nat.min_eq_right (by omega), Nat.min_eq_right (by omega)]
theorem sumS_min : ∀ (k : Nat) (l : List Int), sumS l k = sumS l (min k l.length)
  | 0, l => by simp
  | k + 1, l => by
    by_cases h : k + 1 ≤ l.length
    · rw [Nat.min_eq_left h]
    · rw [sumS, stepA_big (by omega), sumS_min k l, Nat.min_eq_right (by omega), Nat.min_eq_right (by omega)]
end Go.Ck
namespace Go.Ck
/-- How often a way takes differences. -/
def oft (t : Nat) : Nat := if t = 0 then 0 else if t = 3 ∨ t = 4 then 2 else 1
theorem oft_le (t : Nat) : oft t ≤ 3 := by unfold oft; split <;> (try split) <;> omega
end Go.Ck

set_option linter.unusedVariables false
set_option maxRecDepth 10000
set_option maxHeartbeats 1000000
namespace Go.Ck
open Go.Proofs
theorem clone_ints (l : List Int) (hl : l.length ≤ 2 ^ 40) : Fn Try.prog 40 [] [.pv (.sl 1 (ints l))] (fun rs H' => rs = [.own 3 (ints l)] ∧ H' = []) := by
  refine Fn.of_body (fn := Try.f40) (n := 8) (res := [.tmp 2]) (by kernel_rfl) rfl rfl rfl rfl rfl (fun C => ?_)
  have hr : room = 140737488355328 := rfl
  refine AW.go ?_
  refine AW.eqNil (.inl rfl) rfl rfl rfl tk_22 (by simp only [go_sem, ↓reduceIte] <;> rfl) rfl rfl rfl (fun b hb => ?_)
  refine AW.go ?_
  refine AW.cond (b := b) (by simp only [go_sem, ↓reduceIte] <;> rfl) (fun h1 => ?_) (fun h1 => ?_)
  · have hx : l = [] := by simpa [ints] using hb h1
    subst hx
    refine AW.go ?_
    refine AW.finE (.move rfl .nil) rfl
  · have h2 : l.length * 8 ≤ room := by omega
    have h3 : l.length ≤ room := by omega
    refine AW.go ?_ (by simp only [go_sem, ↓reduceIte, h2, h3] <;> rfl)
    refine AW.finE (.move rfl .nil) rfl
theorem zig_fn (n : Int) (h : i64r n) : Fn Try.prog 22 [] [.pv (.int .i64 n)] (fun rs H' => rs = [.pv (.int .u64 (zig n : Nat))] ∧ H' = []) := by
  refine Fn.of_body (fn := Try.f22) (n := 10) (res := [.tmp 2]) (by kernel_rfl) rfl rfl rfl rfl rfl (fun C => ?_)
  have e := zig_val h
  refine AW.go ?_ (by simp only [go_sem, ↓reduceIte, e] <;> rfl)
  refine AW.finE (.pv _ .nil) rfl
theorem zag_fn (v : Nat) (h : v < 2 ^ 64) : Fn Try.prog 34 [] [.pv (.int .u64 v)] (fun rs H' => rs = [.pv (.int .i64 (zag v))] ∧ H' = []) := by
  refine Fn.of_body (fn := Try.f34) (n := 11) (res := [.tmp 2]) (by kernel_rfl) rfl rfl rfl rfl rfl (fun C => ?_)
  have e := zag_val h
  refine AW.go ?_ (by simp only [go_sem, ↓reduceIte, e] <;> rfl)
  refine AW.finE (.pv _ .nil) rfl
theorem refZig_fn (n : Int) (h : i64r n) : Fn Try.prog 47 [] [.pv (.int .i64 n)] (fun rs H' => rs = [.pv (.int .u64 (zig n : Nat))] ∧ H' = []) := by
  refine Fn.of_body (fn := Try.f47) (n := 14) (res := [.tmp 2]) (by kernel_rfl) rfl rfl rfl rfl rfl (fun C => ?_)
  unfold i64r at h
  refine AW.go ?_
  refine AW.cond rfl (fun hc => ?_) (fun hc => ?_)
  · have h0 : 0 ≤ n := by simpa using hc
    have e : IntKind.u64.wrap (2 * IntKind.u64.wrap n) = (zig n : Nat) := by
      unfold zig; rw [if_pos h0, IntKind.wrap_u64, IntKind.wrap_u64]; omega
    refine AW.go ?_ (by simp only [go_sem, ↓reduceIte, e] <;> rfl)
    refine AW.finE (.pv _ .nil) rfl
  · have h0 : ¬ 0 ≤ n := by simp at hc; omega
    have e : IntKind.u64.wrap (IntKind.u64.wrap (2 * IntKind.u64.wrap (IntKind.i64.wrap (0 - IntKind.i64.wrap (n + 1)))) + 1) = (zig n : Nat) := by
      unfold zig; rw [if_neg h0, wrap_i64_of (n := n + 1) (by omega) (by omega), wrap_i64_of (by omega) (by omega), IntKind.wrap_u64, IntKind.wrap_u64, IntKind.wrap_u64]; omega
    refine AW.go ?_ (by simp only [go_sem, ↓reduceIte, e] <;> rfl)
    refine AW.finE (.pv _ .nil) rfl
theorem refZag_fn (v : Nat) (h : v < 2 ^ 64) : Fn Try.prog 38 [] [.pv (.int .u64 v)] (fun rs H' => rs = [.pv (.int .i64 (zag v))] ∧ H' = []) := by
  refine Fn.of_body (fn := Try.f38) (n := 14) (res := [.tmp 2]) (by kernel_rfl) rfl rfl rfl rfl rfl (fun C => ?_)
  have e1 : Int.tmod (v : Int) 2 = ((v % 2 : Nat) : Int) := rfl
  have e2 : Int.tdiv (v : Int) 2 = ((v / 2 : Nat) : Int) := rfl
  have e3 : IntKind.u64.wrap ((v / 2 : Nat) : Int) = ((v / 2 : Nat) : Int) := wrap_u64_lt (by omega)
  have e4 : IntKind.i64.wrap ((v / 2 : Nat) : Int) = ((v / 2 : Nat) : Int) := wrap_i64_nat (by omega)
  refine AW.go ?_ (by simp only [go_sem, ↓reduceIte, e1] <;> rfl)
  refine AW.cond rfl (fun hc => ?_) (fun hc => ?_)
  · have h0 : v % 2 = 0 := by simp at hc; omega
    have e : zag v = ((v / 2 : Nat) : Int) := by unfold zag; rw [if_pos h0]
    rw [e]
    refine AW.go ?_ (by simp only [go_sem, ↓reduceIte, e2, e3, e4] <;> rfl)
    refine AW.finE (.pv _ .nil) rfl
  · have h0 : ¬ v % 2 = 0 := by simp at hc; omega
    have e : zag v = -((v / 2 : Nat) : Int) - 1 := by unfold zag; rw [if_neg h0]
    have e5 : IntKind.i64.wrap (IntKind.i64.wrap (0 - ((v / 2 : Nat) : Int)) - 1) = zag v := by rw [e, wrap_i64_of (n := 0 - ((v / 2 : Nat) : Int)) (by omega) (by omega), wrap_i64_of (by omega) (by omega)]; omega
    refine AW.go ?_ (by simp only [go_sem, ↓reduceIte, e2, e3, e4, e5] <;> rfl)
    refine AW.finE (.pv _ .nil) rfl
theorem often_fn (t : Nat) : Fn Try.prog 20 [] [.pv (.int .i64 t)] (fun rs H' => rs = [.pv (.int .i64 (oft t : Nat))] ∧ H' = []) := by
  refine Fn.of_body (fn := Try.f20) (n := 10) (res := [.tmp 2]) (by kernel_rfl) rfl rfl rfl rfl rfl (fun C => ?_)
  unfold oft
  refine AW.go ?_
  refine AW.cond rfl (fun hc => ?_) (fun hc => ?_)
  · have h0 : t = 0 := by simpa using hc
    rw [if_pos h0]
    refine AW.go ?_
    refine AW.finE (.pv _ .nil) rfl
  have h0 : ¬ t = 0 := by simpa using hc
  rw [if_neg h0]
  refine AW.go ?_
  refine AW.cond rfl (fun hc => ?_) (fun hc => ?_)
  · have h3 : t = 3 := by simp at hc; omega
    rw [if_pos (.inl h3)]
    refine AW.go ?_
    refine AW.finE (.pv _ .nil) rfl
  have h3 : ¬ t = 3 := by simp at hc; omega
  refine AW.go ?_
  refine AW.cond rfl (fun hc => ?_) (fun hc => ?_)
  · have h4 : t = 4 := by simp at hc; omega
    rw [if_pos (.inr h4)]
    refine AW.go ?_
    refine AW.finE (.pv _ .nil) rfl
  have h4 : ¬ t = 4 := by simp at hc; omega
  rw [if_neg (fun h => h.elim h3 h4)]
  refine AW.go ?_
  refine AW.finE (.pv _ .nil) rfl
theorem ref04Same_fn (a b : List Int) (hl : a.length ≤ room) : Fn Try.prog 18 [] [.pv (.sl 1 (ints a)), .pv (.sl 1 (ints b))] (fun rs H' => rs = [.pv (.bool (decide (a = b)))] ∧ H' = []) := by
  refine Fn.of_body (fn := Try.f18) (n := 26) (res := [.tmp 4]) (by kernel_rfl) rfl rfl rfl rfl rfl (fun C => ?_)
  have hr : room < 2 ^ 62 := by decide
  refine AW.go ?_
  refine AW.cond rfl (fun hc => ?_) (fun hc => ?_)
  · have hne : a ≠ b := by rintro rfl; simp at hc
    refine AW.go ?_
    refine AW.finE (.pv _ .nil) ?_
    rw [decide_eq_false hne]
  have hlen : a.length = b.length := by simp at hc; omega
  refine AW.go ?_
  refine AW.loopS (fun i : Nat => ⟨26, [(5, .pv (.int .i64 i)), (0, .pv (.sl 1 (ints a))), (1, .pv (.sl 1 (ints b)))], []⟩) (fun i => i ≤ a.length ∧ a.take i = b.take i) (fun i => a.length - i) [5, 0, 1] [] 0 ⟨Nat.zero_le _, rfl⟩ ?_
  rintro i ⟨hi, ht⟩ K hK
  refine AW.go ?_
  refine AW.cond rfl (fun hc => ?_) (fun hc => ?_)
  · have hlt : i < a.length := by simpa using hc
    have hlt2 : i < b.length := by omega
    have h1 := ints_get hlt
    have h2 := ints_get hlt2
    have ei : IntKind.i64.wrap ((i : Int) + 1) = ((i + 1 : Nat) : Int) := wrap_i64_succ (by omega)
    refine AW.go ?_
    refine AW.sr mixed (by decide +kernel) ?_ (by simp only [go_sem, ↓reduceIte, h1, h2] <;> rfl)
    refine AW.go ?_
    refine AW.cond rfl (fun hc => ?_) (fun hc => ?_)
    · have hne : a ≠ b := by rintro rfl; simp at hc
      refine AW.go ?_
      refine AW.finE (.pv _ .nil) ?_
      rw [decide_eq_false hne]
    · have he : a[i] = b[i] := by simpa using hc
      refine AW.go ?_ (by simp only [go_sem, ↓reduceIte, ei] <;> rfl)
      refine AW.again hK (i + 1) ⟨hlt, ?_⟩ (by omega)
      rw [List.take_succ_eq_append_getElem hlt, List.take_succ_eq_append_getElem hlt2, ht, he]
  · have hge : ¬ i < a.length := by simpa using hc
    rw [List.take_of_length_le (by omega), List.take_of_length_le (by omega)] at ht
    refine AW.go ?_
    refine AW.finE (.pv _ .nil) ?_
    rw [decide_eq_true ht]
end Go.Ck

set_option linter.unusedVariables false
namespace Go.Ck
theorem ints_set (l : List Int) (i : Nat) (n : Int) : (ints l).set i (.int .i64 n) = ints (l.set i n) := by simp [ints, List.map_set]
def spl {α : Type} (D M : List α) (i : Nat) : List α := D.take i ++ M.drop i
section
variable {α : Type} {D M : List α}
theorem spl_len (h : D.length = M.length) (i : Nat) : (spl D M i).length = M.length := by
  unfold spl; rw [List.length_append, List.length_take, List.length_drop]; omega
theorem spl_all (h : D.length = M.length) {i : Nat} (hi : M.length ≤ i) : spl D M i = D := by
  unfold spl; rw [List.take_of_length_le (by omega), List.drop_of_length_le hi, List.append_nil]
theorem spl_get (h : D.length = M.length) {i : Nat} (hi : i < M.length) : (spl D M i)[i]? = M[i]? := by
  unfold spl; rw [List.getElem?_append_right (by simp; omega), List.getElem?_drop]; congr 1; simp; omega
theorem spl_get1 (h : D.length = M.length) {i k : Nat} (hi : i ≤ M.length) (hk : k < i) : (spl D M i)[k]? = D[k]? := by
  unfold spl; rw [List.getElem?_append_left (by simp; omega), List.getElem?_take, if_pos hk]
theorem spl_set (h : D.length = M.length) {i : Nat} (hi : i < M.length) {x : α} (hx : D[i]? = some x) : (spl D M i).set i x = spl D M (i + 1) := by
  have hl : (D.take i).length = i := by simp; omega
  unfold spl
  rw [List.set_append_right i x (by omega), hl, Nat.sub_self, List.drop_eq_getElem_cons hi, List.set_cons_zero, List.take_add_one, hx]
  simp
end
theorem dif_get : ∀ (l : List Int) (p : Int) (k : Nat) (x : Int), l[k]? = some x → (dif p l)[k]? = some (IntKind.i64.wrap (x - (if k = 0 then p else l.getD (k - 1) 0)))
  | [], p, k, x, h => by simp at h
  | y :: r, p, 0, x, h => by simp at h; subst h; simp [dif]
  | y :: r, p, k + 1, x, h => by
    have := dif_get r y k x (by simpa using h)
    rw [dif, List.getElem?_cons_succ, this]
    congr 3
    cases k with
    | zero => simp
    | succ k => simp
theorem acc_get : ∀ (l : List Int) (p : Int) (k : Nat) (x : Int), l[k]? = some x → (acc p l)[k]? = some (IntKind.i64.wrap (x + (if k = 0 then p else (acc p l).getD (k - 1) 0)))
  | [], p, k, x, h => by simp at h
  | y :: r, p, 0, x, h => by simp at h; subst h; simp [acc]
  | y :: r, p, k + 1, x, h => by
    have := acc_get r (IntKind.i64.wrap (y + p)) k x (by simpa using h)
    rw [acc, List.getElem?_cons_succ, this]
    congr 3
    cases k with
    | zero => simp
    | succ k => simp
theorem stepD_get {l : List Int} {j i : Nat} (h : j < i) (hi : i < l.length) : (stepD j l)[i]? = some (IntKind.i64.wrap (l.getD i 0 - l.getD (i - 1) 0)) := by
  have hl : (l.take (j + 1)).length = j + 1 := by simp; omega
  have hx : (l.drop (j + 1))[i - (j + 1)]? = some (l.getD i 0) := by
    rw [List.getElem?_drop, show j + 1 + (i - (j + 1)) = i by omega, List.getD_eq_getElem?_getD, List.getElem?_eq_getElem hi]; rfl
  rw [stepD, List.getElem?_append_right (by omega), hl, dif_get _ _ _ _ hx]
  congr 3
  split
  · rw [show i - 1 = j by omega]
  · rw [List.getD_eq_getElem?_getD, List.getElem?_drop, List.getD_eq_getElem?_getD, show j + 1 + (i - (j + 1) - 1) = i - 1 by omega]
theorem stepA_get {l : List Int} {j i : Nat} (h : j < i) (hi : i < l.length) : (stepA j l)[i]? = some (IntKind.i64.wrap (l.getD i 0 + (stepA j l).getD (i - 1) 0)) := by
  have hl : (l.take (j + 1)).length = j + 1 := by simp; omega
  have hx : (l.drop (j + 1))[i - (j + 1)]? = some (l.getD i 0) := by
    rw [List.getElem?_drop, show j + 1 + (i - (j + 1)) = i by omega, List.getD_eq_getElem?_getD, List.getElem?_eq_getElem hi]; rfl
  have e : (if i - (j + 1) = 0 then l.getD j 0 else (acc (l.getD j 0) (l.drop (j + 1))).getD (i - (j + 1) - 1) 0) = (stepA j l).getD (i - 1) 0 := by
    rw [stepA, List.getD_eq_getElem?_getD (l := l.take (j + 1) ++ _)]
    split
    · rw [List.getElem?_append_left (by omega), List.getElem?_take, if_pos (by omega), show i - 1 = j by omega, List.getD_eq_getElem?_getD]
    · rw [List.getElem?_append_right (by omega), hl, List.getD_eq_getElem?_getD, show i - 1 - (j + 1) = i - (j + 1) - 1 by omega]
  rw [stepA, List.getElem?_append_right (by omega), hl, acc_get _ _ _ _ hx, e, stepA]
theorem stepD_head {l : List Int} {j i : Nat} (h : i ≤ j) (hi : i < l.length) : (stepD j l)[i]? = l[i]? := by
  rw [stepD, List.getElem?_append_left (by simp; omega), List.getElem?_take, if_pos (by omega)]
theorem stepD_spl (j : Nat) (l : List Int) : spl (stepD j l) l (j + 1) = l := by
  unfold spl
  rw [show (stepD j l).take (j + 1) = l.take (j + 1) from (step_parts (l := l) (j := j) (by rw [dif_len]; simp)).1, List.take_append_drop]
theorem stepA_spl (j : Nat) (l : List Int) : spl (stepA j l) l (j + 1) = l := by
  unfold spl
  rw [show (stepA j l).take (j + 1) = l.take (j + 1) from (step_parts (l := l) (j := j) (by rw [acc_len]; simp)).1, List.take_append_drop]
theorem getDi {l : List Int} {i : Nat} (h : i < l.length) : l[i]? = some (l.getD i 0) := by rw [List.getD_eq_getElem?_getD, List.getElem?_eq_getElem h]; rfl
theorem ints_at {l : List Int} {i : Nat} {x : Int} (h : l[i]? = some x) : (ints l)[i]? = some (.int .i64 x) := by unfold ints; rw [List.getElem?_map, h]; rfl
end Go.Ck

set_option linter.unusedVariables false
set_option maxRecDepth 10000
set_option maxHeartbeats 1000000
namespace Go.Ck
open Go.Proofs
attribute [go_sem] ints_set
theorem step_fn (n p : Int) : Fn Try.prog 62 [(1000, .cells 3 [.pv (.int .i64 p)])] [.pv (.int .i64 n), .ptr 1000 0] (fun rs H' => rs = [.pv (.int .i64 (IntKind.i64.wrap (n - p)))] ∧ H' = [(1000, .cells 3 [.pv (.int .i64 n)])]) := by
  refine Fn.of_body (fn := Try.f62) (n := 10) (res := [.tmp 3]) (by kernel_rfl) rfl rfl rfl rfl rfl (fun C => ?_)
  refine AW.go ?_
  refine AW.finE (.pv _ .nil) rfl
theorem between_fn (p : Int) : Fn Try.prog 41 [] [.pv (.int .i64 p)] (fun rs H' => rs = [.fn 62 [.ptr 3 0]] ∧ H' = [(3, .cells 3 [.pv (.int .i64 p)])]) := by
  refine Fn.of_body (fn := Try.f41) (n := 6) (res := [.tmp 2]) (by kernel_rfl) rfl rfl rfl rfl rfl (fun C => ?_)
  refine AW.go ?_
  refine AW.finE (.fn rfl .nil) rfl

theorem diff_fn (l : List Int) (k : Nat) (hk : k ≤ 3) (hl : l.length ≤ 2 ^ 40) : Fn Try.prog 19 [] [.pv (.sl 1 (ints l)), .pv (.int .i64 k)] (fun rs H' => rs = [.own 3 (ints (diffS l k)), .pv (.int .i64 0)] ∧ H' = []) := by
  refine Fn.of_body (fn := Try.f19) (n := 49) (res := [.tmp 4, .tmp 5]) (by kernel_rfl) rfl rfl rfl rfl rfl (fun C => ?_)
  have hr : room = 140737488355328 := rfl
  have d1 : decide ((k : Int) > 3) = false := decide_eq_false (by omega)
  refine AW.gg ?_ (by simp only [go_sem, ↓reduceIte, d1] <;> rfl)
  refine AW.condF rfl ?_
  refine AW.go ?_
  refine AW.callE (fun _ => 0) (clone_ints l hl) (.pv _ .nil) ?_
  have em : (if (l.length : Int) < (k : Int) then (l.length : Int) else (k : Int)) = ((min k l.length : Nat) : Int) := by split <;> omega
  have em2 : (if l.length < k then ((l.length : Nat) : Int) else (k : Int)) = ((min k l.length : Nat) : Int) := by split <;> omega
  refine AW.go ?_ (by simp only [go_sem, ↓reduceIte, em, em2] <;> rfl)
  rw [diffS_min]
  have hm : min k l.length ≤ l.length := by omega
  generalize min k l.length = q at *
  refine AW.loopS (fun j : Nat => ⟨49, [(22, .pv (.int .i64 j)), (21, .pv (.int .i64 q)), (6, .own 3 (ints (diffS l j)))], []⟩) (fun j => j ≤ q) (fun j => q - j) [22, 21, 6] [] 0 (Nat.zero_le _) ?_
  rintro j hj K hK
  refine AW.go ?_
  refine AW.cond rfl (fun hc => ?_) (fun hc => ?_)
  · have hlt : j < q := by simpa using hc
    have hM := diffS_len l j
    have hsu : diffS l (j + 1) = stepD j (diffS l j) := rfl
    generalize diffS l j = M at *
    have hD := stepD_len j M
    have hjM : j < M.length := by omega
    have hget := ints_at (getDi hjM)
    have ej : IntKind.i64.wrap ((j : Int) + 1) = ((j + 1 : Nat) : Int) := wrap_i64_succ (by omega)
    refine AW.go ?_ (by simp only [go_sem, ↓reduceIte, hjM, hget] <;> rfl)
    refine AW.callE (fun _ => 29) (between_fn (M.getD j 0)) (.pv _ .nil) ?_
    refine AW.go ?_ (by simp only [go_sem, ↓reduceIte, ej] <;> rfl)
    have h0 : spl (stepD j M) M (j + 1) = M := stepD_spl j M
    refine AW.loopS (fun i : Nat => ⟨49, [(9, .pv (.int .i64 i)), (8, .fn 62 [.ptr 29 0]), (22, .pv (.int .i64 j)), (21, .pv (.int .i64 q)), (6, .own 3 (ints (spl (stepD j M) M i)))], [(29, .cells 3 [.pv (.int .i64 (M.getD (i - 1) 0))])]⟩) (fun i => j + 1 ≤ i ∧ i ≤ M.length) (fun i => M.length - i) [9, 8, 22, 21, 6] [29] (j + 1) ⟨Nat.le_refl _, by omega⟩ ?_ (by simp only [go_sem, ↓reduceIte]) (by simp only [go_sem, ↓reduceIte, h0, Nat.add_sub_cancel] <;> rfl)
    rintro i ⟨hi, hi2⟩ K2 hK2
    have hspl := spl_len hD i
    refine AW.go ?_ (by simp only [go_sem, ↓reduceIte, hspl] <;> rfl)
    refine AW.cond rfl (fun hc => ?_) (fun hc => ?_)
    · have hlt2 : i < M.length := by simpa using hc
      have hg2 : (ints (spl (stepD j M) M i))[i]? = some (.int .i64 (M.getD i 0)) := ints_at (by rw [spl_get hD hlt2]; exact getDi hlt2)
      have hset := spl_set hD hlt2 (stepD_get (by omega) hlt2)
      have ei : IntKind.i64.wrap ((i : Int) + 1) = ((i + 1 : Nat) : Int) := wrap_i64_succ (by omega)
      refine AW.go ?_ (by simp only [go_sem, ↓reduceIte, hspl, hlt2, hg2] <;> rfl)
      refine AW.callE (fun _ => 29) (step_fn (M.getD i 0) (M.getD (i - 1) 0)) (.pv _ (.ptr rfl .nil)) ?_
      refine AW.go ?_ (by simp only [go_sem, ↓reduceIte, hspl, hlt2, hg2, hset, ei] <;> rfl)
      refine AW.again hK2 (i + 1) ⟨by omega, hlt2⟩ (by omega) (by simp only [go_sem, ↓reduceIte]) (by simp only [go_sem, ↓reduceIte, Nat.add_sub_cancel] <;> rfl)
    · have hge : M.length ≤ i := by simp at hc; omega
      rw [spl_all hD hge, ← hsu]
      refine AW.go ?_ (by simp only [go_sem, ↓reduceIte, ej] <;> rfl)
      refine AW.again hK (j + 1) hlt (by omega)
  · have hge : j = q := by simp at hc; omega
    subst hge
    refine AW.go ?_
    refine AW.finE (.move rfl (.pv _ .nil)) rfl

theorem sum_fn (l : List Int) (k : Nat) (hk : k ≤ 3) (hl : l.length ≤ 2 ^ 40) : Fn Try.prog 35 [] [.pv (.sl 1 (ints l)), .pv (.int .i64 k)] (fun rs H' => rs = [.own 3 (ints (sumS l k)), .pv (.int .i64 0)] ∧ H' = []) := by
  refine Fn.of_body (fn := Try.f35) (n := 46) (res := [.tmp 4, .tmp 5]) (by kernel_rfl) rfl rfl rfl rfl rfl (fun C => ?_)
  have hr : room = 140737488355328 := rfl
  have d1 : decide ((k : Int) > 3) = false := decide_eq_false (by omega)
  refine AW.gg ?_ (by simp only [go_sem, ↓reduceIte, d1] <;> rfl)
  refine AW.condF rfl ?_
  refine AW.go ?_
  refine AW.callE (fun _ => 0) (clone_ints l hl) (.pv _ .nil) ?_
  have em : (if (l.length : Int) < (k : Int) then (l.length : Int) else (k : Int)) = ((min k l.length : Nat) : Int) := by split <;> omega
  have em2 : (if l.length < k then ((l.length : Nat) : Int) else (k : Int)) = ((min k l.length : Nat) : Int) := by split <;> omega
  have em3 : IntKind.i64.wrap (((min k l.length : Nat) : Int) - 1) = ((min k l.length : Nat) : Int) - 1 := wrap_i64_of (by omega) (by omega)
  refine AW.go ?_ (by simp only [go_sem, ↓reduceIte, em, em2, em3] <;> rfl)
  rw [sumS_min]
  have hm : min k l.length ≤ l.length := by omega
  generalize min k l.length = q at *
  refine AW.loopS (fun a : Nat × List Int => ⟨46, [(7, .pv (.int .i64 ((a.1 : Int) - 1))), (6, .own 3 (ints a.2))], []⟩) (fun a => a.1 ≤ q ∧ a.2.length = l.length ∧ sumS a.2 a.1 = sumS l q) (fun a => a.1) [7, 6] [] (q, l) ⟨Nat.le_refl _, rfl, rfl⟩ ?_
  rintro ⟨j, M⟩ ⟨hj, hM, hs⟩ K hK
  simp only at hj hM hs
  refine AW.go ?_
  refine AW.cond rfl (fun hc => ?_) (fun hc => ?_)
  · obtain ⟨j, rfl⟩ : ∃ i, j = i + 1 := ⟨j - 1, by simp at hc; omega⟩
    rw [sumS] at hs
    have hD := stepA_len j M
    have ej0 : (((j + 1 : Nat) : Int) - 1) = (j : Int) := by omega
    have ej : IntKind.i64.wrap ((j : Int) + 1) = ((j + 1 : Nat) : Int) := wrap_i64_succ (by omega)
    have ej1 : IntKind.i64.wrap ((j : Int) - 1) = (j : Int) - 1 := wrap_i64_of (by omega) (by omega)
    have h0 : spl (stepA j M) M (j + 1) = M := stepA_spl j M
    refine AW.go ?_ (by simp only [go_sem, ↓reduceIte, ej0, ej] <;> rfl)
    refine AW.loopS (fun i : Nat => ⟨46, [(8, .pv (.int .i64 i)), (7, .pv (.int .i64 j)), (6, .own 3 (ints (spl (stepA j M) M i)))], []⟩) (fun i => j + 1 ≤ i ∧ i ≤ M.length) (fun i => M.length - i) [8, 7, 6] [] (j + 1) ⟨Nat.le_refl _, by omega⟩ ?_ (by simp only [go_sem, ↓reduceIte]) (by simp only [go_sem, ↓reduceIte, h0, ej0] <;> rfl)
    rintro i ⟨hi, hi2⟩ K2 hK2
    have hspl := spl_len hD i
    refine AW.go ?_ (by simp only [go_sem, ↓reduceIte, hspl] <;> rfl)
    refine AW.cond rfl (fun hc => ?_) (fun hc => ?_)
    · have hlt2 : i < M.length := by simpa using hc
      have hg2 : (ints (spl (stepA j M) M i))[i]? = some (.int .i64 (M.getD i 0)) := ints_at (by rw [spl_get hD hlt2]; exact getDi hlt2)
      have hg3 : (ints (spl (stepA j M) M i))[i - 1]? = some (.int .i64 ((stepA j M).getD (i - 1) 0)) := ints_at (by rw [spl_get1 hD (by omega) (by omega)]; exact getDi (by omega))
      have hset := spl_set hD hlt2 (stepA_get (by omega) hlt2)
      have ei1 : IntKind.i64.wrap ((i : Int) - 1) = ((i - 1 : Nat) : Int) := by rw [wrap_i64_of (by omega) (by omega)]; omega
      have hlt3 : i - 1 < M.length := by omega
      have ei : IntKind.i64.wrap ((i : Int) + 1) = ((i + 1 : Nat) : Int) := wrap_i64_succ (by omega)
      refine AW.go ?_
      refine AW.srTail 11 mixed (by decide +kernel) ?_ (by simp only [go_sem, ↓reduceIte, hspl, hlt2, hlt3, hg2, hg3, ei1] <;> rfl)
      refine AW.go ?_ (by simp only [go_sem, ↓reduceIte, hspl, hlt2, hg2, hset, ei] <;> rfl)
      refine AW.again hK2 (i + 1) ⟨by omega, hlt2⟩ (by omega)
    · have hge : M.length ≤ i := by simp at hc; omega
      rw [spl_all hD hge]
      refine AW.go ?_ (by simp only [go_sem, ↓reduceIte, ej1] <;> rfl)
      refine AW.again hK (j, stepA j M) ⟨by simp only; omega, by simp only; omega, hs⟩ (by simp only; omega)
  · have hge : j = 0 := by simp at hc; omega
    subst hge
    rw [← hs, sumS]
    refine AW.go ?_
    refine AW.finE (.move rfl (.pv _ .nil)) rfl

theorem refDiff_fn (l : List Int) (hl : l.length ≤ 2 ^ 40) : ∀ (k : Nat) (hk : k ≤ 3), Fn Try.prog 26 [] [.pv (.sl 1 (ints l)), .pv (.int .i64 k)] (fun rs H' => rs = [.own 3 (ints (diffS l k)), .pv (.int .i64 0)] ∧ H' = [])
  | 0, hk => by
    refine Fn.of_body (fn := Try.f26) (n := 58) (res := [.tmp 4, .tmp 5]) (by kernel_rfl) rfl rfl rfl rfl rfl (fun C => ?_)
    have hr : room = 140737488355328 := rfl
    have h2 : l.length * 8 ≤ room := by omega
    have h3 : l.length ≤ room := by omega
    refine AW.gg ?_
    refine AW.condF rfl ?_
    refine AW.go ?_
    refine AW.condT rfl ?_
    refine AW.go ?_ (by simp only [go_sem, ↓reduceIte, h2, h3] <;> rfl)
    refine AW.finE (.move rfl (.pv _ .nil)) rfl
  | k + 1, hk => by
    refine Fn.of_body (fn := Try.f26) (n := 58) (res := [.tmp 4, .tmp 5]) (by kernel_rfl) rfl rfl rfl rfl rfl (fun C => ?_)
    have hr : room = 140737488355328 := rfl
    have d1 : decide (((k + 1 : Nat) : Int) > 3) = false := decide_eq_false (by omega)
    have d2 : (((k + 1 : Nat) : Int) == 0) = false := by simp; omega
    have ek : IntKind.i64.wrap (((k + 1 : Nat) : Int) - 1) = (k : Int) := by rw [wrap_i64_of (by omega) (by omega)]; omega
    refine AW.gg ?_ (by simp only [go_sem, ↓reduceIte, d1] <;> rfl)
    refine AW.condF rfl ?_
    refine AW.go ?_ (by simp only [go_sem, ↓reduceIte, d2] <;> rfl)
    refine AW.condF rfl ?_
    refine AW.go ?_ (by simp only [go_sem, ↓reduceIte, ek] <;> rfl)
    refine AW.callE (fun _ => 0) (refDiff_fn l hl k (by omega)) (.pv _ (.pv _ .nil)) ?_
    have hM := diffS_len l k
    rw [diffS]
    generalize diffS l k = M at *
    have hD := stepD_len k M
    refine AW.go ?_
    refine AW.loopS (fun i : Nat => ⟨58, [(9, .pv (.int .i64 i)), (6, .own 3 (ints M)), (8, .own 3 (ints ((stepD k M).take i))), (1, .pv (.int .i64 (k + 1 : Nat)))], []⟩) (fun i => i ≤ M.length) (fun i => M.length - i) [9, 6, 8, 1] [] 0 (Nat.zero_le _) ?_
    rintro i hi K hK
    have htl : ((stepD k M).take i).length = i := by simp; omega
    refine AW.go ?_
    refine AW.cond rfl (fun hc => ?_) (fun hc => ?_)
    · have hlt : i < M.length := by simpa using hc
      have hget := ints_at (getDi hlt)
      have h1 : (i + 1) * 8 ≤ room := by omega
      have h2 : i + 1 ≤ room := by omega
      have ei : IntKind.i64.wrap ((i : Int) + 1) = ((i + 1 : Nat) : Int) := wrap_i64_succ (by omega)
      refine AW.go ?_
      refine AW.cond rfl (fun hc2 => ?_) (fun hc2 => ?_)
      · have hik : i ≤ k := by simp at hc2; omega
        have hap : (stepD k M).take i ++ [M.getD i 0] = (stepD k M).take (i + 1) := by rw [List.take_add_one, stepD_head hik hlt, getDi hlt]; rfl
        refine AW.go ?_ (by simp only [go_sem, ↓reduceIte, hlt, hget, htl, ints_one, h1, h2, hap, ei] <;> rfl)
        refine AW.again hK (i + 1) hlt (by omega)
      · have hik : k < i := by simp at hc2; omega
        have hget1 := ints_at (getDi (show i - 1 < M.length by omega))
        have hlt1 : i - 1 < M.length := by omega
        have ei1 : IntKind.i64.wrap ((i : Int) - 1) = ((i - 1 : Nat) : Int) := by rw [wrap_i64_of (by omega) (by omega)]; omega
        have hap : (stepD k M).take i ++ [IntKind.i64.wrap (M.getD i 0 - M.getD (i - 1) 0)] = (stepD k M).take (i + 1) := by rw [List.take_add_one, stepD_get hik hlt]; rfl
        refine AW.go ?_
        refine AW.any0 mixed ?_
        refine AW.takes (fuel := 6) [0, 1, 2, 5, 6, 3, 7, 8] ?_ (by simp only [go_sem, ↓reduceIte, hlt, hlt1, ei1] <;> rfl) Ends.noPanic (listed' := #[true, true, true, true, false, true, true, true, true, false, false, false, false, false]) (by decide +kernel) (by decide +kernel)
        refine AW.branch (fuel := 5) (rs := [4, 9]) ?_ (by decide +kernel) (by simp)
        intro y hy
        simp only [List.mem_cons, List.not_mem_nil, or_false] at hy
        rcases hy with rfl | rfl
        · refine AW.go ?_ (by simp only [go_sem, ↓reduceIte, hget, hget1] <;> rfl)
          refine AW.seqs (fuel := 0) (listed' := #[true, true, true, true, true, true, true, true, true, true, true, true, true, true]) [9, 10, 11, 12, 13] ?_ (by decide +kernel)
          refine AW.go ?_ (by simp only [go_sem, ↓reduceIte, hget, hget1, htl, ints_one, h1, h2, hap, ei] <;> rfl)
          refine AW.anyDone (by decide +kernel) ?_
          refine AW.go ?_ (by simp only [go_sem, ↓reduceIte, ei] <;> rfl)
          refine AW.again hK (i + 1) hlt (by omega)
        · refine AW.go ?_ (by simp only [go_sem, ↓reduceIte, hget, hget1] <;> rfl)
          refine AW.seqs (fuel := 0) (listed' := #[true, true, true, true, true, true, true, true, true, true, true, true, true, true]) [4, 10, 11, 12, 13] ?_ (by decide +kernel)
          refine AW.go ?_ (by simp only [go_sem, ↓reduceIte, hget, hget1, htl, ints_one, h1, h2, hap, ei] <;> rfl)
          refine AW.anyDone (by decide +kernel) ?_
          refine AW.go ?_ (by simp only [go_sem, ↓reduceIte, ei] <;> rfl)
          refine AW.again hK (i + 1) hlt (by omega)
    · have hge : i = M.length := by simp at hc; omega
      have hall : (stepD k M).take i = stepD k M := List.take_of_length_le (by omega)
      rw [hall]
      refine AW.go ?_
      refine AW.finE (.move rfl (.pv _ .nil)) rfl

theorem refSum_fn (l : List Int) (k : Nat) (hk : k ≤ 3) (hl : l.length ≤ 2 ^ 40) : Fn Try.prog 39 [] [.pv (.sl 1 (ints l)), .pv (.int .i64 k)] (fun rs H' => rs = [.own 3 (ints (sumS l k)), .pv (.int .i64 0)] ∧ H' = []) := by
  refine Fn.of_body (fn := Try.f39) (n := 44) (res := [.tmp 4, .tmp 5]) (by kernel_rfl) rfl rfl rfl rfl rfl (fun C => ?_)
  have hr : room = 140737488355328 := rfl
  have d1 : decide ((k : Int) > 3) = false := decide_eq_false (by omega)
  have h2 : l.length * 8 ≤ room := by omega
  have h3 : l.length ≤ room := by omega
  refine AW.gg ?_ (by simp only [go_sem, ↓reduceIte, d1] <;> rfl)
  refine AW.condF rfl ?_
  refine AW.go ?_ (by simp only [go_sem, ↓reduceIte, h2, h3] <;> rfl)
  refine AW.loopS (fun a : Nat × List Int => ⟨44, [(7, .pv (.int .i64 a.1)), (6, .own 3 (ints a.2))], []⟩) (fun a => a.1 ≤ k ∧ a.2.length = l.length ∧ sumS a.2 a.1 = sumS l k) (fun a => a.1) [7, 6] [] (k, l) ⟨Nat.le_refl _, rfl, rfl⟩ ?_
  rintro ⟨j, M⟩ ⟨hj, hM, hs⟩ K hK
  simp only at hj hM hs
  refine AW.go ?_
  refine AW.cond rfl (fun hc => ?_) (fun hc => ?_)
  · obtain ⟨j, rfl⟩ : ∃ i, j = i + 1 := ⟨j - 1, by simp at hc; omega⟩
    rw [sumS] at hs
    have hD := stepA_len j M
    have ej1 : IntKind.i64.wrap (((j + 1 : Nat) : Int) - 1) = (j : Int) := by rw [wrap_i64_of (by omega) (by omega)]; omega
    by_cases hjl : j + 1 ≤ M.length
    · have h0 : spl (stepA j M) M (j + 1) = M := stepA_spl j M
      refine AW.go ?_
      refine AW.loopS (fun i : Nat => ⟨44, [(8, .pv (.int .i64 i)), (7, .pv (.int .i64 (j + 1 : Nat))), (6, .own 3 (ints (spl (stepA j M) M i)))], []⟩) (fun i => j + 1 ≤ i ∧ i ≤ M.length) (fun i => M.length - i) [8, 7, 6] [] (j + 1) ⟨Nat.le_refl _, by omega⟩ ?_ (by simp only [go_sem, ↓reduceIte]) (by simp only [go_sem, ↓reduceIte, h0] <;> rfl)
      rintro i ⟨hi, hi2⟩ K2 hK2
      have hspl := spl_len hD i
      refine AW.go ?_ (by simp only [go_sem, ↓reduceIte, hspl] <;> rfl)
      refine AW.cond rfl (fun hc => ?_) (fun hc => ?_)
      · have hlt2 : i < M.length := by simpa using hc
        have hg2 : (ints (spl (stepA j M) M i))[i]? = some (.int .i64 (M.getD i 0)) := ints_at (by rw [spl_get hD hlt2]; exact getDi hlt2)
        have hg3 : (ints (spl (stepA j M) M i))[i - 1]? = some (.int .i64 ((stepA j M).getD (i - 1) 0)) := ints_at (by rw [spl_get1 hD (by omega) (by omega)]; exact getDi (by omega))
        have hset := spl_set hD hlt2 (stepA_get (by omega) hlt2)
        have ei1 : IntKind.i64.wrap ((i : Int) - 1) = ((i - 1 : Nat) : Int) := by rw [wrap_i64_of (by omega) (by omega)]; omega
        have hlt3 : i - 1 < M.length := by omega
        have ei : IntKind.i64.wrap ((i : Int) + 1) = ((i + 1 : Nat) : Int) := wrap_i64_succ (by omega)
        refine AW.go ?_
        refine AW.srTail 13 mixed (by decide +kernel) ?_ (by simp only [go_sem, ↓reduceIte, hspl, hlt2, hlt3, hg2, hg3, ei1] <;> rfl)
        refine AW.go ?_ (by simp only [go_sem, ↓reduceIte, hspl, hlt2, hg2, hset, ei] <;> rfl)
        refine AW.again hK2 (i + 1) ⟨by omega, hlt2⟩ (by omega)
      · have hge : M.length ≤ i := by simp at hc; omega
        rw [spl_all hD hge]
        refine AW.go ?_ (by simp only [go_sem, ↓reduceIte, ej1] <;> rfl)
        refine AW.again hK (j, stepA j M) ⟨by simp only; omega, by simp only; omega, hs⟩ (by simp only; omega)
    · rw [stepA_big (by omega)] at hs
      refine AW.go ?_
      refine AW.loopS (fun _ : Unit => ⟨44, [(8, .pv (.int .i64 (j + 1 : Nat))), (7, .pv (.int .i64 (j + 1 : Nat))), (6, .own 3 (ints M))], []⟩) (fun _ => True) (fun _ => 0) [8, 7, 6] [] () trivial ?_
      rintro _ - K2 hK2
      refine AW.go ?_
      refine AW.cond rfl (fun hc => ?_) (fun hc => ?_)
      · exact absurd hc (by simp; omega)
      · refine AW.go ?_ (by simp only [go_sem, ↓reduceIte, ej1] <;> rfl)
        refine AW.again hK (j, M) ⟨by simp only; omega, hM, hs⟩ (by simp only; omega)
  · have hge : j = 0 := by simp at hc; omega
    subst hge
    rw [← hs, sumS]
    refine AW.go ?_
    refine AW.finE (.move rfl (.pv _ .nil)) rfl
end Go.Ck

set_option linter.unusedVariables false
namespace Go.Ck
def lo : List Nat → Nat
  | [] => 0
  | x :: r => r.foldl min x
def hi : List Nat → Nat
  | [] => 0
  | x :: r => r.foldl max x
theorem lo_snoc {l : List Nat} (h : l ≠ []) (x : Nat) : lo (l ++ [x]) = min (lo l) x := by
  cases l with
  | nil => exact absurd rfl h
  | cons a r => simp [lo]
theorem hi_snoc {l : List Nat} (h : l ≠ []) (x : Nat) : hi (l ++ [x]) = max (hi l) x := by
  cases l with
  | nil => exact absurd rfl h
  | cons a r => simp [hi]
theorem foldl_min_le (r : List Nat) : ∀ a, r.foldl min a ≤ a ∧ ∀ x ∈ r, r.foldl min a ≤ x := by
  induction r with
  | nil => simp
  | cons y r ih =>
    intro a
    rw [List.foldl_cons]
    have := ih (min a y)
    refine ⟨by omega, fun x hx => ?_⟩
    rcases List.mem_cons.1 hx with rfl | hx
    · omega
    · exact this.2 x hx
theorem le_foldl_max (r : List Nat) : ∀ a, a ≤ r.foldl max a ∧ ∀ x ∈ r, x ≤ r.foldl max a := by
  induction r with
  | nil => simp
  | cons y r ih =>
    intro a
    rw [List.foldl_cons]
    have := ih (max a y)
    refine ⟨by omega, fun x hx => ?_⟩
    rcases List.mem_cons.1 hx with rfl | hx
    · omega
    · exact this.2 x hx
theorem lo_le {l : List Nat} {x : Nat} (h : x ∈ l) : lo l ≤ x := by
  cases l with
  | nil => cases h
  | cons a r =>
    have := foldl_min_le r a
    rcases List.mem_cons.1 h with rfl | h
    · exact this.1
    · exact this.2 x h
theorem le_hi {l : List Nat} {x : Nat} (h : x ∈ l) : x ≤ hi l := by
  cases l with
  | nil => cases h
  | cons a r =>
    have := le_foldl_max r a
    rcases List.mem_cons.1 h with rfl | h
    · exact this.1
    · exact this.2 x h
theorem foldl_max_lt {B : Nat} (r : List Nat) : ∀ a, a < B → (∀ x ∈ r, x < B) → r.foldl max a < B := by
  induction r with
  | nil => intro a h _; exact h
  | cons y r ih =>
    intro a h h2
    rw [List.foldl_cons]
    exact ih _ (by have := h2 y (by simp); omega) (fun x hx => h2 x (by simp [hx]))
theorem hi_lt {l : List Nat} {B : Nat} (hB : 0 < B) (h : ∀ x ∈ l, x < B) : hi l < B := by
  cases l with
  | nil => exact hB
  | cons a r => exact foldl_max_lt r a (h a (by simp)) (fun x hx => h x (by simp [hx]))
theorem lo_lt {l : List Nat} {B : Nat} (hB : 0 < B) (h : ∀ x ∈ l, x < B) : lo l < B := by
  cases l with
  | nil => exact hB
  | cons a r => exact Nat.lt_of_le_of_lt (lo_le (x := a) (by simp)) (h a (by simp))
theorem lo_hi (l : List Nat) : lo l ≤ hi l := by
  cases l with
  | nil => exact Nat.le_refl _
  | cons a r => exact Nat.le_trans (lo_le (x := a) (by simp)) (le_hi (by simp))
def wF (l : List Nat) : Nat := blen (hi l - lo l)
theorem wF_le {l : List Nat} (h : ∀ x ∈ l, x < 2 ^ 64) : wF l ≤ 64 := blen_le.2 (Nat.lt_of_le_of_lt (Nat.sub_le _ _) (hi_lt (by omega) h))
theorem wF_fit {l : List Nat} {x : Nat} (h : x ∈ l) : x - lo l < 2 ^ wF l := by
  have h1 := lo_le h
  have h2 := le_hi h
  exact Nat.lt_of_le_of_lt (by omega) (blen_lt (v := hi l - lo l))
def bitsF (l : List Nat) (v w : Nat) : List Nat := l.flatMap fun x => binB (x - v) w
theorem bitsF_snoc (l : List Nat) (x v w : Nat) : bitsF (l ++ [x]) v w = bitsF l v w ++ binB (x - v) w := by simp [bitsF]
theorem bitsF_len (l : List Nat) (v w : Nat) : (bitsF l v w).length = l.length * w := by
  induction l with
  | nil => simp [bitsF]
  | cons a r ih =>
    rw [bitsF, List.flatMap_cons, List.length_append, binB_len]
    rw [bitsF] at ih
    rw [ih, List.length_cons, Nat.succ_mul]; omega
theorem bitsF_bit (l : List Nat) (v w : Nat) : ∀ x ∈ bitsF l v w, x < 2 := by
  intro x hx
  simp only [bitsF, List.mem_flatMap] at hx
  obtain ⟨y, _, hx⟩ := hx
  exact binB_bit _ _ x hx
def packF (l : List Nat) : List Nat := leb (lo l) ++ (wF l :: pk (bitsF l (lo l) (wF l)))
def valF (r : List Nat) (w i : Nat) : Nat := getB (unb r) (i * w) w
def valsF (r : List Nat) (w n v : Nat) : List Nat := (List.range n).map fun i => valF r w i + v
def okF (r : List Nat) (w n v : Nat) : Bool := (List.range n).all fun i => decide (valF r w i + v < 2 ^ 64)
def endF (l : List Nat) (k : Nat) : Bool := decide (8 * l.length - k < 8) && decide (∀ x ∈ (unb l).drop k, x = 0)
def unF2 (r : List Nat) (n v w : Nat) : List Nat × Int :=
  if okF r w n v = false then ([], 3) else if endF r (n * w) = false then ([], 3) else if lo (valsF r w n v) = v ∧ wF (valsF r w n v) = w then (valsF r w n v, 0) else ([], 3)
def unF1 (r : List Nat) (n v : Nat) : List Nat × Int :=
  match r with
  | [] => ([], 2)
  | w :: r => if 64 < w then ([], 3) else if 8 * r.length < n * w then ([], 2) else unF2 r n v w
def unF (b : List Nat) (n : Nat) : List Nat × Int :=
  if (readV b).2.2 ≠ 0 then ([], (readV b).2.2) else unF1 (b.drop (readV b).2.1) n (readV b).1
theorem valsF_len (r : List Nat) (w n v : Nat) : (valsF r w n v).length = n := by simp [valsF]
theorem valsF_succ (r : List Nat) (w n v : Nat) : valsF r w (n + 1) v = valsF r w n v ++ [valF r w n + v] := by simp [valsF, List.range_succ]
theorem okF_succ (r : List Nat) (w n v : Nat) : okF r w (n + 1) v = (okF r w n v && decide (valF r w n + v < 2 ^ 64)) := by simp [okF, List.range_succ]
theorem okF_false {r : List Nat} {w n v i : Nat} (hi : i < n) (h : ¬ valF r w i + v < 2 ^ 64) : okF r w n v = false := by
  rw [okF, List.all_eq_false]
  exact ⟨i, by simpa using hi, by simpa using h⟩
theorem okF_lt {r : List Nat} {w n v : Nat} (h : okF r w n v = true) : ∀ x ∈ valsF r w n v, x < 2 ^ 64 := by
  intro x hx
  simp only [valsF, List.mem_map, List.mem_range] at hx
  obtain ⟨i, hi, rfl⟩ := hx
  rw [okF, List.all_eq_true] at h
  simpa using h i (by simpa using hi)
/-- A number that was read was written so. -/
theorem rdv_canon : ∀ (l : List Nat) (k acc : Nat), (∀ x ∈ l, x < 256) → (rdv k acc l).2.2 = 0 → ∃ v c, (rdv k acc l).1 = acc + v * 128 ^ k ∧ l = leb v ++ c ∧ (rdv k acc l).2.1 = k + (leb v).length ∧ (0 < k → 0 < v)
  | [], k, acc, _, h => by simp [rdv] at h
  | x :: r, k, acc, hb, h => by
    simp only [rdv] at h ⊢
    have hx := hb x (by simp)
    split at h <;> rename_i h1
    · simp at h
    rw [if_neg h1]
    split at h <;> rename_i h2
    · rw [if_pos h2]
      obtain ⟨v, c, e1, e2, e3, e4⟩ := rdv_canon r (k + 1) _ (fun y hy => hb y (by simp [hy])) h
      have hv := e4 (by omega)
      refine ⟨v * 128 + x % 128, c, ?_, ?_, ?_, fun _ => by omega⟩
      · rw [e1, Nat.pow_succ]
        rw [Nat.add_mul, Nat.add_assoc, Nat.mul_assoc v, Nat.mul_comm 128, Nat.add_comm (x % 128 * _)]
      · rw [leb_ge (by omega), show (v * 128 + x % 128) % 128 + 128 = x by omega, show (v * 128 + x % 128) / 128 = v by omega, e2]; rfl
      · rw [leb_ge (by omega), show (v * 128 + x % 128) / 128 = v by omega, e3, List.length_cons]; omega
    · rw [if_neg h2]
      split at h <;> rename_i h3
      · simp at h
      · rw [if_neg h3]
        refine ⟨x, r, rfl, ?_, ?_, fun hk => by omega⟩
        · rw [leb_lt (by omega)]; rfl
        · rw [leb_lt (by omega)]; simp
theorem readV_canon {l : List Nat} (hb : ∀ x ∈ l, x < 256) (h : (readV l).2.2 = 0) : l = leb (readV l).1 ++ l.drop (readV l).2.1 := by
  obtain ⟨v, c, e1, e2, e3, _⟩ := rdv_canon (l.take 10) 0 0 (fun x hx => hb x (List.mem_of_mem_take hx)) h
  have h1 : (readV l).1 = v := by unfold readV; rw [e1]; simp
  have h2 : (readV l).2.1 = (leb v).length := by unfold readV; rw [e3]; simp
  rw [h1, h2]
  have e : l = leb v ++ (c ++ l.drop 10) := by rw [← List.append_assoc, ← e2, List.take_append_drop]
  conv => lhs; rw [e]
  conv => rhs; rw [e]
  rw [List.drop_left]
theorem binB_binN : ∀ (l : List Nat), (∀ x ∈ l, x < 2) → binB (binN l) l.length = l := by
  intro l
  induction l with
  | nil => intro _; rfl
  | cons a r ih =>
    intro h
    have ha := h a (by simp)
    have hr := binN_lt r (fun x hx => h x (by simp [hx]))
    rw [List.length_cons, binB_succ, binN_cons]
    have e : ∀ (n b : Nat), binB (b + n * 2 ^ r.length) r.length = binB b r.length := by
      intro n b
      have : ∀ (k : Nat), k ≤ r.length → binB (b + n * 2 ^ r.length) k = binB b k := by
        intro k
        induction k with
        | zero => intro _; rfl
        | succ k ihk =>
          intro hk
          rw [binB_succ, binB_succ, ihk (by omega)]
          congr 1
          have : n * 2 ^ r.length = n * 2 ^ (r.length - k - 1) * 2 * 2 ^ k := by
            rw [Nat.mul_assoc, Nat.mul_assoc, ← Nat.pow_succ', ← Nat.pow_add]; congr 2; omega
          rw [this, Nat.add_mul_div_right _ _ (Nat.two_pow_pos k), Nat.add_mul_mod_self_right]
      exact this _ (Nat.le_refl _)
    rw [Nat.add_comm (a * _), e, ih (fun x hx => h x (by simp [hx]))]
    congr 1
    rw [Nat.add_mul_div_right _ _ (Nat.two_pow_pos _), Nat.div_eq_of_lt hr]; omega
theorem unb_inj : ∀ {l r : List Nat}, (∀ x ∈ l, x < 256) → (∀ x ∈ r, x < 256) → unb l = unb r → l = r
  | [], [], _, _, _ => rfl
  | [], b :: r, _, _, h => by have := congrArg List.length h; rw [unb_len, unb_len] at this; simp at this
  | a :: l, [], _, _, h => by have := congrArg List.length h; rw [unb_len, unb_len] at this; simp at this
  | a :: l, b :: r, h1, h2, h => by
    rw [unb_cons, unb_cons] at h
    have ⟨e1, e2⟩ := List.append_inj h (by rw [binB_len, binB_len])
    have := congrArg binN e1
    rw [binN_binB, binN_binB, Nat.mod_eq_of_lt (h1 a (by simp)), Nat.mod_eq_of_lt (h2 b (by simp))] at this
    rw [this, unb_inj (fun x hx => h1 x (by simp [hx])) (fun x hx => h2 x (by simp [hx])) e2]
theorem pk_of_unb {r l : List Nat} (hr : ∀ x ∈ r, x < 256) (hl : ∀ x ∈ l, x < 2) (h : (unb r).take l.length = l) (hz : ∀ x ∈ (unb r).drop l.length, x = 0) (hs : 8 * r.length < l.length + 8) : pk l = r := by
  have hlen : l.length ≤ 8 * r.length := by have := congrArg List.length h; rw [List.length_take, unb_len] at this; omega
  refine unb_inj (pk_byte l hl) hr ?_
  rw [unb_pk hl]
  have e := List.take_append_drop l.length (unb r)
  rw [h] at e
  rw [← e]
  congr 1
  refine (List.eq_replicate_iff.2 ⟨?_, hz⟩).symm
  rw [List.length_drop, unb_len]; omega
theorem valF_bits {r : List Nat} {w n v : Nat} (hn : n * w ≤ 8 * r.length) : bitsF (valsF r w n v) v w = (unb r).take (n * w) := by
  induction n with
  | zero => simp [valsF, bitsF]
  | succ n ih =>
    rw [Nat.succ_mul] at hn
    rw [valsF_succ, bitsF_snoc, ih (by omega), Nat.add_sub_cancel, valF, getB]
    have hl : (((unb r).drop (n * w)).take w).length = w := by rw [List.length_take, List.length_drop, unb_len]; omega
    have := binB_binN (((unb r).drop (n * w)).take w) (fun x hx => unb_bit r x (List.mem_of_mem_drop (List.mem_of_mem_take hx)))
    rw [hl] at this
    rw [this, Nat.succ_mul, List.take_add]
/-- Written back. -/
theorem pack_back {b r : List Nat} {n v w : Nat} (hb : ∀ x ∈ b, x < 256) (hv : v < 2 ^ 64) (e : b = leb v ++ (w :: r)) (hn : n * w ≤ 8 * r.length) (hend : endF r (n * w) = true) (ho : okF r w n v = true) : packF (valsF r w n v) = b ↔ (lo (valsF r w n v) = v ∧ wF (valsF r w n v) = w) := by
  constructor
  · intro h
    have hlo := lo_lt (l := valsF r w n v) (by omega) (okF_lt ho)
    have e2 := readV_leb hlo (wF (valsF r w n v) :: pk (bitsF (valsF r w n v) (lo (valsF r w n v)) (wF (valsF r w n v))))
    rw [e] at h
    unfold packF at h
    rw [h, readV_leb hv] at e2
    simp only [Prod.mk.injEq] at e2
    obtain ⟨e3, -, -⟩ := e2
    rw [← e3] at h
    have := List.append_cancel_left h
    simp only [List.cons.injEq] at this
    exact ⟨e3.symm, this.1⟩
  · rintro ⟨h1, h2⟩
    unfold packF
    rw [h1, h2, e]
    congr 2
    rw [valF_bits hn]
    simp only [endF, Bool.and_eq_true, decide_eq_true_eq] at hend
    have hl : ((unb r).take (n * w)).length = n * w := by rw [List.length_take, unb_len]; omega
    refine pk_of_unb (fun x hx => hb x (by rw [e]; simp [hx])) (fun x hx => unb_bit r x (List.mem_of_mem_take hx)) ?_ ?_ ?_
    · rw [hl]
    · rw [hl]; exact hend.2
    · rw [hl]; omega
end Go.Ck

set_option linter.unusedVariables false
namespace Go.Ck
theorem binB_drop (v a b : Nat) : (binB v (a + b)).drop a = binB v b := by
  induction a with
  | zero => simp
  | succ a ih => rw [Nat.succ_add, binB_succ, List.drop_succ_cons, ih]
theorem binN_zero : ∀ (l : List Nat), (∀ x ∈ l, x = 0) ↔ binN l = 0
  | [] => by simp [binN]
  | a :: r => by
    rw [binN_cons]
    have := binN_zero r
    have hp := Nat.two_pow_pos r.length
    simp only [List.mem_cons, forall_eq_or_imp]
    rw [this]
    constructor
    · rintro ⟨rfl, h⟩; omega
    · intro h
      have h2 : a * 2 ^ r.length = 0 := by omega
      rcases Nat.mul_eq_zero.1 h2 with h2 | h2
      · exact ⟨h2, by omega⟩
      · omega
theorem unb_last (a : List Nat) (x m : Nat) (hm : m ≤ 8) : (unb (a ++ [x])).drop (8 * (a ++ [x]).length - m) = binB x m := by
  have e : 8 * (a ++ [x]).length - m = (unb a).length + (8 - m) := by rw [unb_len]; simp; omega
  rw [e, unb_append, ← List.drop_drop, List.drop_left, unb_cons, unb_nil, List.append_nil]
  have := binB_drop x (8 - m) m
  rw [show 8 - m + m = 8 by omega] at this
  exact this
theorem endF_last {l : List Nat} {k : Nat} (h1 : k < 8 * l.length) (h2 : 8 * l.length - k < 8) (hb : ∀ x ∈ l, x < 256) : endF l k = decide (l.getD (l.length - 1) 0 * 2 ^ (8 - (8 * l.length - k)) % 256 = 0) := by
  have hne : l ≠ [] := by rintro rfl; simp at h1
  obtain ⟨a, x, rfl⟩ : ∃ a x, l = a ++ [x] := ⟨l.dropLast, l.getLast hne, (List.dropLast_concat_getLast hne).symm⟩
  have hx := hb x (by simp)
  have hg : (a ++ [x]).getD ((a ++ [x]).length - 1) 0 = x := by rw [List.getD_eq_getElem?_getD]; simp
  rw [hg]
  generalize hm : 8 * (a ++ [x]).length - k = m at *
  have hk : k = 8 * (a ++ [x]).length - m := by omega
  unfold endF
  rw [hm, decide_eq_true h2, Bool.true_and, hk, unb_last a x m (by omega)]
  rw [decide_eq_decide, binN_zero, binN_binB]
  have e : 256 = 2 ^ m * 2 ^ (8 - m) := by rw [← Nat.pow_add, show m + (8 - m) = 8 by omega]
  conv => rhs; rw [e]
  rw [Nat.mul_mod_mul_right]
  constructor
  · intro h; rw [h, Nat.zero_mul]
  · intro h
    rcases Nat.mul_eq_zero.1 h with h | h
    · exact h
    · have := Nat.two_pow_pos (8 - m); omega
theorem endF_all {l : List Nat} {k : Nat} (h : k = 8 * l.length) : endF l k = true := by
  subst h
  unfold endF
  rw [List.drop_eq_nil_of_le (by rw [unb_len]; omega)]
  simp
theorem endF_far {l : List Nat} {k : Nat} (h : ¬ 8 * l.length - k < 8) : endF l k = false := by
  unfold endF
  rw [decide_eq_false h]; rfl
def endE (l : List Nat) (k : Nat) : Int := if endF l k = true then 0 else 3
theorem min_int (a b : Nat) : (if (a : Int) < (b : Int) then (a : Int) else (b : Int)) = ((min a b : Nat) : Int) := by split <;> omega
theorem min_nat (a b : Nat) : (if a < b then ((a : Nat) : Int) else (b : Int)) = ((min a b : Nat) : Int) := by split <;> omega
theorem max_int (a b : Nat) : (if (a : Int) < (b : Int) then (b : Int) else (a : Int)) = ((max a b : Nat) : Int) := by split <;> omega
theorem max_nat (a b : Nat) : (if a < b then ((b : Nat) : Int) else (a : Int)) = ((max a b : Nat) : Int) := by split <;> omega
theorem lo_take {l : List Nat} {i : Nat} (h : i < l.length) (h0 : i ≠ 0) : lo (l.take (i + 1)) = min (lo (l.take i)) l[i] := by
  rw [List.take_add_one, List.getElem?_eq_getElem h, Option.toList_some, lo_snoc]
  intro e; have := congrArg List.length e; rw [List.length_take, List.length_nil] at this; omega
theorem hi_take {l : List Nat} {i : Nat} (h : i < l.length) (h0 : i ≠ 0) : hi (l.take (i + 1)) = max (hi (l.take i)) l[i] := by
  rw [List.take_add_one, List.getElem?_eq_getElem h, Option.toList_some, hi_snoc]
  intro e; have := congrArg List.length e; rw [List.length_take, List.length_nil] at this; omega
theorem lo_take1 {l : List Nat} (h : 0 < l.length) : lo (l.take 1) = l[0] ∧ hi (l.take 1) = l[0] := by
  cases l with
  | nil => simp at h
  | cons a r => exact ⟨rfl, rfl⟩
def lims (l : List Nat) (i : Nat) : Option (List PV) := if i < l.length then some [.int .u64 (lo (l.take (i + 1)) : Nat), .int .u64 (hi (l.take (i + 1)) : Nat)] else none
theorem lims_in {l : List Nat} {i : Nat} (h : i < l.length) : lims l i = some [.int .u64 (lo (l.take (i + 1)) : Nat), .int .u64 (hi (l.take (i + 1)) : Nat)] := if_pos h
theorem lims_end (l : List Nat) : lims l l.length = none := if_neg (by omega)
end Go.Ck

set_option linter.unusedVariables false
set_option maxRecDepth 10000
set_option maxHeartbeats 1000000
namespace Go.Ck
open Go.Proofs
theorem rdEnd_fn (l : List Nat) (k : Nat) (hk : k ≤ 8 * l.length) (hl : 8 * l.length ≤ room) (hb : ∀ x ∈ l, x < 256) : Fn Try.prog 90 (rdO l k) [.ptr 1000 0] (fun rs H' => rs = [.pv (.int .i64 (endE l k))] ∧ H' = rdO l k) := by
  refine Fn.of_body (fn := Try.f90) (n := 32) (res := [.tmp 2]) (by kernel_rfl) rfl rfl rfl rfl rfl (fun C => ?_)
  have hr : room < 2 ^ 62 := by decide
  refine AW.go ?_
  refine AW.condF rfl ?_
  refine AW.go ?_
  refine AW.callE id (rdLeft_fn l k hk hl) (.ptr rfl .nil) ?_
  refine AW.go ?_
  generalize hm : 8 * l.length - k = m
  by_cases h8 : m < 8
  · have d1 : decide (8 ≤ m) = false := decide_eq_false (by omega)
    have d1' : decide ((m : Int) ≥ 8) = false := decide_eq_false (by omega)
    have d1i : decide ((8 : Int) ≤ (m : Int)) = false := decide_eq_false (by omega)
    by_cases h0 : m = 0
    · have d2 : decide (0 < m) = false := decide_eq_false (by omega)
      have d2' : decide ((m : Int) > 0) = false := decide_eq_false (by omega)
      have he : endE l k = 0 := by unfold endE; rw [endF_all (by omega)]; rfl
      rw [he]
      refine AW.sr mixed (by decide +kernel) ?_ (by simp only [go_sem, ↓reduceIte, d1, d2, d1', d1i, d2'] <;> rfl)
      refine AW.condF rfl ?_
      refine AW.go ?_
      refine AW.finE (.pv _ .nil) rfl
    · have d2 : decide (0 < m) = true := decide_eq_true (by omega)
      have d2' : decide ((m : Int) > 0) = true := decide_eq_true (by omega)
      have hlt : l.length - 1 < l.length := by omega
      have hget := bytes_get hlt
      rw [getD_get] at hget
      have hx := hb _ (List.getElem_mem hlt)
      rw [getD_get] at hx
      have hend := endF_last (l := l) (k := k) (by omega) (by omega) hb
      rw [hm] at hend
      generalize l.getD (l.length - 1) 0 = x at *
      generalize hq : x * 2 ^ (8 - m) % 256 = q at *
      have e1 : IntKind.i64.wrap ((l.length : Int) - 1) = ((l.length - 1 : Nat) : Int) := by rw [wrap_i64_of (by omega) (by omega)]; omega
      have e2 : IntKind.i64.wrap (8 - (m : Int)) = ((8 - m : Nat) : Int) := by rw [wrap_i64_of (by omega) (by omega)]; omega
      have e3 : shlI .u8 (x : Int) ((8 - m : Nat) : Int) = ((q : Nat) : Int) := by rw [← hq]; exact shlI_nat8 _ _ (by omega)
      refine AW.sr mixed (by decide +kernel) ?_ (by simp only [go_sem, ↓reduceIte, d1, d2, d1', d1i, d2', e1, e2, e3, hget, hlt] <;> rfl)
      refine AW.cond rfl (fun hc => ?_) (fun hc => ?_)
      · have hne : ¬ q = 0 := by simpa using hc
        have he : endE l k = 3 := by unfold endE; rw [hend, decide_eq_false hne]; rfl
        rw [he]
        refine AW.go ?_
        refine AW.finE (.pv _ .nil) rfl
      · have hne : q = 0 := by simpa using hc
        have he : endE l k = 0 := by unfold endE; rw [hend, decide_eq_true hne]; rfl
        rw [he]
        refine AW.go ?_
        refine AW.finE (.pv _ .nil) rfl
  · have d1 : decide (8 ≤ m) = true := decide_eq_true (by omega)
    have d1' : decide ((m : Int) ≥ 8) = true := decide_eq_true (by omega)
    have d1i : decide ((8 : Int) ≤ (m : Int)) = true := decide_eq_true (by omega)
    have he : endE l k = 3 := by unfold endE; rw [endF_far (by omega)]; rfl
    rw [he]
    refine AW.sr mixed (by decide +kernel) ?_ (by simp only [go_sem, ↓reduceIte, d1, d1', d1i] <;> rfl)
    refine AW.condT rfl ?_
    refine AW.go ?_
    refine AW.finE (.pv _ .nil) rfl

theorem refEnd_fn (l : List Nat) (hl : l.length ≤ room) : Fn Try.prog 83 [] [.pv (.sl 1 (nis l))] (fun rs H' => rs = [.pv (.int .i64 (if l.length < 8 ∧ ∀ x ∈ l, x = 0 then 0 else 3))] ∧ H' = []) := by
  refine Fn.of_body (fn := Try.f83) (n := 18) (res := [.tmp 2]) (by kernel_rfl) rfl rfl rfl rfl rfl (fun C => ?_)
  have hr : room < 2 ^ 62 := by decide
  refine AW.go ?_
  refine AW.cond rfl (fun hc => ?_) (fun hc => ?_)
  · have h : ¬ l.length < 8 := by simp at hc; omega
    rw [if_neg (fun hh => h hh.1)]
    refine AW.go ?_
    refine AW.finE (.pv _ .nil) rfl
  have h8 : l.length < 8 := by simp at hc; omega
  refine AW.go ?_
  refine AW.loopS (fun i : Nat => ⟨18, [(3, .pv (.int .i64 i)), (0, .pv (.sl 1 (nis l)))], []⟩) (fun i => i ≤ l.length ∧ ∀ x ∈ l.take i, x = 0) (fun i => l.length - i) [3, 0] [] 0 ⟨Nat.zero_le _, by simp⟩ ?_
  rintro i ⟨hi, hz⟩ K hK
  refine AW.go ?_
  refine AW.cond rfl (fun hc => ?_) (fun hc => ?_)
  · have hlt : i < l.length := by simpa using hc
    have hget := nis_get hlt
    have hti : l.take (i + 1) = l.take i ++ [l[i]] := by simp
    have hmem := List.getElem_mem hlt
    generalize l[i] = x at *
    refine AW.go ?_ (by simp only [go_sem, ↓reduceIte, hget] <;> rfl)
    refine AW.cond rfl (fun hc2 => ?_) (fun hc2 => ?_)
    · have hx : x ≠ 0 := by simp at hc2; omega
      rw [if_neg (fun hh => hx (hh.2 x hmem))]
      refine AW.go ?_
      refine AW.finE (.pv _ .nil) rfl
    · have hx : x = 0 := by simp at hc2; omega
      have ei : IntKind.i64.wrap ((i : Int) + 1) = ((i + 1 : Nat) : Int) := wrap_i64_succ (by omega)
      refine AW.go ?_ (by simp only [go_sem, ↓reduceIte, ei] <;> rfl)
      refine AW.again hK (i + 1) ⟨hlt, ?_⟩ (by omega)
      rw [hti]
      intro y hy
      rcases List.mem_append.1 hy with hy | hy
      · exact hz y hy
      · rw [List.mem_singleton] at hy; rw [hy, hx]
  · have hge : i = l.length := by simp at hc; omega
    subst hge
    rw [List.take_length] at hz
    rw [if_pos ⟨h8, hz⟩]
    refine AW.go ?_
    refine AW.finE (.pv _ .nil) rfl

theorem ends_fn (xs : List Nat) : Fn Try.prog 84 [] [.pv (.sl 1 (u64s xs))] (fun rs H' => rs = [.fn 94 [.ptr 1 0]] ∧ H' = [(1, .cells 43 [.pv (.sl 1 (u64s xs))])]) := by
  refine Fn.of_body (fn := Try.f84) (n := 4) (res := [.tmp 2]) (by kernel_rfl) rfl rfl rfl rfl rfl (fun C => ?_)
  refine AW.go ?_
  refine AW.finE (.fn rfl .nil) rfl
theorem AW.absurdD {P : Program} {R : Option Nat} {Φ : Exit → Cx → St → Prop} {e : Exit} {k : List It} {X : Bs → Prop} {s : St} (h : ∀ B, ¬ X B) : AW P R Φ e k (plain X) s := fun B a w ha => absurd ha.1.1.2 (h B)

theorem ends1_iter (l : List Nat) (hl : l.length ≤ 65536) : Iter Try.prog 94 [.ptr 12 0] [(12, .cells 43 [.pv (.sl 1 (u64s l))])] (lims l) := by
  refine Iter.of_body (fn := Try.f94) (n := 30) (by kernel_rfl) rfl rfl rfl rfl (fun L X X0 N hY hN => ?_)
  refine AW.go ?_
  refine AW.loopC (n := l.length) (fun m C s => ∃ i, m = l.length - i ∧ i ≤ l.length ∧ i ≤ N ∧ C = plain (X i) ∧ keepB [0, 3, 4, 7, 8, 9] [12] s = ⟨30, [(0, .yl L), (3, .pv (.int .u64 (lo (l.take i) : Nat))), (4, .pv (.int .u64 (hi (l.take i) : Nat))), (7, .pv (.sl 1 (u64s l))), (8, .pv (.int .i64 l.length)), (9, .pv (.int .i64 i))], [(12, .cells 43 [.pv (.sl 1 (u64s l))])]⟩ ∧ keptB none [0, 3, 4, 7, 8, 9] [12] s = true) ⟨0, rfl, by omega, Nat.zero_le _, rfl, by simp only [go_sem, ↓reduceIte] <;> rfl, by simp only [go_sem, ↓reduceIte]⟩ ?_
  rintro m C s ⟨i, rfl, hw, hiN, rfl, hs, hk⟩
  refine AW.keepB [0, 3, 4, 7, 8, 9] [12] hk hs ?_
  refine AW.go ?_
  refine AW.cond rfl (fun hc => ?_) (fun hc => ?_)
  · have hlt : i < l.length := by simpa using hc
    have ei : IntKind.i64.wrap ((i : Int) + 1) = ((i + 1 : Nat) : Int) := wrap_i64_succ (by omega)
    have hget := u64s_get hlt
    have hout := lims_in hlt
    have hto := lo_take (l := l) (i := i) hlt
    have hti := hi_take (l := l) (i := i) hlt
    have h1 := lo_take1 (l := l) (by omega)
    have hN' : i < N ∨ ∀ B, ¬ X i B := by
      by_cases hn : i = N
      · subst hn
        rcases hN with h | h
        · rw [hout] at h; cases h
        · exact .inr h
      · exact .inl (by omega)
    rcases hN'.symm with hab | hlt2
    · exact AW.absurdD hab
    obtain ⟨p, hp, hY1⟩ := hY _ hlt2
    rw [hout] at hp
    cases hp
    refine AW.go ?_ (by simp only [go_sem, ↓reduceIte, hget] <;> rfl)
    refine AW.joinS (fun _ : Unit => ⟨30, [(0, .yl L), (3, .pv (.int .u64 (if i = 0 then l[i] else lo (l.take i) : Nat))), (4, .pv (.int .u64 (if i = 0 then l[i] else hi (l.take i) : Nat))), (6, .pv (.int .u64 (l[i] : Nat))), (7, .pv (.sl 1 (u64s l))), (8, .pv (.int .i64 l.length)), (9, .pv (.int .i64 i))], [(12, .cells 43 [.pv (.sl 1 (u64s l))])]⟩) (fun _ => True) [0, 3, 4, 6, 7, 8, 9] [12] ?_ ?_
    · intro K hK
      refine AW.cond rfl (fun hc2 => ?_) (fun hc2 => ?_)
      · have h0 : i = 0 := by simp at hc2; omega
        refine AW.go ?_
        refine AW.meet hK () trivial (by simp only [go_sem, ↓reduceIte]) (by simp only [go_sem, ↓reduceIte, if_pos h0] <;> rfl)
      · have h0 : ¬ i = 0 := by simp at hc2; omega
        refine AW.go ?_
        refine AW.meet hK () trivial (by simp only [go_sem, ↓reduceIte]) (by simp only [go_sem, ↓reduceIte, if_neg h0] <;> rfl)
    rintro _ -
    have em : min l[i] (if i = 0 then l[i] else lo (l.take i)) = lo (l.take (i + 1)) := by
      rw [Nat.min_comm]
      by_cases h0 : i = 0
      · subst h0; rw [if_pos rfl, h1.1, Nat.min_self]
      · rw [if_neg h0, hto h0]
    have eM : max (if i = 0 then l[i] else hi (l.take i)) l[i] = hi (l.take (i + 1)) := by
      by_cases h0 : i = 0
      · subst h0; rw [if_pos rfl, h1.2, Nat.max_self]
      · rw [if_neg h0, hti h0]
    refine AW.gg ?_ (by simp only [go_sem, ↓reduceIte, min_int, min_nat, max_int, max_nat, em, eM] <;> rfl)
    refine AW.yield hY1 rfl rfl ?_ ?_
    · refine AW.gg ?_
      refine AW.condF rfl ?_
      refine AW.go ?_ (by simp only [go_sem, ↓reduceIte, ei] <;> rfl)
      refine AW.stop ⟨l.length - (i + 1), by omega, i + 1, rfl, by omega, by omega, rfl, by simp only [go_sem, ↓reduceIte] <;> rfl, by simp only [go_sem, ↓reduceIte]⟩
    · refine AW.gg ?_
      refine AW.condT rfl ?_
      refine AW.go ?_
      exact AW.nil ⟨.inr rfl, .inr rfl⟩
  · have h4 : i = l.length := by simp at hc; omega
    subst h4
    have hend := lims_end l
    have hNe : l.length = N := by
      apply Classical.byContradiction
      intro hne
      obtain ⟨p, hp, _⟩ := hY _ (by omega : l.length < N)
      rw [hend] at hp; cases hp
    rw [hNe] at hend ⊢
    refine AW.go ?_
    exact AW.nil ⟨.inl rfl, .inl ⟨hend, rfl⟩⟩
end Go.Ck
