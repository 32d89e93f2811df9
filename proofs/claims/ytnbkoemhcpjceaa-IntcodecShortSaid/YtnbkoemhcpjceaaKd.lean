/- What is proved here: parts of the proofs of this seat's statements (a verified evaluator for calls over pure values, its laws, and contracts of functions). No condition. -/
import Derived.Test.YtnbkoemhcpjceaaKc
import Lean
set_option linter.all false
set_option linter.unusedVariables false
/-! What is written is read again. -/
namespace Go.Ck
theorem foldl_base (b : Nat) : ∀ (l : List Nat) (a : Nat), l.foldl (fun a x => a * b + x) a = a * b ^ l.length + l.foldl (fun a x => a * b + x) 0
  | [], a => by simp
  | x :: r, a => by
    rw [List.foldl_cons, foldl_base b r (a * b + x), List.foldl_cons, foldl_base b r (0 * b + x), List.length_cons, Nat.pow_succ, Nat.zero_mul, Nat.zero_add, Nat.add_mul, Nat.mul_assoc, Nat.mul_comm b (b ^ r.length), Nat.add_assoc]
theorem beN_cons (x : Nat) (l : List Nat) : beN (x :: l) = x * 256 ^ l.length + beN l := by
  have := foldl_base 256 l (0 * 256 + x)
  rw [beN, List.foldl_cons, this, Nat.zero_mul, Nat.zero_add]; rfl
theorem binN_cons (x : Nat) (l : List Nat) : binN (x :: l) = x * 2 ^ l.length + binN l := by
  have := foldl_base 2 l (0 * 2 + x)
  rw [binN, List.foldl_cons, this, Nat.zero_mul, Nat.zero_add]; rfl
theorem beN_beB (v n : Nat) : beN (beB v n) = v % 256 ^ n := by
  induction n with
  | zero => simp [beB, beN, Nat.mod_one]
  | succ n ih => rw [beB, beN_cons, beB_len, ih, Nat.pow_succ, Nat.mod_mul]; rw [Nat.mul_comm, Nat.add_comm]
theorem binN_binB (v n : Nat) : binN (binB v n) = v % 2 ^ n := by
  induction n with
  | zero => simp [binB, binN, Nat.mod_one]
  | succ n ih => rw [binB, binN_cons, binB_len, ih, Nat.pow_succ, Nat.mod_mul]; rw [Nat.mul_comm, Nat.add_comm]
theorem beN8 {x : Nat} (h : x < 2 ^ 64) : beN (beB x 8) = x := by
  rw [beN_beB]; exact Nat.mod_eq_of_lt (by omega)
theorem rdv_leb (n : Nat) : ∀ (v : Nat), v ≤ n → ∀ (k acc : Nat) (r : List Nat), v * 128 ^ k < 2 ^ 64 → (k = 0 ∨ v ≠ 0) → k ≤ 9 → rdv k acc (leb v ++ r) = (acc + v * 128 ^ k, k + (leb v).length, 0) := by
  induction n using Nat.strongRecOn with
  | _ n ih =>
    intro v hv k acc r hlt h0 hk
    have h9 : k = 9 → v < 2 := by
      rintro rfl
      have : v * 128 ^ 9 < 2 * 128 ^ 9 := by omega
      exact Nat.lt_of_mul_lt_mul_right this
    by_cases h : v < 128
    · rw [leb_lt h, List.singleton_append, rdv, if_neg (by omega), if_neg (by omega), if_neg (by omega)]; rfl
    · rw [leb_ge h, List.cons_append, rdv, if_neg (by omega), if_pos (by omega)]
      have hp : 128 ^ (k + 1) = 128 ^ k * 128 := Nat.pow_succ ..
      have hd : v = v / 128 * 128 + v % 128 := by omega
      have he : v * 128 ^ k = v / 128 * 128 ^ (k + 1) + v % 128 * 128 ^ k := by
        rw [hp, Nat.mul_comm (128 ^ k), ← Nat.mul_assoc, ← Nat.add_mul, ← hd]
      have hk9 : k ≠ 9 := fun e => by have := h9 e; omega
      rw [show (v % 128 + 128) % 128 = v % 128 by omega, ih (v / 128) (by omega) (v / 128) (Nat.le_refl _) (k + 1) _ r (by omega) (.inr (by omega)) (by omega), List.length_cons]
      refine Prod.ext ?_ (Prod.ext ?_ rfl)
      · simp only; omega
      · simp only; omega
theorem readV_leb {v : Nat} (h : v < 2 ^ 64) (r : List Nat) : readV (leb v ++ r) = (v, (leb v).length, 0) := by
  rw [readV_eq, rdv_leb v v (Nat.le_refl _) 0 0 r (by simpa using h) (.inl rfl) (by omega)]
  simp
/-- A number that was read is read again where more follows. -/
theorem rdv_more : ∀ (l : List Nat) (k acc : Nat) (c : List Nat), (rdv k acc l).2.2 = 0 → rdv k acc (l ++ c) = rdv k acc l
  | [], k, acc, c, h => by simp [rdv] at h
  | x :: r, k, acc, c, h => by
    rw [List.cons_append]
    simp only [rdv] at h ⊢
    split at h <;> rename_i h1
    · simp at h
    rw [if_neg h1, if_neg h1]
    split at h <;> rename_i h2
    · rw [if_pos h2, if_pos h2]; exact rdv_more r _ _ c h
    · rw [if_neg h2, if_neg h2]
theorem readV_more {l : List Nat} (c : List Nat) (h : (readV l).2.2 = 0) : readV (l ++ c) = readV l := by
  rw [readV_eq] at h
  rw [readV_eq, readV_eq, rdv_more l 0 0 c h]
/-- The bits of packed bits. -/
theorem pk_bits (l : List Nat) : (∀ x ∈ l, x < 2) → ∀ k, (pk l).getD (k / 8) 0 / 2 ^ (7 - k % 8) % 2 = l.getD k 0 := by
  induction l using snoc_ind with
  | h0 => intro _ k; simp [pk]
  | h1 l b ih =>
    intro hb k
    have ih := ih (fun x hx => hb x (by simp [hx]))
    have hb2 := hb b (by simp)
    have hk := pk_len l
    have e0 : (l ++ [b]).getD k 0 = if k = l.length then b else l.getD k 0 := by
      simp only [List.getD_eq_getElem?_getD, List.getElem?_append]
      by_cases h1 : k < l.length
      · rw [if_pos h1, if_neg (by omega)]
      · rw [if_neg h1]
        by_cases h2 : k = l.length
        · subst h2; simp
        · rw [if_neg h2, List.getElem?_eq_none (l := [b]) (by simp only [List.length_singleton]; omega), List.getElem?_eq_none (l := l) (by omega)]
    have key : ∀ (q m i : Nat), m < 8 → i < 8 → i ≠ m → (q * 2 ^ (8 - m) + b * 2 ^ (7 - m)) / 2 ^ (7 - i) % 2 = q * 2 ^ (8 - m) / 2 ^ (7 - i) % 2 := by
      intro q m i hm hi hne
      have e8 : 2 ^ (8 - m) = 2 * 2 ^ (7 - m) := by rw [← Nat.pow_succ']; congr 1; omega
      have eq1 : q * 2 ^ (8 - m) + b * 2 ^ (7 - m) = (2 * q + b) * 2 ^ (7 - m) := by rw [e8, ← Nat.mul_assoc, ← Nat.add_mul, Nat.mul_comm q 2]
      have eq2 : q * 2 ^ (8 - m) = (2 * q) * 2 ^ (7 - m) := by rw [e8, ← Nat.mul_assoc, Nat.mul_comm q 2]
      rw [eq1, eq2]
      by_cases him : i < m
      · have e7 : 2 ^ (7 - i) = 2 ^ (7 - m) * 2 ^ (m - i) := by rw [← Nat.pow_add]; congr 1; omega
        rw [e7, ← Nat.div_div_eq_div_mul, ← Nat.div_div_eq_div_mul, Nat.mul_div_cancel _ (Nat.two_pow_pos _), Nat.mul_div_cancel _ (Nat.two_pow_pos _)]
        have e1 : 2 ^ (m - i) = 2 * 2 ^ (m - i - 1) := by rw [← Nat.pow_succ']; congr 1; omega
        rw [e1, ← Nat.div_div_eq_div_mul, ← Nat.div_div_eq_div_mul, show (2 * q + b) / 2 = q by omega, show 2 * q / 2 = q by omega]
      · have e7 : 2 ^ (7 - m) = 2 ^ (i - m - 1) * 2 * 2 ^ (7 - i) := by rw [← Nat.pow_succ, ← Nat.pow_add]; congr 1; omega
        rw [e7, ← Nat.mul_assoc, ← Nat.mul_assoc (2 * q), Nat.mul_div_cancel _ (Nat.two_pow_pos _), Nat.mul_div_cancel _ (Nat.two_pow_pos _), ← Nat.mul_assoc, ← Nat.mul_assoc, Nat.mul_mod_left, Nat.mul_mod_left]
    have same : ∀ (q m : Nat), m < 8 → (q * 2 ^ (8 - m) + b * 2 ^ (7 - m)) / 2 ^ (7 - m) % 2 = b := by
      intro q m hm
      have e8 : 2 ^ (8 - m) = 2 * 2 ^ (7 - m) := by rw [← Nat.pow_succ']; congr 1; omega
      have eq1 : q * 2 ^ (8 - m) + b * 2 ^ (7 - m) = (2 * q + b) * 2 ^ (7 - m) := by rw [e8, ← Nat.mul_assoc, ← Nat.add_mul, Nat.mul_comm q 2]
      rw [eq1, Nat.mul_div_cancel _ (Nat.two_pow_pos _)]
      omega
    rw [e0, pk_snoc]
    by_cases h8 : l.length % 8 = 0
    · rw [if_pos h8]
      have e1 : (pk l ++ [b * 128]).getD (k / 8) 0 = if k / 8 = l.length / 8 then b * 128 else (pk l).getD (k / 8) 0 := by
        simp only [List.getD_eq_getElem?_getD, List.getElem?_append]
        by_cases h1 : k / 8 < (pk l).length
        · rw [if_pos h1, if_neg (by omega)]
        · rw [if_neg h1]
          by_cases h2 : k / 8 = l.length / 8
          · rw [if_pos h2, show k / 8 - (pk l).length = 0 by omega]; rfl
          · rw [if_neg h2, List.getElem?_eq_none (l := [b * 128]) (by simp only [List.length_singleton]; omega), List.getElem?_eq_none (l := pk l) (by omega)]
      rw [e1]
      by_cases h2 : k / 8 = l.length / 8
      · rw [if_pos h2]
        by_cases h3 : k = l.length
        · rw [if_pos h3]
          have := same 0 0 (by omega)
          rw [show k % 8 = 0 by omega]; simpa using this
        · rw [if_neg h3]
          have h4 : l.getD k 0 = 0 := by rw [List.getD_eq_getElem?_getD, List.getElem?_eq_none (by omega)]; rfl
          have := key 0 0 (k % 8) (by omega) (by omega) (by omega)
          rw [h4]; simpa using this
      · rw [if_neg h2, if_neg (fun e => h2 (by rw [e]))]
        exact ih k
    · rw [if_neg h8, getD_set]
      by_cases h2 : l.length / 8 = k / 8
      · rw [if_pos ⟨h2, by omega⟩]
        have hdiv : (pk l).getD (l.length / 8) 0 = (pr l).getD (l.length / 8) 0 * 2 ^ (8 - l.length % 8) := by
          have := pr_pk l (l.length / 8)
          rw [if_pos rfl, show (8 - l.length % 8) % 8 = 8 - l.length % 8 by omega] at this
          exact this
        have ihk := ih k
        rw [← h2, hdiv] at ihk
        rw [hdiv]
        by_cases h3 : k = l.length
        · rw [if_pos h3, h3]; exact same _ _ (by omega)
        · rw [if_neg h3, key _ _ (k % 8) (by omega) (by omega) (by omega)]
          exact ihk
      · rw [if_neg (fun h => h2 h.1), if_neg (fun e => h2 (by rw [e]))]
        exact ih k
theorem unb_pk {l : List Nat} (h : ∀ x ∈ l, x < 2) : unb (pk l) = l ++ List.replicate (8 * ((l.length + 7) / 8) - l.length) 0 := by
  refine ext_getD (by rw [unb_len, pk_len, List.length_append, List.length_replicate]; omega) (fun k => ?_)
  have e1 : (unb (pk l)).getD k 0 = (pk l).getD (k / 8) 0 / 2 ^ (7 - k % 8) % 2 := by
    by_cases hk : k / 8 < (pk l).length
    · rw [List.getD_eq_getElem?_getD, unb_get _ _ hk, getD_get hk]; rfl
    · rw [List.getD_eq_getElem?_getD, List.getElem?_eq_none (by rw [unb_len]; omega), List.getD_eq_getElem?_getD, List.getElem?_eq_none (by omega)]; simp
  rw [e1, pk_bits l h]
  simp only [List.getD_eq_getElem?_getD, List.getElem?_append]
  by_cases hk : k < l.length
  · rw [if_pos hk]
  · rw [if_neg hk, List.getElem?_eq_none (by omega), List.getElem?_replicate]
    split <;> rfl
end Go.Ck

set_option linter.unusedVariables false
/-! There and back. -/
namespace Go.Ck
theorem flat_dropN {α : Type} (f : α → List Nat) (w : Nat) (hf : ∀ x, (f x).length = w) : ∀ (xs : List α) (i : Nat), (xs.flatMap f).drop (w * i) = (xs.drop i).flatMap f
  | xs, 0 => by simp
  | [], i + 1 => by simp
  | x :: r, i + 1 => by
    rw [List.flatMap_cons, List.drop_succ_cons, Nat.mul_succ, Nat.add_comm, ← List.drop_drop, ← hf x, List.drop_left, hf x, flat_dropN f w hf r i]
theorem flat_takeN {α : Type} (f : α → List Nat) (w : Nat) (hf : ∀ x, (f x).length = w) (xs : List α) (c : List Nat) (i : Nat) (h : i < xs.length) : ((xs.flatMap f ++ c).drop (w * i)).take w = f xs[i] := by
  have hlen : w * i ≤ (xs.flatMap f).length := by
    have e : (xs.flatMap f).length = w * xs.length := by
      clear h
      induction xs with
      | nil => simp
      | cons x r ih => rw [List.flatMap_cons, List.length_append, hf, ih, List.length_cons, Nat.mul_succ, Nat.add_comm]
    rw [e]; exact Nat.mul_le_mul_left _ (by omega)
  rw [List.drop_append_of_le_length hlen, flat_dropN f w hf, List.drop_eq_getElem_cons h, List.flatMap_cons, List.append_assoc, ← hf xs[i], List.take_left]
theorem dic_flat {d : List Nat} (hd : ∀ x ∈ d, x < 2 ^ 64) (c : List Nat) : dic ((d.flatMap fun x => beB x 8) ++ c) d.length = d := by
  refine List.ext_getElem (dic_len _ _) (fun i h1 h2 => ?_)
  simp only [dic, List.getElem_map, List.getElem_range]
  rw [flat_takeN (fun x => beB x 8) 8 (fun x => beB_len x 8) d c i h2]
  exact beN8 (hd _ (List.getElem_mem h2))
theorem dic_encP {xs : List Nat} (hx : ∀ x ∈ xs, x < 2 ^ 64) : dic (encP xs) xs.length = xs := by
  have := dic_flat hx []
  rwa [List.append_nil] at this
theorem ixs_enc {xs : List Nat} {i : Nat} (h : i < xs.length) : ixs ((dd xs).flatMap (fun x => beB x 8) ++ pk (bits10 (dd xs) xs)) (dd xs).length i = (plc xs[i] (dd xs) 0).toNat := by
  have hl : ((dd xs).flatMap fun x => beB x 8).length = 8 * (dd xs).length := be8_len _
  unfold ixs
  rw [← hl, List.drop_left, unb_pk (bits10_bit _ _)]
  unfold getB
  rw [Nat.mul_comm i]
  unfold bits10
  rw [flat_takeN (fun x => binB (plc x (dd xs) 0).toNat (wd (dd xs).length)) (wd (dd xs).length) (fun x => binB_len _ _) xs _ i h, binN_binB]
  obtain ⟨k, h1, h2, _⟩ := plc_mem (i := 0) ((dd_mem xs xs[i]).2 (List.getElem_mem h))
  rw [h1]
  simp only [Nat.zero_add, Int.toNat_natCast]
  exact Nat.mod_eq_of_lt (wd_lt h2)
theorem dec10_enc10 {xs : List Nat} (hx : ∀ x ∈ xs, x < 2 ^ 64) (hl : xs.length ≤ 65536) : dec10 (enc10 xs) xs.length = (xs, 0) := by
  have hdl := dd_len xs
  have hu : (dd xs).length < 2 ^ 64 := by omega
  have hr := readV_leb hu ((dd xs).flatMap (fun x => beB x 8) ++ pk (bits10 (dd xs) xs))
  have he : enc10 xs = leb (dd xs).length ++ ((dd xs).flatMap (fun x => beB x 8) ++ pk (bits10 (dd xs) xs)) := by rw [enc10, head10, List.append_assoc]
  have hrl : ((dd xs).flatMap (fun x => beB x 8) ++ pk (bits10 (dd xs) xs)).length = 8 * (dd xs).length + (wd (dd xs).length * xs.length + 7) / 8 := by
    rw [List.length_append, be8_len, pk_len, bits10_len]
  have hix : ∀ i, (h : i < xs.length) → ixs ((dd xs).flatMap (fun x => beB x 8) ++ pk (bits10 (dd xs) xs)) (dd xs).length i < (dd xs).length ∧ (dd xs).getD (ixs ((dd xs).flatMap (fun x => beB x 8) ++ pk (bits10 (dd xs) xs)) (dd xs).length i) 0 = xs[i] := by
    intro i h
    rw [ixs_enc h]
    obtain ⟨k, h1, h2, h3⟩ := plc_mem (i := 0) ((dd_mem xs xs[i]).2 (List.getElem_mem h))
    rw [h1]
    simp only [Nat.zero_add, Int.toNat_natCast]
    exact ⟨h2, by rw [List.getD_eq_getElem?_getD, h3]; rfl⟩
  unfold dec10
  rw [he, hr]
  simp only [ne_eq, not_true, if_false, List.drop_left]
  rw [if_neg (by omega)]
  generalize hR : (dd xs).flatMap (fun x => beB x 8) ++ pk (bits10 (dd xs) xs) = r at *
  have hfit : fit10 r (dd xs).length xs.length = true := by
    rw [fit10, List.all_eq_true]
    intro i hi
    simp only [List.mem_range] at hi
    simpa using (hix i hi).1
  have hdd : ∀ x ∈ dd xs, x < 2 ^ 64 := fun x h => hx x ((dd_mem xs x).1 h)
  have hpat : pats r (dd xs).length xs.length = xs := by
    refine List.ext_getElem (pats_len _ _ _) (fun i h1 h2 => ?_)
    simp only [pats, List.getElem_map, List.getElem_range]
    rw [← hR, dic_flat hdd, hR]
    exact (hix i h2).2
  unfold dec10b
  rw [if_neg (by omega), if_neg (by rw [Nat.mul_comm xs.length]; omega), hfit, if_neg (by simp), hpat, he, if_pos rfl]
/-! patterns against the one ahead -/
def wa : Option (Nat × Nat) → Int
  | none => -1
  | some (l, _) => l
def wz : Option (Nat × Nat) → Int
  | none => 0
  | some (_, t) => t
theorem tzn_dvd (n : Nat) : ∀ (x : Nat), x ≤ n → x ≠ 0 → x % 2 ^ tzn x = 0 := by
  induction n using Nat.strongRecOn with
  | _ n ih =>
    intro x hx h0
    by_cases h : x % 2 = 1
    · rw [tzn_odd h]; simp [Nat.mod_one]
    · rw [tzn_even h0 (by omega), Nat.pow_succ', Nat.mod_mul, ih (x / 2) (by omega) (x / 2) (Nat.le_refl _) (by omega)]
      omega
theorem shift_back {x t : Nat} (h0 : x ≠ 0) (h : t ≤ tzn x) : x / 2 ^ t * 2 ^ t = x := by
  have h1 := tzn_dvd x x (Nat.le_refl _) h0
  have h2 : 2 ^ t ∣ 2 ^ tzn x := Nat.pow_dvd_pow 2 h
  exact Nat.div_mul_cancel (Nat.dvd_trans h2 (Nat.dvd_of_mod_eq_zero h1))
theorem getB_at {B p rest : List Nat} {k : Nat} (h : B.drop k = p ++ rest) {j n : Nat} (hj : j + n ≤ p.length) : getB B (k + j) n = binN ((p.drop j).take n) := by
  unfold getB
  rw [← List.drop_drop, h, List.drop_append_of_le_length (by omega), List.take_append_of_le_length (by simp; omega)]
theorem len_at {B p rest : List Nat} {k : Nat} (h : B.drop k = p ++ rest) (hp : 0 < p.length) : k + p.length ≤ B.length := by
  have := congrArg List.length h
  simp at this
  omega
theorem fitsW_some {w : Option (Nat × Nat)} {x : Nat} (h : fitsW w x = true) : ∃ l t, w = some (l, t) ∧ l ≤ 64 - blen x ∧ t ≤ tzn x := by
  rcases w with _ | ⟨l, t⟩
  · simp [fitsW] at h
  · simp [fitsW] at h; exact ⟨l, t, rfl, h.1, h.2⟩
theorem binN_take1 (a : Nat) (r : List Nat) : binN (List.take 1 (a :: r)) = a := by simp [binN]
theorem gNy_val {B p rest : List Nat} {k l t x : Nat} (hp : B.drop k = binB (x / 2 ^ t) (64 - l - t) ++ rest) (hx : x < 2 ^ 64) (h0 : x ≠ 0) (hl : l ≤ 64 - blen x) (ht : t ≤ tzn x) (hlt : l + t ≤ 63) :
    gNy B k (l : Int) (t : Int) = ⟨x, 0, k + (64 - l - t), l, t⟩ := by
  have hR : (64 - (l : Int) - (t : Int)).toNat = 64 - l - t := by omega
  have hlen := len_at hp (by rw [binB_len]; omega)
  rw [binB_len] at hlen
  have hg := getB_at hp (j := 0) (n := 64 - l - t) (by rw [binB_len]; omega)
  rw [Nat.add_zero, List.drop_zero, List.take_of_length_le (by rw [binB_len]; omega), binN_binB, Nat.mod_eq_of_lt (fit_lt hx hl hlt)] at hg
  rw [gNy, if_neg (by omega), hR, Int.toNat_natCast, if_pos hlen, hg, shift_back h0 ht, Nat.mod_eq_of_lt hx]
theorem gNx_step {B rest : List Nat} {k x : Nat} {w : Option (Nat × Nat)} (h : B.drop k = (gStep w x).1 ++ rest) (hx : x < 2 ^ 64) (hw : winOK w) :
    gNx B k (wa w) (wz w) = ⟨x, 0, k + (gStep w x).1.length, wa (gStep w x).2, wz (gStep w x).2⟩ := by
  by_cases h0 : x = 0
  · subst h0
    rw [gStep_zero] at h ⊢
    simp only at h ⊢
    have hlen := len_at h (by simp)
    have hg := getB_at h (j := 0) (n := 1) (by simp)
    rw [Nat.add_zero, List.drop_zero, binN_take1] at hg
    simp only [List.length_singleton] at hlen ⊢
    rw [gNx, if_neg (by omega), if_pos hg]
  cases hf : fitsW w x with
  | true =>
    obtain ⟨l, t, rfl, hl, ht⟩ := fitsW_some hf
    have hlt := (hw l t rfl).1
    rw [gStep_fits h0 hf] at h ⊢
    simp only at h ⊢
    have hlen := len_at h (by simp)
    have hg0 := getB_at h (j := 0) (n := 1) (by simp)
    have hg1 := getB_at h (j := 1) (n := 1) (by simp)
    rw [Nat.add_zero, List.drop_zero, List.cons_append, binN_take1] at hg0
    rw [List.cons_append, List.drop_succ_cons, List.drop_zero, List.cons_append, binN_take1] at hg1
    have hd : B.drop (k + 2) = binB (x / 2 ^ t) (64 - l - t) ++ rest := by
      rw [← List.drop_drop, h]; rfl
    have hy := gNy_val (p := []) hd hx h0 hl ht hlt
    simp only [List.length_append, List.length_cons, List.length_nil, binB_len] at hlen ⊢
    rw [gNx, if_neg (by omega), if_neg (by omega), if_neg (by omega), if_neg (by omega)]
    simp only [wa, wz]
    rw [hy]
    simp only [GN.mk.injEq, true_and, and_true]
    omega
  | false =>
    obtain ⟨n1, n2⟩ := newW_ok h0 hx
    obtain ⟨m1, m2⟩ := @newW_fits x
    rw [gStep_new h0 hf] at h ⊢
    generalize hq : newW x = q at *
    obtain ⟨l, t⟩ := q
    simp only at h n1 n2 m1 m2 ⊢
    have hlen := len_at h (by simp)
    simp only [List.length_append, List.length_cons, List.length_nil, binB_len] at hlen ⊢
    have hpl : ([1, 1] ++ binB l 5 ++ binB (63 - l - t) 6 ++ binB (x / 2 ^ t) (64 - l - t)).length = 13 + (64 - l - t) := by simp [binB_len]; omega
    have hg0 := getB_at h (j := 0) (n := 1) (by omega)
    have hg1 := getB_at h (j := 1) (n := 1) (by omega)
    have hg2 := getB_at h (j := 2) (n := 5) (by omega)
    have hg7 := getB_at h (j := 7) (n := 6) (by omega)
    have e0 : binN (List.take 1 (List.drop 0 ([1, 1] ++ binB l 5 ++ binB (63 - l - t) 6 ++ binB (x / 2 ^ t) (64 - l - t)))) = 1 := rfl
    have e1 : binN (List.take 1 (List.drop 1 ([1, 1] ++ binB l 5 ++ binB (63 - l - t) 6 ++ binB (x / 2 ^ t) (64 - l - t)))) = 1 := rfl
    have e2 : List.take 5 (List.drop 2 ([1, 1] ++ binB l 5 ++ binB (63 - l - t) 6 ++ binB (x / 2 ^ t) (64 - l - t))) = binB l 5 := rfl
    have e7 : List.take 6 (List.drop 7 ([1, 1] ++ binB l 5 ++ binB (63 - l - t) 6 ++ binB (x / 2 ^ t) (64 - l - t))) = binB (63 - l - t) 6 := rfl
    rw [e0, Nat.add_zero] at hg0
    rw [e1] at hg1
    rw [e2, binN_binB, Nat.mod_eq_of_lt (by omega)] at hg2
    rw [e7, binN_binB, Nat.mod_eq_of_lt (by omega)] at hg7
    have hd : B.drop (k + 13) = binB (x / 2 ^ t) (64 - l - t) ++ rest := by
      rw [← List.drop_drop, h]; rfl
    have hy := gNy_val (p := []) hd hx h0 m1 m2 n1
    rw [gNx, if_neg (by omega), if_neg (by omega), if_neg (by omega), if_pos hg1, if_neg (by omega), if_neg (by omega), hg2, hg7]
    have e3 : (63 - (l : Int) - ((63 - l - t : Nat) : Int)) = (t : Int) := by omega
    rw [e3, hy]
    simp only [wa, wz, GN.mk.injEq, true_and, and_true]
    omega
theorem gF_prefix (xs : List Nat) : ∀ i, i ≤ xs.length → ∃ s, (gF xs).1 = (gF (xs.take i)).1 ++ s := by
  induction xs using snoc_ind with
  | h0 => intro i hi; exact ⟨[], by simp⟩
  | h1 l b ih =>
    intro i hi
    by_cases h : i ≤ l.length
    · rw [List.take_append_of_le_length h]
      by_cases h0 : l = []
      · subst h0
        have : i = 0 := by simpa using h
        subst this
        exact ⟨_, by simp [gF]; rfl⟩
      · obtain ⟨s, hs⟩ := ih i h
        rw [gF_snoc, gS]
        have hlast := gF_last l
        cases hp : (gF l).2.2 with
        | none => rw [hp] at hlast; exact absurd (List.getLast?_eq_none_iff.1 hlast.symm) h0
        | some p => exact ⟨s ++ (gStep (gF l).2.1 (b ^^^ p)).1, by show (gF l).1 ++ _ = _; rw [hs, List.append_assoc]⟩
    · rw [List.take_of_length_le (by simp at hi ⊢; omega)]
      exact ⟨[], by simp⟩
theorem gR_enc {xs : List Nat} (hx : ∀ x ∈ xs, x < 2 ^ 64) (c : List Nat) : ∀ i, i ≤ xs.length → gR ((gF xs).1 ++ c) i = ⟨xs.take i, 0, (gF (xs.take i)).1.length, wa (gF (xs.take i)).2.1, wz (gF (xs.take i)).2.1⟩
  | 0, _ => by simp [gR, gF, wa, wz]
  | i + 1, hi => by
    have ih := gR_enc hx c i (by omega)
    have hlt : i < xs.length := hi
    have hti : xs.take (i + 1) = xs.take i ++ [xs[i]] := by simp
    obtain ⟨s, hs⟩ := gF_prefix xs (i + 1) hi
    have hxt : ∀ x ∈ xs.take i, x < 2 ^ 64 := fun x h => hx x (List.mem_of_mem_take h)
    have hxi := hx _ (List.getElem_mem hlt)
    have hok := gF_ok (xs.take i) hxt
    have hlast := gF_last (xs.take i)
    by_cases h0 : i = 0
    · subst h0
      have ih0 : gR ((gF xs).1 ++ c) 0 = ⟨[], 0, 0, -1, 0⟩ := rfl
      rw [gR, ih0, gRs, if_neg (by simp)]
      simp only [List.length_nil, if_true, Nat.zero_add]
      have hg : gF (xs.take 1) = (binB xs[0] 64, none, some xs[0]) := by rw [hti]; rfl
      rw [hg] at hs ⊢
      simp only [binB_len]
      simp only at hs
      have hlen : ((gF xs).1 ++ c).length = 64 + (s.length + c.length) := by rw [hs]; simp [binB_len, Nat.add_assoc]
      have hgb := getB_at (B := (gF xs).1 ++ c) (k := 0) (p := binB xs[0] 64) (rest := s ++ c) (by rw [List.drop_zero, hs, List.append_assoc]) (j := 0) (n := 64) (by simp [binB_len])
      rw [List.drop_zero, List.take_of_length_le (by simp [binB_len]), binN_binB, Nat.mod_eq_of_lt hxi, Nat.zero_add] at hgb
      rw [if_pos (by omega), hgb]
      rw [hti]; rfl
    · rw [gR, ih, gRs, if_neg (by simp)]
      simp only
      have htl : (xs.take i).length = i := by rw [List.length_take]; omega
      rw [if_neg (by rw [htl]; exact h0)]
      have hlp : (xs.take i).getLast? = some (xs.getD (i - 1) 0) := by
        rw [List.getLast?_eq_getElem?, List.length_take, List.getElem?_take, List.getD_eq_getElem?_getD]
        rw [show min i xs.length = i by omega, if_pos (by omega), List.getElem?_eq_getElem (by omega)]
        rfl
      rw [hlp] at hlast
      have hpd : (xs.take i).getD ((xs.take i).length - 1) 0 = xs.getD (i - 1) 0 := by
        rw [htl, List.getD_eq_getElem?_getD, List.getD_eq_getElem?_getD, List.getElem?_take, if_pos (by omega)]
      have hpl : xs.getD (i - 1) 0 < 2 ^ 64 := getD_lt hx (by omega) _
      have hg : gF (xs.take (i + 1)) = ((gF (xs.take i)).1 ++ (gStep (gF (xs.take i)).2.1 (xs[i] ^^^ xs.getD (i - 1) 0)).1, (gStep (gF (xs.take i)).2.1 (xs[i] ^^^ xs.getD (i - 1) 0)).2, some xs[i]) := by
        rw [hti, gF_snoc, gS, hlast]
      rw [hg] at hs ⊢
      simp only at hs ⊢
      have hstep := gNx_step (B := (gF xs).1 ++ c) (k := (gF (xs.take i)).1.length) (w := (gF (xs.take i)).2.1) (x := xs[i] ^^^ xs.getD (i - 1) 0) (rest := s ++ c)
        (by rw [hs, List.append_assoc, List.append_assoc, List.drop_left]) (Nat.xor_lt_two_pow hxi hpl) hok
      rw [hstep]
      simp only [if_true]
      rw [hpd, Nat.xor_assoc, Nat.xor_self, Nat.xor_zero, ← hti]
      simp only [List.length_append]
theorem dec09_enc09 {xs : List Nat} (hx : ∀ x ∈ xs, x < 2 ^ 64) : dec09 (enc09 xs) xs.length = (xs, 0) := by
  have h : unb (enc09 xs) = (gF xs).1 ++ List.replicate (8 * (((gF xs).1.length + 7) / 8) - (gF xs).1.length) 0 := unb_pk (gF_bit xs)
  unfold dec09
  rw [h, gR_enc hx _ xs.length (Nat.le_refl _)]
  simp
end Go.Ck

set_option linter.unusedVariables false
/-! The laws of the patterns' layer. -/
namespace Go.Ck
theorem wayS_cases {xs : List Nat} {t : Nat} (ht : t < 4) (hl : xs.length ≤ 65536) : (t = 0 ∧ wayS xs t = (encP xs, 0)) ∨ (t = 1 ∧ wayS xs t = if oneV xs = false ∨ xs = [] then ([], 1) else (encP (xs.take 1), 0)) ∨ (t = 2 ∧ wayS xs t = (enc10 xs, 0)) ∨ (t = 3 ∧ wayS xs t = (enc09 xs, 0)) := by
  have hl' : ¬ 65536 < xs.length := by omega
  have hc : t = 0 ∨ t = 1 ∨ t = 2 ∨ t = 3 := by omega
  rcases hc with rfl | rfl | rfl | rfl
  · exact .inl ⟨rfl, wayS_zero hl'⟩
  · refine .inr (.inl ⟨rfl, ?_⟩)
    rw [wayS, if_neg (by omega), if_neg hl']; rfl
  · refine .inr (.inr (.inl ⟨rfl, ?_⟩))
    rw [wayS, if_neg (by omega), if_neg hl']; rfl
  · refine .inr (.inr (.inr ⟨rfl, ?_⟩))
    rw [wayS, if_neg (by omega), if_neg hl']; rfl
theorem oneV_rep {xs : List Nat} (h : oneV xs = true) : xs = List.replicate xs.length (xs.getD 0 0) := by
  refine List.eq_replicate_of_mem (fun x hx => ?_)
  simpa using List.all_eq_true.1 h x hx
theorem rd11_way {xs : List Nat} {t : Nat} (hx : ∀ x ∈ xs, x < 2 ^ 64) (ht : t < 4) (hl : xs.length ≤ 65536) (h : (wayS xs t).2 = 0) : rd11 (wayS xs t).1 xs.length t = (xs, 0) := by
  rcases wayS_cases ht hl with ⟨rfl, e⟩ | ⟨rfl, e⟩ | ⟨rfl, e⟩ | ⟨rfl, e⟩
  · rw [e]
    unfold rd11
    rw [if_neg (by omega), if_neg (by omega), if_neg (show ¬ (0 = 1) by omega), encP_len, if_neg (by omega), if_neg (by omega), if_neg (by omega), dic_encP hx]
  · rw [e] at h ⊢
    split at h
    · cases h
    · rename_i hn
      rw [if_neg hn]
      have h1 : oneV xs = true := by cases ho : oneV xs <;> simp [ho] at hn ⊢
      have h2 : xs ≠ [] := fun h => hn (.inr h)
      have hr := oneV_rep h1
      obtain ⟨y, r, rfl⟩ : ∃ y r, xs = y :: r := by cases xs with | nil => exact absurd rfl h2 | cons y r => exact ⟨y, r, rfl⟩
      have he : encP ((y :: r).take 1) = beB y 8 := by simp [encP]
      unfold rd11
      rw [he, if_neg (by omega), if_neg (by omega), if_pos rfl, beB_len, if_neg (by omega), if_neg (by omega), if_pos rfl, List.take_of_length_le (by rw [beB_len]; omega), beN8 (hx y (by simp))]
      have hr2 : y :: r = List.replicate (y :: r).length y := hr
      rw [← hr2]
  · rw [e]; simp only [rd11, if_true]; exact dec10_enc10 hx hl
  · rw [e]; unfold rd11; rw [if_neg (by omega), if_pos rfl]; exact dec09_enc09 hx
theorem bestB_way {xs : List Nat} (hl : ¬ 65536 < xs.length) (n : Nat) : (wayS xs (bestB xs n).1).2 = 0 ∧ (bestB xs n).2 = (wayS xs (bestB xs n).1).1 := by
  induction n with
  | zero =>
    rw [bestB_zero]
    have : wayS xs ((0 : Nat) : Int) = (encP xs, 0) := wayS_zero hl
    rw [this]
    exact ⟨rfl, rfl⟩
  | succ n ih =>
    rw [bestB_succ, stepB]
    split
    · rename_i h; exact ⟨h.1, rfl⟩
    · exact ih
theorem bestB_min {xs : List Nat} (hl : ¬ 65536 < xs.length) (n : Nat) : ∀ t, t ≤ n → (wayS xs t).2 = 0 → (bestB xs n).2.length ≤ (wayS xs t).1.length := by
  induction n with
  | zero =>
    intro t ht _
    have : t = 0 := by omega
    subst this
    have : wayS xs ((0 : Nat) : Int) = (encP xs, 0) := wayS_zero hl
    rw [bestB_zero, this]
    exact Nat.le_refl _
  | succ n ih =>
    intro t ht h
    rw [bestB_succ, stepB]
    by_cases he : t = n + 1
    · subst he
      split
      · exact Nat.le_refl _
      · rename_i h2
        exact Nat.le_of_not_lt (fun h3 => h2 ⟨h, h3⟩)
    · have := ih t (by omega) h
      split
      · rename_i h2; exact Nat.le_of_lt (Nat.lt_of_lt_of_le h2.2 this)
      · exact this
theorem encV_ok {xs : List Nat} (hl : xs.length ≤ 65536) : encV xs = ((bestB xs 3).1 :: (bestB xs 3).2, 0) := by rw [encV, if_neg (by omega)]
theorem encV_min {xs : List Nat} (hl : xs.length ≤ 65536) (w : Int) (h : (wayS xs w).2 = 0) : (encV xs).1.length ≤ (wayS xs w).1.length + 1 := by
  rw [encV_ok hl]
  simp only [List.length_cons]
  by_cases hw : w < 0 ∨ 4 ≤ w
  · rw [wayS, if_pos hw] at h; cases h
  · obtain ⟨t, rfl⟩ : ∃ t : Nat, w = t := ⟨w.toNat, by omega⟩
    have := bestB_min (by omega) 3 t (by omega) h
    omega
theorem dec11_encV {xs : List Nat} (hx : ∀ x ∈ xs, x < 2 ^ 64) (hl : xs.length ≤ 65536) : dec11 (encV xs).1 xs.length = (xs, 0) := by
  have ht := bestB_tag xs 3
  obtain ⟨h1, h2⟩ := bestB_way (xs := xs) (by omega) 3
  have hr := rd11_way hx (t := (bestB xs 3).1) (by omega) hl h1
  rw [← h2] at hr
  have he := encV_ok hl
  rw [he]
  simp only
  rw [dec11_cons _ _ (by omega), hr, if_neg (by omega)]
  simp only [ne_eq, not_true, if_false]
  rw [he]
  simp
/-! a decoding reads what it needs alone -/
theorem getB_more {B : List Nat} (C : List Nat) {k n : Nat} (h : k + n ≤ B.length) : getB (B ++ C) k n = getB B k n := by
  unfold getB
  rw [List.drop_append_of_le_length (by omega), List.take_append_of_le_length (by simp; omega)]
theorem gNy_more {B : List Nat} (C : List Nat) {k : Nat} {a z : Int} (h : (gNy B k a z).e = 0) : gNy (B ++ C) k a z = gNy B k a z := by
  unfold gNy at h ⊢
  split at h <;> rename_i h1
  · cases h
  rw [if_neg h1, if_neg h1]
  split at h <;> rename_i h2
  · rw [if_pos h2, if_pos (by rw [List.length_append]; omega), getB_more C h2]
  · cases h
theorem gNx_more {B : List Nat} (C : List Nat) {k : Nat} {a z : Int} (h : (gNx B k a z).e = 0) : gNx (B ++ C) k a z = gNx B k a z := by
  unfold gNx at h ⊢
  split at h <;> rename_i h1
  · cases h
  rw [if_neg h1, if_neg (by rw [List.length_append]; omega), getB_more C (by omega)]
  split at h <;> rename_i h2
  · rw [if_pos h2, if_pos h2]
  rw [if_neg h2, if_neg h2]
  split at h <;> rename_i h3
  · cases h
  rw [if_neg h3, if_neg (by rw [List.length_append]; omega), getB_more C (by omega)]
  split at h <;> rename_i h4
  · rw [if_pos h4, if_pos h4]
    split at h <;> rename_i h5
    · cases h
    rw [if_neg h5, if_neg (by rw [List.length_append]; omega)]
    split at h <;> rename_i h6
    · cases h
    rw [if_neg h6, if_neg (by rw [List.length_append]; omega), getB_more C (by omega), getB_more C (by omega)]
    exact gNy_more C h
  · rw [if_neg h4, if_neg h4]; exact gNy_more C h
theorem gR_more {B : List Nat} (C : List Nat) : ∀ n, (gR B n).e = 0 → gR (B ++ C) n = gR B n
  | 0, _ => rfl
  | n + 1, h => by
    by_cases h0 : (gR B n).e = 0
    · have ih := gR_more C n h0
      rw [gR, ih, gR]
      rw [gR] at h
      generalize gR B n = r at *
      have hg : ∀ D, gRs D r = if r.o.length = 0 then (if r.k + 64 ≤ D.length then ⟨[getB D r.k 64], 0, r.k + 64, r.a, r.z⟩ else ⟨[], 2, r.k, r.a, r.z⟩)
          else ⟨if (gNx D r.k r.a r.z).e = 0 then r.o ++ [(gNx D r.k r.a r.z).x ^^^ r.o.getD (r.o.length - 1) 0] else r.o, (gNx D r.k r.a r.z).e, (gNx D r.k r.a r.z).k, (gNx D r.k r.a r.z).a, (gNx D r.k r.a r.z).z⟩ := fun D => by
        rw [gRs, if_neg (fun hn => hn h0)]
      rw [hg] at h ⊢
      rw [hg]
      split at h <;> rename_i h1
      · rw [if_pos h1, if_pos h1]
        split at h <;> rename_i h2
        · rw [if_pos h2, if_pos (by rw [List.length_append]; omega), getB_more C h2]
        · cases h
      · rw [if_neg h1, if_neg h1]
        simp only at h
        rw [gNx_more C h]
    · have : gR B (n + 1) = gR B n := gR_stop (by omega) h0
      rw [this] at h
      exact absurd h h0
theorem dec09_pf {r c : List Nat} {n : Nat} (h1 : (dec09 r n).2 = 0) (h2 : (dec09 (r ++ c) n).2 = 0) : (dec09 (r ++ c) n).1 = (dec09 r n).1 := by
  unfold dec09 at h1 h2 ⊢
  split at h1 <;> rename_i a1
  · exact absurd h1 a1
  have hm := gR_more (B := unb r) (unb c) n (by simpa using a1)
  rw [← unb_append] at hm
  rw [hm] at h2 ⊢
  rw [if_neg a1] at h2 ⊢
  rw [if_neg a1]
  split at h1 <;> rename_i a2
  · split at h2 <;> rename_i a3
    · rw [if_pos a2, if_pos a3]
    · cases h2
  · cases h1
theorem dic_more {r : List Nat} (c : List Nat) {u : Nat} (h : 8 * u ≤ r.length) : dic (r ++ c) u = dic r u := by
  unfold dic
  refine List.map_congr_left (fun i hi => ?_)
  have hi : i < u := by simpa using hi
  rw [List.drop_append_of_le_length (by omega), List.take_append_of_le_length (by simp; omega)]
theorem dec10_parts {l : List Nat} {n : Nat} (h : (dec10 l n).2 = 0) : (readV l).2.2 = 0 ∧ 8 * (readV l).1 ≤ (l.drop (readV l).2.1).length ∧ n * wd (readV l).1 ≤ 8 * ((l.drop (readV l).2.1).length - 8 * (readV l).1) ∧ (dec10 l n).1 = pats (l.drop (readV l).2.1) (readV l).1 n := by
  unfold dec10 dec10b at h ⊢
  split at h <;> rename_i h1
  · exact absurd h h1
  rw [if_neg h1]
  split at h <;> rename_i h2
  · cases h
  rw [if_neg h2]
  split at h <;> rename_i h3
  · cases h
  rw [if_neg h3]
  split at h <;> rename_i h4
  · cases h
  rw [if_neg h4]
  split at h <;> rename_i h5
  · cases h
  rw [if_neg h5]
  split at h <;> rename_i h6
  · rw [if_pos h6]; exact ⟨by simpa using h1, by omega, by omega, rfl⟩
  · cases h
theorem dec10_pf {r c : List Nat} {n : Nat} (h1 : (dec10 r n).2 = 0) (h2 : (dec10 (r ++ c) n).2 = 0) : (dec10 (r ++ c) n).1 = (dec10 r n).1 := by
  obtain ⟨a1, a2, a3, a4⟩ := dec10_parts h1
  obtain ⟨_, _, _, b4⟩ := dec10_parts h2
  have hle := readV_le r
  rw [readV_more c a1, List.drop_append_of_le_length hle] at b4
  rw [a4, b4]
  generalize r.drop (readV r).2.1 = q at *
  generalize (readV r).1 = u at *
  unfold pats
  refine List.map_congr_left (fun i hi => ?_)
  have hi : i < n := by simpa using hi
  have hix : ixs (q ++ c) u i = ixs q u i := by
    unfold ixs
    rw [List.drop_append_of_le_length a2, unb_append, getB_more]
    rw [unb_len, List.length_drop]
    have := Nat.mul_le_mul_right (wd u) hi
    rw [Nat.succ_mul] at this
    omega
  rw [dic_more c a2, hix]
theorem dec11_pf {b c : List Nat} {n : Int} (h1 : (dec11 b n).2 = 0) (h2 : (dec11 (b ++ c) n).2 = 0) : c = [] := by
  obtain ⟨n0, n1, t, r, rfl, ht, a1, a2, a3⟩ := dec11_ok h1
  obtain ⟨_, _, t', r', e, _, b1, b2, b3⟩ := dec11_ok h2
  rw [List.cons_append] at e
  obtain ⟨rfl, rfl⟩ := List.cons.inj e
  have same : (rd11 (r ++ c) n.toNat t).1 = (rd11 r n.toNat t).1 → c = [] := by
    intro hs
    rw [b2, hs, ← a2, a3] at b3
    have hlen := congrArg List.length b3
    simp only [List.length_append, List.length_cons] at hlen
    exact List.length_eq_zero_iff.1 (by omega)
  have len : ∀ m : Nat, r.length = m → (r ++ c).length = m → c = [] := by
    intro m e1 e2
    rw [List.length_append] at e2
    exact List.length_eq_zero_iff.1 (by omega)
  have hc : t = 2 ∨ t = 3 ∨ t < 2 := by omega
  rcases hc with rfl | rfl | h
  · have e : ∀ l n, rd11 l n 2 = dec10 l n := fun l n => by simp [rd11]
    rw [e] at a1 b1
    exact same (by rw [e, e]; exact dec10_pf a1 b1)
  · have e : ∀ l n, rd11 l n 3 = dec09 l n := fun l n => by simp [rd11]
    rw [e] at a1 b1
    exact same (by rw [e, e]; exact dec09_pf a1 b1)
  · unfold rd11 at a1 b1
    rw [if_neg (by omega), if_neg (by omega)] at a1 b1
    generalize 8 * (if t = 1 then 1 else n.toNat) = m at *
    split at a1
    · cases a1
    split at a1 <;> rename_i q1
    · cases a1
    split at b1
    · cases b1
    split at b1 <;> rename_i q2
    · cases b1
    exact len m (by simpa using q1) (by simpa using q2)
theorem encV_cut {xs : List Nat} (hx : ∀ x ∈ xs, x < 2 ^ 64) (hl : xs.length ≤ 65536) {k : Nat} (hk : k < (encV xs).1.length) : (dec11 ((encV xs).1.take k) xs.length).2 ≠ 0 := by
  intro h
  have h2 : (dec11 ((encV xs).1.take k ++ (encV xs).1.drop k) xs.length).2 = 0 := by rw [List.take_append_drop, dec11_encV hx hl]
  have := dec11_pf h h2
  have := congrArg List.length this
  simp at this
  omega
theorem encV_more {xs : List Nat} (hx : ∀ x ∈ xs, x < 2 ^ 64) (hl : xs.length ≤ 65536) (y : Nat) : (dec11 ((encV xs).1 ++ [y]) xs.length).2 ≠ 0 := by
  intro h
  have := dec11_pf (by rw [dec11_encV hx hl]) h
  cases this
/-! one pattern alone -/
theorem wayS_ge {xs : List Nat} (hn : xs ≠ []) (hl : xs.length ≤ 65536) {t : Nat} (ht : t < 4) (h : (wayS xs t).2 = 0) : 8 ≤ (wayS xs t).1.length := by
  have h1 : 0 < xs.length := by cases xs with | nil => exact absurd rfl hn | cons y r => simp
  rcases wayS_cases ht hl with ⟨rfl, e⟩ | ⟨rfl, e⟩ | ⟨rfl, e⟩ | ⟨rfl, e⟩
  · rw [e]; simp only [encP_len]; omega
  · rw [e] at h ⊢
    split at h
    · cases h
    · rename_i hq
      rw [if_neg hq]
      simp only [encP_len, List.length_take]; omega
  · rw [e]
    simp only [enc10_len]
    have hd : 0 < (dd xs).length := by
      cases hx : xs with
      | nil => exact absurd hx hn
      | cons y r => exact List.length_pos_of_mem ((dd_mem (y :: r) y).2 (by simp))
    omega
  · rw [e]
    simp only [enc09_len]
    obtain ⟨s, hs⟩ := gF_prefix xs 1 h1
    have hti : xs.take 1 = [xs[0]] := by
      have := List.take_add_one (l := xs) (i := 0)
      rw [this]; simp [h1]
    rw [hti] at hs
    have hg : (gF [xs[0]]).1 = binB xs[0] 64 := rfl
    rw [hg] at hs
    have := congrArg List.length hs
    rw [List.length_append, binB_len] at this
    omega
theorem encV_one {v k : Nat} (hk : 1 ≤ k) (hl : k ≤ 65536) : (encV (List.replicate k v)).1.length = 9 := by
  have hlen : (List.replicate k v).length = k := List.length_replicate
  have hn : List.replicate k v ≠ [] := fun h => by have := congrArg List.length h; simp at this; omega
  obtain ⟨h1, h2⟩ := bestB_way (xs := List.replicate k v) (by omega) 3
  have ht := bestB_tag (List.replicate k v) 3
  have hge := wayS_ge hn (by omega) (by omega) h1
  have hw : wayS (List.replicate k v) ((1 : Nat) : Int) = (encP ((List.replicate k v).take 1), 0) := by
    rcases wayS_cases (xs := List.replicate k v) (t := 1) (by omega) (by omega) with ⟨h, _⟩ | ⟨_, e⟩ | ⟨h, _⟩ | ⟨h, _⟩
    · omega
    · rw [e, if_neg]
      rintro (h | h)
      · have : oneV (List.replicate k v) = true := by
          rw [oneV, List.all_eq_true]
          intro x hx
          have hd : (List.replicate k v).getD 0 0 = v := by
            rw [List.getD_eq_getElem?_getD, List.getElem?_replicate, if_pos (by omega)]; rfl
          rw [hd, List.eq_of_mem_replicate hx]; simp
        rw [h] at this; cases this
      · exact hn h
    · omega
    · omega
  have hmin := bestB_min (xs := List.replicate k v) (by omega) 3 1 (by omega) (by rw [hw])
  rw [hw, encP_len, List.length_take, hlen] at hmin
  rw [← h2] at hge
  rw [encV_ok (by omega)]
  simp only [List.length_cons]
  omega
end Go.Ck

set_option linter.unusedVariables false
namespace Go.Ck
/-- The lowest bits of an int. -/
theorem and_low (c : Int) (k : Nat) (hk : k ≤ 62) : ∃ m : Nat, m < 2 ^ k ∧ ibits .and .i64 c ((2 ^ k - 1 : Nat) : Int) = (m : Int) := by
  refine ⟨(BitVec.ofInt 64 c).toNat % 2 ^ k, Nat.mod_lt _ (Nat.two_pow_pos k), ?_⟩
  have h1 : 2 ^ k ≤ 2 ^ 62 := Nat.pow_le_pow_right (by omega) hk
  have h0 := Nat.two_pow_pos k
  simp only [ibits, ofInt_nat, BitVec.toNat_and, BitVec.toNat_ofNat]
  rw [show IntKind.i64.bits = 64 from rfl, Nat.mod_eq_of_lt (a := 2 ^ k - 1) (by omega), Nat.and_two_pow_sub_one_eq_mod]
  have h2 := Nat.mod_lt (BitVec.ofInt 64 c).toNat h0
  exact wrap_i64_nat (by omega)
end Go.Ck

set_option linter.unusedVariables false
/-! Ints as numbers; differences and sums. -/
namespace Go.Ck
def zig (n : Int) : Nat := if 0 ≤ n then (2 * n).toNat else (2 * (-(n + 1)) + 1).toNat
def zag (v : Nat) : Int := if v % 2 = 0 then ((v / 2 : Nat) : Int) else -((v / 2 : Nat) : Int) - 1
def i64r (n : Int) : Prop := -2 ^ 63 ≤ n ∧ n < 2 ^ 63
theorem zig_lt {n : Int} (h : i64r n) : zig n < 2 ^ 64 := by unfold i64r at h; unfold zig; split <;> omega
theorem zag_zig {n : Int} : zag (zig n) = n := by
  unfold zig
  split
  · unfold zag; rw [if_pos (by omega)]; omega
  · unfold zag; rw [if_neg (by omega)]; omega
theorem zig_zag (v : Nat) : zig (zag v) = v := by
  unfold zag
  split
  · unfold zig; rw [if_pos (by omega)]; omega
  · unfold zig; rw [if_neg (by omega)]; omega
theorem zag_r {v : Nat} (h : v < 2 ^ 64) : i64r (zag v) := by unfold zag i64r; split <;> omega
theorem xor_ones {a : Nat} (h : a < 2 ^ 64) : ibits .xor .u64 (a : Int) ((2 ^ 64 - 1 : Nat) : Int) = ((2 ^ 64 - 1 - a : Nat) : Int) := by
  have e : (BitVec.ofNat 64 (2 ^ 64 - 1)) = BitVec.allOnes 64 := by decide
  simp only [ibits, ofInt_nat]
  rw [show IntKind.u64.bits = 64 from rfl, e, BitVec.xor_allOnes, BitVec.toNat_not, BitVec.toNat_ofNat, Nat.mod_eq_of_lt h, wrap_u64_lt (by omega)]
theorem xor_zero {a : Nat} (h : a < 2 ^ 64) : ibits .xor .u64 (a : Int) 0 = (a : Int) := by
  have := ibits_xor64 (a := a) (b := 0) h (by omega)
  simpa using this
theorem wrap_i64_r (n : Int) : i64r (IntKind.i64.wrap n) := by rw [IntKind.wrap_i64]; unfold i64r; omega
theorem wrap_i64_id {n : Int} (h : i64r n) : IntKind.i64.wrap n = n := wrap_i64_of h.1 h.2
theorem zig_val {n : Int} (h : i64r n) : ibits .xor .u64 (shlI .u64 (IntKind.u64.wrap n) 1) (IntKind.u64.wrap (shrI .i64 n 63)) = (zig n : Int) := by
  have h1 : IntKind.u64.wrap n = ((n % 2 ^ 64).toNat : Int) := by rw [IntKind.wrap_u64]; omega
  have hs : shrI .i64 n 63 = if 0 ≤ n then 0 else -1 := by
    unfold i64r at h
    unfold shrI
    have e : (2 : Int) ^ (min (63 : Int).toNat IntKind.i64.bits) = 9223372036854775808 := by decide
    rw [e, Int.fdiv_eq_ediv_of_nonneg _ (by omega)]
    split <;> omega
  have h2 := shlI_nat64 (n % 2 ^ 64).toNat 1 (by omega)
  rw [h1, hs]
  rw [show ((1 : Nat) : Int) = 1 from rfl] at h2
  rw [h2]
  unfold i64r at h
  by_cases h0 : 0 ≤ n
  · rw [if_pos h0, show IntKind.u64.wrap 0 = 0 by decide, xor_zero (Nat.mod_lt _ (by omega))]
    unfold zig; rw [if_pos h0]; omega
  · rw [if_neg h0, show IntKind.u64.wrap (-1) = ((2 ^ 64 - 1 : Nat) : Int) by decide, xor_ones (Nat.mod_lt _ (by omega))]
    unfold zig; rw [if_neg h0]; omega
theorem xor_i64 {a : Nat} (h : a < 2 ^ 63) : ibits .xor .i64 (a : Int) (-1) = -(a : Int) - 1 := by
  have e : (BitVec.ofInt 64 (-1)) = BitVec.allOnes 64 := by decide
  simp only [ibits, ofInt_nat]
  rw [show IntKind.i64.bits = 64 from rfl, e, BitVec.xor_allOnes, BitVec.toNat_not, BitVec.toNat_ofNat, Nat.mod_eq_of_lt (by omega), IntKind.wrap_i64]
  omega
theorem xor_i64_0 {a : Nat} (h : a < 2 ^ 63) : ibits .xor .i64 (a : Int) 0 = (a : Int) := by
  have e : (BitVec.ofInt 64 0) = 0#64 := by decide
  simp only [ibits, ofInt_nat]
  rw [show IntKind.i64.bits = 64 from rfl, e, BitVec.xor_zero, BitVec.toNat_ofNat, Nat.mod_eq_of_lt (by omega), wrap_i64_nat h]
theorem zag_val {v : Nat} (h : v < 2 ^ 64) : ibits .xor .i64 (IntKind.i64.wrap (shrI .u64 (v : Int) 1)) (IntKind.i64.wrap (0 - IntKind.i64.wrap (ibits .and .u64 (v : Int) 1))) = zag v := by
  have h1 := shrI_nat .u64 v 1 (by decide)
  rw [show ((1 : Nat) : Int) = 1 from rfl] at h1
  rw [h1, and_one h, wrap_i64_nat (n := v / 2 ^ 1) (by omega), wrap_i64_nat (n := v % 2) (by omega)]
  unfold zag
  by_cases h0 : v % 2 = 0
  · rw [h0, if_pos rfl, show IntKind.i64.wrap (0 - ((0 : Nat) : Int)) = 0 by decide]
    exact xor_i64_0 (by omega)
  · rw [if_neg h0, show v % 2 = 1 by omega, show IntKind.i64.wrap (0 - ((1 : Nat) : Int)) = -1 by decide]
    exact xor_i64 (by omega)
/-- What lies between numbers, behind one that stands ahead. -/
def dif : Int → List Int → List Int
  | _, [] => []
  | p, x :: r => IntKind.i64.wrap (x - p) :: dif x r
def acc : Int → List Int → List Int
  | _, [] => []
  | p, x :: r => IntKind.i64.wrap (x + p) :: acc (IntKind.i64.wrap (x + p)) r
theorem dif_len : ∀ (p : Int) (l : List Int), (dif p l).length = l.length
  | _, [] => rfl
  | p, x :: r => by simp [dif, dif_len x r]
theorem acc_len : ∀ (p : Int) (l : List Int), (acc p l).length = l.length
  | _, [] => rfl
  | p, x :: r => by simp [acc, acc_len _ r]
theorem dif_r : ∀ (p : Int) (l : List Int), ∀ x ∈ dif p l, i64r x
  | _, [] => by simp [dif]
  | p, x :: r => by
    intro y hy
    rcases List.mem_cons.1 hy with rfl | hy
    · exact wrap_i64_r _
    · exact dif_r x r y hy
theorem acc_r : ∀ (p : Int) (l : List Int), ∀ x ∈ acc p l, i64r x
  | _, [] => by simp [acc]
  | p, x :: r => by
    intro y hy
    rcases List.mem_cons.1 hy with rfl | hy
    · exact wrap_i64_r _
    · exact acc_r _ r y hy
theorem acc_dif : ∀ (p : Int) (l : List Int), (∀ x ∈ l, i64r x) → acc p (dif p l) = l
  | _, [], _ => rfl
  | p, x :: r, h => by
    have hx := h x (by simp)
    have e : IntKind.i64.wrap (IntKind.i64.wrap (x - p) + p) = x := by
      rw [IntKind.wrap_i64, IntKind.wrap_i64]; unfold i64r at hx; omega
    rw [dif, acc, e, acc_dif x r (fun y hy => h y (by simp [hy]))]
theorem dif_acc : ∀ (p : Int) (l : List Int), (∀ x ∈ l, i64r x) → dif p (acc p l) = l
  | _, [], _ => rfl
  | p, x :: r, h => by
    have hx := h x (by simp)
    have e : IntKind.i64.wrap (IntKind.i64.wrap (x + p) - p) = x := by
      rw [IntKind.wrap_i64, IntKind.wrap_i64]; unfold i64r at hx; omega
    rw [acc, dif, e, dif_acc _ r (fun y hy => h y (by simp [hy]))]
/-- From place j + 1 on. -/
def stepD (j : Nat) (l : List Int) : List Int := l.take (j + 1) ++ dif (l.getD j 0) (l.drop (j + 1))
def stepA (j : Nat) (l : List Int) : List Int := l.take (j + 1) ++ acc (l.getD j 0) (l.drop (j + 1))
theorem stepD_len (j : Nat) (l : List Int) : (stepD j l).length = l.length := by simp [stepD, dif_len]; omega
theorem stepA_len (j : Nat) (l : List Int) : (stepA j l).length = l.length := by simp [stepA, acc_len]; omega
theorem step_parts {l d : List Int} {j : Nat} (hd : d.length = l.length - (j + 1)) : (l.take (j + 1) ++ d).take (j + 1) = l.take (j + 1) ∧ (l.take (j + 1) ++ d).drop (j + 1) = d ∧ (l.take (j + 1) ++ d).getD j 0 = l.getD j 0 := by
  by_cases h : j + 1 ≤ l.length
  · have hl : (l.take (j + 1)).length = j + 1 := by simp; omega
    refine ⟨?_, ?_, ?_⟩
    · rw [List.take_append_of_le_length (by omega), List.take_of_length_le (l := l.take (j + 1)) (by omega)]
    · rw [List.drop_append_of_le_length (by omega), List.drop_of_length_le (l := l.take (j + 1)) (by omega), List.nil_append]
    · rw [List.getD_eq_getElem?_getD, List.getElem?_append_left (by omega), List.getElem?_take, if_pos (by omega), List.getD_eq_getElem?_getD]
  · have hd0 : d = [] := List.length_eq_zero_iff.1 (by omega)
    subst hd0
    have ht : l.take (j + 1) = l := List.take_of_length_le (by omega)
    rw [List.append_nil, ht]
    exact ⟨ht, List.drop_of_length_le (by omega), rfl⟩
theorem stepA_D (j : Nat) {l : List Int} (h : ∀ x ∈ l, i64r x) : stepA j (stepD j l) = l := by
  obtain ⟨h1, h2, h3⟩ := step_parts (l := l) (d := dif (l.getD j 0) (l.drop (j + 1))) (j := j) (by rw [dif_len]; simp)
  rw [stepA, stepD, h1, h2, h3, acc_dif _ _ (fun x hx => h x (List.mem_of_mem_drop hx)), List.take_append_drop]
theorem stepD_A (j : Nat) {l : List Int} (h : ∀ x ∈ l, i64r x) : stepD j (stepA j l) = l := by
  obtain ⟨h1, h2, h3⟩ := step_parts (l := l) (d := acc (l.getD j 0) (l.drop (j + 1))) (j := j) (by rw [acc_len]; simp)
  rw [stepD, stepA, h1, h2, h3, dif_acc _ _ (fun x hx => h x (List.mem_of_mem_drop hx)), List.take_append_drop]
theorem stepD_r (j : Nat) {l : List Int} (h : ∀ x ∈ l, i64r x) : ∀ x ∈ stepD j l, i64r x := by
  intro x hx
  rcases List.mem_append.1 hx with hx | hx
  · exact h x (List.mem_of_mem_take hx)
  · exact dif_r _ _ x hx
theorem stepA_r (j : Nat) {l : List Int} (h : ∀ x ∈ l, i64r x) : ∀ x ∈ stepA j l, i64r x := by
  intro x hx
  rcases List.mem_append.1 hx with hx | hx
  · exact h x (List.mem_of_mem_take hx)
  · exact acc_r _ _ x hx
def diffS (l : List Int) : Nat → List Int
  | 0 => l
  | k + 1 => stepD k (diffS l k)
def sumS (l : List Int) : Nat → List Int
  | 0 => l
  | k + 1 => sumS (stepA k l) k
theorem diffS_len (l : List Int) : ∀ k, (diffS l k).length = l.length
  | 0 => rfl
  | k + 1 => by rw [diffS, stepD_len, diffS_len l k]
theorem sumS_len : ∀ (k : Nat) (l : List Int), (sumS l k).length = l.length
  | 0, l => rfl
  | k + 1, l => by rw [sumS, sumS_len k, stepA_len]
theorem diffS_r {l : List Int} (h : ∀ x ∈ l, i64r x) : ∀ k, ∀ x ∈ diffS l k, i64r x
  | 0 => h
  | k + 1 => stepD_r k (diffS_r h k)
theorem sumS_r : ∀ (k : Nat) {l : List Int} (h : ∀ x ∈ l, i64r x), ∀ x ∈ sumS l k, i64r x
  | 0, l, h => h
  | k + 1, l, h => sumS_r k (stepA_r k h)
theorem sum_diff : ∀ (k : Nat) {l : List Int}, (∀ x ∈ l, i64r x) → sumS (diffS l k) k = l
  | 0, l, h => rfl
  | k + 1, l, h => by rw [diffS, sumS, stepA_D k (diffS_r h k), sum_diff k h]
theorem stepD_big {l : List Int} {j : Nat} (h : l.length ≤ j + 1) : stepD j l = l := by
  rw [stepD, List.take_of_length_le h, List.drop_of_length_le h]; simp [dif]
theorem stepA_big {l : List Int} {j : Nat} (h : l.length ≤ j + 1) : stepA j l = l := by
  rw [stepA, List.take_of_length_le h, List.drop_of_length_le h]; simp [acc]
/-- Steps that find nothing behind their place. -/
theorem diffS_min (l : List Int) : ∀ k, diffS l k = diffS l (min k l.length)
  | 0 => by simp
  | k + 1 => by
    by_cases h : k + 1 ≤ l.length
    · rw [Nat.min_eq_left h]
    · rw [diffS, stepD_big (by rw [diffS_len]; omega), diffS_min l k, Nat.min_eq_right (by omega), Nat.min_eq_right (by omega)]
theorem sumS_min : ∀ (k : Nat) (l : List Int), sumS l k = sumS l (min k l.length)
  | 0, l => by simp
  | k + 1, l => by
    by_cases h : k + 1 ≤ l.length
    · rw [Nat.min_eq_left h]
    · rw [sumS, stepA_big (by omega), sumS_min k l, Nat.min_eq_right (by omega), Nat.min_eq_right (by omega)]
end Go.Ck
namespace Go.Ck
/-- How often a way takes differences. -/
def oft (t : Nat) : Nat := if t = 0 then 0 else if t = 3 ∨ t = 4 then 2 else 1
theorem oft_le (t : Nat) : oft t ≤ 3 := by unfold oft; split <;> (try split) <;> omega
end Go.Ck

set_option linter.unusedVariables false
set_option maxRecDepth 10000
set_option maxHeartbeats 1000000
namespace Go.Ck
open Go.Proofs

theorem clone_ints (l : List Int) (hl : l.length ≤ 2 ^ 40) : Fn Try.prog 40 [] [.pv (.sl 1 (ints l))] (fun rs H' => rs = [.own 3 (ints l)] ∧ H' = []) := by
  refine Fn.of_body (fn := Try.f40) (n := 8) (res := [.tmp 2]) (by kernel_rfl) rfl rfl rfl rfl rfl (fun C => ?_)
  have hr : room = 140737488355328 := rfl
  refine AW.go ?_
  refine AW.eqNil (.inl rfl) rfl rfl rfl tk_22 (by simp only [go_sem, ↓reduceIte] <;> rfl) rfl rfl rfl (fun b hb => ?_)
  refine AW.go ?_
  refine AW.cond (b := b) (by simp only [go_sem, ↓reduceIte] <;> rfl) (fun h1 => ?_) (fun h1 => ?_)
  · have hx : l = [] := by simpa [ints] using hb h1
    subst hx
    refine AW.go ?_
    refine AW.finE (.move rfl .nil) rfl
  · have h2 : l.length * 8 ≤ room := by omega
    have h3 : l.length ≤ room := by omega
    refine AW.go ?_ (by simp only [go_sem, ↓reduceIte, h2, h3] <;> rfl)
    refine AW.finE (.move rfl .nil) rfl
theorem zig_fn (n : Int) (h : i64r n) : Fn Try.prog 22 [] [.pv (.int .i64 n)] (fun rs H' => rs = [.pv (.int .u64 (zig n : Nat))] ∧ H' = []) := by
  refine Fn.of_body (fn := Try.f22) (n := 10) (res := [.tmp 2]) (by kernel_rfl) rfl rfl rfl rfl rfl (fun C => ?_)
  have e := zig_val h
  refine AW.go ?_ (by simp only [go_sem, ↓reduceIte, e] <;> rfl)
  refine AW.finE (.pv _ .nil) rfl
theorem zag_fn (v : Nat) (h : v < 2 ^ 64) : Fn Try.prog 34 [] [.pv (.int .u64 v)] (fun rs H' => rs = [.pv (.int .i64 (zag v))] ∧ H' = []) := by
  refine Fn.of_body (fn := Try.f34) (n := 11) (res := [.tmp 2]) (by kernel_rfl) rfl rfl rfl rfl rfl (fun C => ?_)
  have e := zag_val h
  refine AW.go ?_ (by simp only [go_sem, ↓reduceIte, e] <;> rfl)
  refine AW.finE (.pv _ .nil) rfl
theorem refZig_fn (n : Int) (h : i64r n) : Fn Try.prog 47 [] [.pv (.int .i64 n)] (fun rs H' => rs = [.pv (.int .u64 (zig n : Nat))] ∧ H' = []) := by
  refine Fn.of_body (fn := Try.f47) (n := 14) (res := [.tmp 2]) (by kernel_rfl) rfl rfl rfl rfl rfl (fun C => ?_)
  unfold i64r at h
  refine AW.go ?_
  refine AW.cond rfl (fun hc => ?_) (fun hc => ?_)
  · have h0 : 0 ≤ n := by simpa using hc
    have e : IntKind.u64.wrap (2 * IntKind.u64.wrap n) = (zig n : Nat) := by
      unfold zig; rw [if_pos h0, IntKind.wrap_u64, IntKind.wrap_u64]; omega
    refine AW.go ?_ (by simp only [go_sem, ↓reduceIte, e] <;> rfl)
    refine AW.finE (.pv _ .nil) rfl
  · have h0 : ¬ 0 ≤ n := by simp at hc; omega
    have e : IntKind.u64.wrap (IntKind.u64.wrap (2 * IntKind.u64.wrap (IntKind.i64.wrap (0 - IntKind.i64.wrap (n + 1)))) + 1) = (zig n : Nat) := by
      unfold zig; rw [if_neg h0, wrap_i64_of (n := n + 1) (by omega) (by omega), wrap_i64_of (by omega) (by omega), IntKind.wrap_u64, IntKind.wrap_u64, IntKind.wrap_u64]; omega
    refine AW.go ?_ (by simp only [go_sem, ↓reduceIte, e] <;> rfl)
    refine AW.finE (.pv _ .nil) rfl
theorem refZag_fn (v : Nat) (h : v < 2 ^ 64) : Fn Try.prog 38 [] [.pv (.int .u64 v)] (fun rs H' => rs = [.pv (.int .i64 (zag v))] ∧ H' = []) := by
  refine Fn.of_body (fn := Try.f38) (n := 14) (res := [.tmp 2]) (by kernel_rfl) rfl rfl rfl rfl rfl (fun C => ?_)
  have e1 : Int.tmod (v : Int) 2 = ((v % 2 : Nat) : Int) := rfl
  have e2 : Int.tdiv (v : Int) 2 = ((v / 2 : Nat) : Int) := rfl
  have e3 : IntKind.u64.wrap ((v / 2 : Nat) : Int) = ((v / 2 : Nat) : Int) := wrap_u64_lt (by omega)
  have e4 : IntKind.i64.wrap ((v / 2 : Nat) : Int) = ((v / 2 : Nat) : Int) := wrap_i64_nat (by omega)
  refine AW.go ?_ (by simp only [go_sem, ↓reduceIte, e1] <;> rfl)
  refine AW.cond rfl (fun hc => ?_) (fun hc => ?_)
  · have h0 : v % 2 = 0 := by simp at hc; omega
    have e : zag v = ((v / 2 : Nat) : Int) := by unfold zag; rw [if_pos h0]
    rw [e]
    refine AW.go ?_ (by simp only [go_sem, ↓reduceIte, e2, e3, e4] <;> rfl)
    refine AW.finE (.pv _ .nil) rfl
  · have h0 : ¬ v % 2 = 0 := by simp at hc; omega
    have e : zag v = -((v / 2 : Nat) : Int) - 1 := by unfold zag; rw [if_neg h0]
    have e5 : IntKind.i64.wrap (IntKind.i64.wrap (0 - ((v / 2 : Nat) : Int)) - 1) = zag v := by rw [e, wrap_i64_of (n := 0 - ((v / 2 : Nat) : Int)) (by omega) (by omega), wrap_i64_of (by omega) (by omega)]; omega
    refine AW.go ?_ (by simp only [go_sem, ↓reduceIte, e2, e3, e4, e5] <;> rfl)
    refine AW.finE (.pv _ .nil) rfl
theorem often_fn (t : Nat) : Fn Try.prog 20 [] [.pv (.int .i64 t)] (fun rs H' => rs = [.pv (.int .i64 (oft t : Nat))] ∧ H' = []) := by
  refine Fn.of_body (fn := Try.f20) (n := 10) (res := [.tmp 2]) (by kernel_rfl) rfl rfl rfl rfl rfl (fun C => ?_)
  unfold oft
  refine AW.go ?_
  refine AW.cond rfl (fun hc => ?_) (fun hc => ?_)
  · have h0 : t = 0 := by simpa using hc
    rw [if_pos h0]
    refine AW.go ?_
    refine AW.finE (.pv _ .nil) rfl
  have h0 : ¬ t = 0 := by simpa using hc
  rw [if_neg h0]
  refine AW.go ?_
  refine AW.cond rfl (fun hc => ?_) (fun hc => ?_)
  · have h3 : t = 3 := by simp at hc; omega
    rw [if_pos (.inl h3)]
    refine AW.go ?_
    refine AW.finE (.pv _ .nil) rfl
  have h3 : ¬ t = 3 := by simp at hc; omega
  refine AW.go ?_
  refine AW.cond rfl (fun hc => ?_) (fun hc => ?_)
  · have h4 : t = 4 := by simp at hc; omega
    rw [if_pos (.inr h4)]
    refine AW.go ?_
    refine AW.finE (.pv _ .nil) rfl
  have h4 : ¬ t = 4 := by simp at hc; omega
  rw [if_neg (fun h => h.elim h3 h4)]
  refine AW.go ?_
  refine AW.finE (.pv _ .nil) rfl
theorem ref04Same_fn (a b : List Int) (hl : a.length ≤ room) : Fn Try.prog 18 [] [.pv (.sl 1 (ints a)), .pv (.sl 1 (ints b))] (fun rs H' => rs = [.pv (.bool (decide (a = b)))] ∧ H' = []) := by
  refine Fn.of_body (fn := Try.f18) (n := 26) (res := [.tmp 4]) (by kernel_rfl) rfl rfl rfl rfl rfl (fun C => ?_)
  have hr : room < 2 ^ 62 := by decide
  refine AW.go ?_
  refine AW.cond rfl (fun hc => ?_) (fun hc => ?_)
  · have hne : a ≠ b := by rintro rfl; simp at hc
    refine AW.go ?_
    refine AW.finE (.pv _ .nil) ?_
    rw [decide_eq_false hne]
  have hlen : a.length = b.length := by simp at hc; omega
  refine AW.go ?_
  refine AW.loopS (fun i : Nat => ⟨26, [(5, .pv (.int .i64 i)), (0, .pv (.sl 1 (ints a))), (1, .pv (.sl 1 (ints b)))], []⟩) (fun i => i ≤ a.length ∧ a.take i = b.take i) (fun i => a.length - i) [5, 0, 1] [] 0 ⟨Nat.zero_le _, rfl⟩ ?_
  rintro i ⟨hi, ht⟩ K hK
  refine AW.go ?_
  refine AW.cond rfl (fun hc => ?_) (fun hc => ?_)
  · have hlt : i < a.length := by simpa using hc
    have hlt2 : i < b.length := by omega
    have h1 := ints_get hlt
    have h2 := ints_get hlt2
    have ei : IntKind.i64.wrap ((i : Int) + 1) = ((i + 1 : Nat) : Int) := wrap_i64_succ (by omega)
    refine AW.go ?_
    refine AW.sr mixed (by decide +kernel) ?_ (by simp only [go_sem, ↓reduceIte, h1, h2] <;> rfl)
    refine AW.go ?_
    refine AW.cond rfl (fun hc => ?_) (fun hc => ?_)
    · have hne : a ≠ b := by rintro rfl; simp at hc
      refine AW.go ?_
      refine AW.finE (.pv _ .nil) ?_
      rw [decide_eq_false hne]
    · have he : a[i] = b[i] := by simpa using hc
      refine AW.go ?_ (by simp only [go_sem, ↓reduceIte, ei] <;> rfl)
      refine AW.again hK (i + 1) ⟨hlt, ?_⟩ (by omega)
      rw [List.take_succ_eq_append_getElem hlt, List.take_succ_eq_append_getElem hlt2, ht, he]
  · have hge : ¬ i < a.length := by simpa using hc
    rw [List.take_of_length_le (by omega), List.take_of_length_le (by omega)] at ht
    refine AW.go ?_
    refine AW.finE (.pv _ .nil) ?_
    rw [decide_eq_true ht]
end Go.Ck

set_option linter.unusedVariables false
/-! Differences and sums, place by place. -/
namespace Go.Ck
theorem ints_set (l : List Int) (i : Nat) (n : Int) : (ints l).set i (.int .i64 n) = ints (l.set i n) := by simp [ints, List.map_set]
def spl {α : Type} (D M : List α) (i : Nat) : List α := D.take i ++ M.drop i
section
variable {α : Type} {D M : List α}
theorem spl_len (h : D.length = M.length) (i : Nat) : (spl D M i).length = M.length := by
  unfold spl; rw [List.length_append, List.length_take, List.length_drop]; omega
theorem spl_all (h : D.length = M.length) {i : Nat} (hi : M.length ≤ i) : spl D M i = D := by
  unfold spl; rw [List.take_of_length_le (by omega), List.drop_of_length_le hi, List.append_nil]
theorem spl_get (h : D.length = M.length) {i : Nat} (hi : i < M.length) : (spl D M i)[i]? = M[i]? := by
  unfold spl; rw [List.getElem?_append_right (by simp; omega), List.getElem?_drop]; congr 1; simp; omega
theorem spl_get1 (h : D.length = M.length) {i k : Nat} (hi : i ≤ M.length) (hk : k < i) : (spl D M i)[k]? = D[k]? := by
  unfold spl; rw [List.getElem?_append_left (by simp; omega), List.getElem?_take, if_pos hk]
theorem spl_set (h : D.length = M.length) {i : Nat} (hi : i < M.length) {x : α} (hx : D[i]? = some x) : (spl D M i).set i x = spl D M (i + 1) := by
  have hl : (D.take i).length = i := by simp; omega
  unfold spl
  rw [List.set_append_right i x (by omega), hl, Nat.sub_self, List.drop_eq_getElem_cons hi, List.set_cons_zero, List.take_add_one, hx]
  simp
end
theorem dif_get : ∀ (l : List Int) (p : Int) (k : Nat) (x : Int), l[k]? = some x → (dif p l)[k]? = some (IntKind.i64.wrap (x - (if k = 0 then p else l.getD (k - 1) 0)))
  | [], p, k, x, h => by simp at h
  | y :: r, p, 0, x, h => by simp at h; subst h; simp [dif]
  | y :: r, p, k + 1, x, h => by
    have := dif_get r y k x (by simpa using h)
    rw [dif, List.getElem?_cons_succ, this]
    congr 3
    cases k with
    | zero => simp
    | succ k => simp
theorem acc_get : ∀ (l : List Int) (p : Int) (k : Nat) (x : Int), l[k]? = some x → (acc p l)[k]? = some (IntKind.i64.wrap (x + (if k = 0 then p else (acc p l).getD (k - 1) 0)))
  | [], p, k, x, h => by simp at h
  | y :: r, p, 0, x, h => by simp at h; subst h; simp [acc]
  | y :: r, p, k + 1, x, h => by
    have := acc_get r (IntKind.i64.wrap (y + p)) k x (by simpa using h)
    rw [acc, List.getElem?_cons_succ, this]
    congr 3
    cases k with
    | zero => simp
    | succ k => simp
theorem stepD_get {l : List Int} {j i : Nat} (h : j < i) (hi : i < l.length) : (stepD j l)[i]? = some (IntKind.i64.wrap (l.getD i 0 - l.getD (i - 1) 0)) := by
  have hl : (l.take (j + 1)).length = j + 1 := by simp; omega
  have hx : (l.drop (j + 1))[i - (j + 1)]? = some (l.getD i 0) := by
    rw [List.getElem?_drop, show j + 1 + (i - (j + 1)) = i by omega, List.getD_eq_getElem?_getD, List.getElem?_eq_getElem hi]; rfl
  rw [stepD, List.getElem?_append_right (by omega), hl, dif_get _ _ _ _ hx]
  congr 3
  split
  · rw [show i - 1 = j by omega]
  · rw [List.getD_eq_getElem?_getD, List.getElem?_drop, List.getD_eq_getElem?_getD, show j + 1 + (i - (j + 1) - 1) = i - 1 by omega]
theorem stepA_get {l : List Int} {j i : Nat} (h : j < i) (hi : i < l.length) : (stepA j l)[i]? = some (IntKind.i64.wrap (l.getD i 0 + (stepA j l).getD (i - 1) 0)) := by
  have hl : (l.take (j + 1)).length = j + 1 := by simp; omega
  have hx : (l.drop (j + 1))[i - (j + 1)]? = some (l.getD i 0) := by
    rw [List.getElem?_drop, show j + 1 + (i - (j + 1)) = i by omega, List.getD_eq_getElem?_getD, List.getElem?_eq_getElem hi]; rfl
  have e : (if i - (j + 1) = 0 then l.getD j 0 else (acc (l.getD j 0) (l.drop (j + 1))).getD (i - (j + 1) - 1) 0) = (stepA j l).getD (i - 1) 0 := by
    rw [stepA, List.getD_eq_getElem?_getD (l := l.take (j + 1) ++ _)]
    split
    · rw [List.getElem?_append_left (by omega), List.getElem?_take, if_pos (by omega), show i - 1 = j by omega, List.getD_eq_getElem?_getD]
    · rw [List.getElem?_append_right (by omega), hl, List.getD_eq_getElem?_getD, show i - 1 - (j + 1) = i - (j + 1) - 1 by omega]
  rw [stepA, List.getElem?_append_right (by omega), hl, acc_get _ _ _ _ hx, e, stepA]
theorem stepD_head {l : List Int} {j i : Nat} (h : i ≤ j) (hi : i < l.length) : (stepD j l)[i]? = l[i]? := by
  rw [stepD, List.getElem?_append_left (by simp; omega), List.getElem?_take, if_pos (by omega)]
theorem stepD_spl (j : Nat) (l : List Int) : spl (stepD j l) l (j + 1) = l := by
  unfold spl
  rw [show (stepD j l).take (j + 1) = l.take (j + 1) from (step_parts (l := l) (j := j) (by rw [dif_len]; simp)).1, List.take_append_drop]
theorem stepA_spl (j : Nat) (l : List Int) : spl (stepA j l) l (j + 1) = l := by
  unfold spl
  rw [show (stepA j l).take (j + 1) = l.take (j + 1) from (step_parts (l := l) (j := j) (by rw [acc_len]; simp)).1, List.take_append_drop]
theorem getDi {l : List Int} {i : Nat} (h : i < l.length) : l[i]? = some (l.getD i 0) := by rw [List.getD_eq_getElem?_getD, List.getElem?_eq_getElem h]; rfl
theorem getDn {l : List Nat} {i : Nat} (h : i < l.length) : l[i]? = some (l.getD i 0) := by rw [List.getD_eq_getElem?_getD, List.getElem?_eq_getElem h]; rfl
theorem ints_at {l : List Int} {i : Nat} {x : Int} (h : l[i]? = some x) : (ints l)[i]? = some (.int .i64 x) := by unfold ints; rw [List.getElem?_map, h]; rfl
theorem u64s_at {l : List Nat} {i : Nat} {x : Nat} (h : l[i]? = some x) : (u64s l)[i]? = some (.int .u64 (x : Int)) := by unfold u64s; rw [List.getElem?_map, h]; rfl
end Go.Ck

set_option linter.unusedVariables false
set_option maxRecDepth 10000
set_option maxHeartbeats 1000000
namespace Go.Ck
open Go.Proofs
attribute [go_sem] ints_set

theorem step_fn (n p : Int) : Fn Try.prog 62 [(1000, .cells 3 [.pv (.int .i64 p)])] [.pv (.int .i64 n), .ptr 1000 0] (fun rs H' => rs = [.pv (.int .i64 (IntKind.i64.wrap (n - p)))] ∧ H' = [(1000, .cells 3 [.pv (.int .i64 n)])]) := by
  refine Fn.of_body (fn := Try.f62) (n := 10) (res := [.tmp 3]) (by kernel_rfl) rfl rfl rfl rfl rfl (fun C => ?_)
  refine AW.go ?_
  refine AW.finE (.pv _ .nil) rfl
theorem between_fn (p : Int) : Fn Try.prog 41 [] [.pv (.int .i64 p)] (fun rs H' => rs = [.fn 62 [.ptr 3 0]] ∧ H' = [(3, .cells 3 [.pv (.int .i64 p)])]) := by
  refine Fn.of_body (fn := Try.f41) (n := 6) (res := [.tmp 2]) (by kernel_rfl) rfl rfl rfl rfl rfl (fun C => ?_)
  refine AW.go ?_
  refine AW.finE (.fn rfl .nil) rfl

theorem diff_fn (l : List Int) (k : Nat) (hk : k ≤ 3) (hl : l.length ≤ 2 ^ 40) : Fn Try.prog 19 [] [.pv (.sl 1 (ints l)), .pv (.int .i64 k)] (fun rs H' => rs = [.own 3 (ints (diffS l k)), .pv (.int .i64 0)] ∧ H' = []) := by
  refine Fn.of_body (fn := Try.f19) (n := 49) (res := [.tmp 4, .tmp 5]) (by kernel_rfl) rfl rfl rfl rfl rfl (fun C => ?_)
  have hr : room = 140737488355328 := rfl
  have d1 : decide ((k : Int) > 3) = false := decide_eq_false (by omega)
  refine AW.gg ?_ (by simp only [go_sem, ↓reduceIte, d1] <;> rfl)
  refine AW.condF rfl ?_
  refine AW.go ?_
  refine AW.callE (fun _ => 0) (clone_ints l hl) (.pv _ .nil) ?_
  have em : (if (l.length : Int) < (k : Int) then (l.length : Int) else (k : Int)) = ((min k l.length : Nat) : Int) := by split <;> omega
  have em2 : (if l.length < k then ((l.length : Nat) : Int) else (k : Int)) = ((min k l.length : Nat) : Int) := by split <;> omega
  refine AW.go ?_ (by simp only [go_sem, ↓reduceIte, em, em2] <;> rfl)
  rw [diffS_min]
  have hm : min k l.length ≤ l.length := by omega
  generalize min k l.length = q at *
  refine AW.loopS (fun j : Nat => ⟨49, [(22, .pv (.int .i64 j)), (21, .pv (.int .i64 q)), (6, .own 3 (ints (diffS l j)))], []⟩) (fun j => j ≤ q) (fun j => q - j) [22, 21, 6] [] 0 (Nat.zero_le _) ?_
  rintro j hj K hK
  refine AW.go ?_
  refine AW.cond rfl (fun hc => ?_) (fun hc => ?_)
  · have hlt : j < q := by simpa using hc
    have hM := diffS_len l j
    have hsu : diffS l (j + 1) = stepD j (diffS l j) := rfl
    generalize diffS l j = M at *
    have hD := stepD_len j M
    have hjM : j < M.length := by omega
    have hget := ints_at (getDi hjM)
    have ej : IntKind.i64.wrap ((j : Int) + 1) = ((j + 1 : Nat) : Int) := wrap_i64_succ (by omega)
    refine AW.go ?_ (by simp only [go_sem, ↓reduceIte, hjM, hget] <;> rfl)
    refine AW.callE (fun _ => 29) (between_fn (M.getD j 0)) (.pv _ .nil) ?_
    refine AW.go ?_ (by simp only [go_sem, ↓reduceIte, ej] <;> rfl)
    have h0 : spl (stepD j M) M (j + 1) = M := stepD_spl j M
    refine AW.loopS (fun i : Nat => ⟨49, [(9, .pv (.int .i64 i)), (8, .fn 62 [.ptr 29 0]), (22, .pv (.int .i64 j)), (21, .pv (.int .i64 q)), (6, .own 3 (ints (spl (stepD j M) M i)))], [(29, .cells 3 [.pv (.int .i64 (M.getD (i - 1) 0))])]⟩) (fun i => j + 1 ≤ i ∧ i ≤ M.length) (fun i => M.length - i) [9, 8, 22, 21, 6] [29] (j + 1) ⟨Nat.le_refl _, by omega⟩ ?_ (by simp only [go_sem, ↓reduceIte]) (by simp only [go_sem, ↓reduceIte, h0, Nat.add_sub_cancel] <;> rfl)
    rintro i ⟨hi, hi2⟩ K2 hK2
    have hspl := spl_len hD i
    refine AW.go ?_ (by simp only [go_sem, ↓reduceIte, hspl] <;> rfl)
    refine AW.cond rfl (fun hc => ?_) (fun hc => ?_)
    · have hlt2 : i < M.length := by simpa using hc
      have hg2 : (ints (spl (stepD j M) M i))[i]? = some (.int .i64 (M.getD i 0)) := ints_at (by rw [spl_get hD hlt2]; exact getDi hlt2)
      have hset := spl_set hD hlt2 (stepD_get (by omega) hlt2)
      have ei : IntKind.i64.wrap ((i : Int) + 1) = ((i + 1 : Nat) : Int) := wrap_i64_succ (by omega)
      refine AW.go ?_ (by simp only [go_sem, ↓reduceIte, hspl, hlt2, hg2] <;> rfl)
      refine AW.callE (fun _ => 29) (step_fn (M.getD i 0) (M.getD (i - 1) 0)) (.pv _ (.ptr rfl .nil)) ?_
      refine AW.go ?_ (by simp only [go_sem, ↓reduceIte, hspl, hlt2, hg2, hset, ei] <;> rfl)
      refine AW.again hK2 (i + 1) ⟨by omega, hlt2⟩ (by omega) (by simp only [go_sem, ↓reduceIte]) (by simp only [go_sem, ↓reduceIte, Nat.add_sub_cancel] <;> rfl)
    · have hge : M.length ≤ i := by simp at hc; omega
      rw [spl_all hD hge, ← hsu]
      refine AW.go ?_ (by simp only [go_sem, ↓reduceIte, ej] <;> rfl)
      refine AW.again hK (j + 1) hlt (by omega)
  · have hge : j = q := by simp at hc; omega
    subst hge
    refine AW.go ?_
    refine AW.finE (.move rfl (.pv _ .nil)) rfl

theorem sum_fn (l : List Int) (k : Nat) (hk : k ≤ 3) (hl : l.length ≤ 2 ^ 40) : Fn Try.prog 35 [] [.pv (.sl 1 (ints l)), .pv (.int .i64 k)] (fun rs H' => rs = [.own 3 (ints (sumS l k)), .pv (.int .i64 0)] ∧ H' = []) := by
  refine Fn.of_body (fn := Try.f35) (n := 46) (res := [.tmp 4, .tmp 5]) (by kernel_rfl) rfl rfl rfl rfl rfl (fun C => ?_)
  have hr : room = 140737488355328 := rfl
  have d1 : decide ((k : Int) > 3) = false := decide_eq_false (by omega)
  refine AW.gg ?_ (by simp only [go_sem, ↓reduceIte, d1] <;> rfl)
  refine AW.condF rfl ?_
  refine AW.go ?_
  refine AW.callE (fun _ => 0) (clone_ints l hl) (.pv _ .nil) ?_
  have em : (if (l.length : Int) < (k : Int) then (l.length : Int) else (k : Int)) = ((min k l.length : Nat) : Int) := by split <;> omega
  have em2 : (if l.length < k then ((l.length : Nat) : Int) else (k : Int)) = ((min k l.length : Nat) : Int) := by split <;> omega
  have em3 : IntKind.i64.wrap (((min k l.length : Nat) : Int) - 1) = ((min k l.length : Nat) : Int) - 1 := wrap_i64_of (by omega) (by omega)
  refine AW.go ?_ (by simp only [go_sem, ↓reduceIte, em, em2, em3] <;> rfl)
  rw [sumS_min]
  have hm : min k l.length ≤ l.length := by omega
  generalize min k l.length = q at *
  refine AW.loopS (fun a : Nat × List Int => ⟨46, [(7, .pv (.int .i64 ((a.1 : Int) - 1))), (6, .own 3 (ints a.2))], []⟩) (fun a => a.1 ≤ q ∧ a.2.length = l.length ∧ sumS a.2 a.1 = sumS l q) (fun a => a.1) [7, 6] [] (q, l) ⟨Nat.le_refl _, rfl, rfl⟩ ?_
  rintro ⟨j, M⟩ ⟨hj, hM, hs⟩ K hK
  simp only at hj hM hs
  refine AW.go ?_
  refine AW.cond rfl (fun hc => ?_) (fun hc => ?_)
  · obtain ⟨j, rfl⟩ : ∃ i, j = i + 1 := ⟨j - 1, by simp at hc; omega⟩
    rw [sumS] at hs
    have hD := stepA_len j M
    have ej0 : (((j + 1 : Nat) : Int) - 1) = (j : Int) := by omega
    have ej : IntKind.i64.wrap ((j : Int) + 1) = ((j + 1 : Nat) : Int) := wrap_i64_succ (by omega)
    have ej1 : IntKind.i64.wrap ((j : Int) - 1) = (j : Int) - 1 := wrap_i64_of (by omega) (by omega)
    have h0 : spl (stepA j M) M (j + 1) = M := stepA_spl j M
    refine AW.go ?_ (by simp only [go_sem, ↓reduceIte, ej0, ej] <;> rfl)
    refine AW.loopS (fun i : Nat => ⟨46, [(8, .pv (.int .i64 i)), (7, .pv (.int .i64 j)), (6, .own 3 (ints (spl (stepA j M) M i)))], []⟩) (fun i => j + 1 ≤ i ∧ i ≤ M.length) (fun i => M.length - i) [8, 7, 6] [] (j + 1) ⟨Nat.le_refl _, by omega⟩ ?_ (by simp only [go_sem, ↓reduceIte]) (by simp only [go_sem, ↓reduceIte, h0, ej0] <;> rfl)
    rintro i ⟨hi, hi2⟩ K2 hK2
    have hspl := spl_len hD i
    refine AW.go ?_ (by simp only [go_sem, ↓reduceIte, hspl] <;> rfl)
    refine AW.cond rfl (fun hc => ?_) (fun hc => ?_)
    · have hlt2 : i < M.length := by simpa using hc
      have hg2 : (ints (spl (stepA j M) M i))[i]? = some (.int .i64 (M.getD i 0)) := ints_at (by rw [spl_get hD hlt2]; exact getDi hlt2)
      have hg3 : (ints (spl (stepA j M) M i))[i - 1]? = some (.int .i64 ((stepA j M).getD (i - 1) 0)) := ints_at (by rw [spl_get1 hD (by omega) (by omega)]; exact getDi (by omega))
      have hset := spl_set hD hlt2 (stepA_get (by omega) hlt2)
      have ei1 : IntKind.i64.wrap ((i : Int) - 1) = ((i - 1 : Nat) : Int) := by rw [wrap_i64_of (by omega) (by omega)]; omega
      have hlt3 : i - 1 < M.length := by omega
      have ei : IntKind.i64.wrap ((i : Int) + 1) = ((i + 1 : Nat) : Int) := wrap_i64_succ (by omega)
      refine AW.go ?_
      refine AW.srTail 11 mixed (by decide +kernel) ?_ (by simp only [go_sem, ↓reduceIte, hspl, hlt2, hlt3, hg2, hg3, ei1] <;> rfl)
      refine AW.go ?_ (by simp only [go_sem, ↓reduceIte, hspl, hlt2, hg2, hset, ei] <;> rfl)
      refine AW.again hK2 (i + 1) ⟨by omega, hlt2⟩ (by omega)
    · have hge : M.length ≤ i := by simp at hc; omega
      rw [spl_all hD hge]
      refine AW.go ?_ (by simp only [go_sem, ↓reduceIte, ej1] <;> rfl)
      refine AW.again hK (j, stepA j M) ⟨by simp only; omega, by simp only; omega, hs⟩ (by simp only; omega)
  · have hge : j = 0 := by simp at hc; omega
    subst hge
    rw [← hs, sumS]
    refine AW.go ?_
    refine AW.finE (.move rfl (.pv _ .nil)) rfl

theorem refDiff_fn (l : List Int) (hl : l.length ≤ 2 ^ 40) : ∀ (k : Nat) (hk : k ≤ 3), Fn Try.prog 26 [] [.pv (.sl 1 (ints l)), .pv (.int .i64 k)] (fun rs H' => rs = [.own 3 (ints (diffS l k)), .pv (.int .i64 0)] ∧ H' = [])
  | 0, hk => by
    refine Fn.of_body (fn := Try.f26) (n := 58) (res := [.tmp 4, .tmp 5]) (by kernel_rfl) rfl rfl rfl rfl rfl (fun C => ?_)
    have hr : room = 140737488355328 := rfl
    have h2 : l.length * 8 ≤ room := by omega
    have h3 : l.length ≤ room := by omega
    refine AW.gg ?_
    refine AW.condF rfl ?_
    refine AW.go ?_
    refine AW.condT rfl ?_
    refine AW.go ?_ (by simp only [go_sem, ↓reduceIte, h2, h3] <;> rfl)
    refine AW.finE (.move rfl (.pv _ .nil)) rfl
  | k + 1, hk => by
    refine Fn.of_body (fn := Try.f26) (n := 58) (res := [.tmp 4, .tmp 5]) (by kernel_rfl) rfl rfl rfl rfl rfl (fun C => ?_)
    have hr : room = 140737488355328 := rfl
    have d1 : decide (((k + 1 : Nat) : Int) > 3) = false := decide_eq_false (by omega)
    have d2 : (((k + 1 : Nat) : Int) == 0) = false := by simp; omega
    have ek : IntKind.i64.wrap (((k + 1 : Nat) : Int) - 1) = (k : Int) := by rw [wrap_i64_of (by omega) (by omega)]; omega
    refine AW.gg ?_ (by simp only [go_sem, ↓reduceIte, d1] <;> rfl)
    refine AW.condF rfl ?_
    refine AW.go ?_ (by simp only [go_sem, ↓reduceIte, d2] <;> rfl)
    refine AW.condF rfl ?_
    refine AW.go ?_ (by simp only [go_sem, ↓reduceIte, ek] <;> rfl)
    refine AW.callE (fun _ => 0) (refDiff_fn l hl k (by omega)) (.pv _ (.pv _ .nil)) ?_
    have hM := diffS_len l k
    rw [diffS]
    generalize diffS l k = M at *
    have hD := stepD_len k M
    refine AW.go ?_
    refine AW.loopS (fun i : Nat => ⟨58, [(9, .pv (.int .i64 i)), (6, .own 3 (ints M)), (8, .own 3 (ints ((stepD k M).take i))), (1, .pv (.int .i64 (k + 1 : Nat)))], []⟩) (fun i => i ≤ M.length) (fun i => M.length - i) [9, 6, 8, 1] [] 0 (Nat.zero_le _) ?_
    rintro i hi K hK
    have htl : ((stepD k M).take i).length = i := by simp; omega
    refine AW.go ?_
    refine AW.cond rfl (fun hc => ?_) (fun hc => ?_)
    · have hlt : i < M.length := by simpa using hc
      have hget := ints_at (getDi hlt)
      have h1 : (i + 1) * 8 ≤ room := by omega
      have h2 : i + 1 ≤ room := by omega
      have ei : IntKind.i64.wrap ((i : Int) + 1) = ((i + 1 : Nat) : Int) := wrap_i64_succ (by omega)
      refine AW.go ?_
      refine AW.cond rfl (fun hc2 => ?_) (fun hc2 => ?_)
      · have hik : i ≤ k := by simp at hc2; omega
        have hap : (stepD k M).take i ++ [M.getD i 0] = (stepD k M).take (i + 1) := by rw [List.take_add_one, stepD_head hik hlt, getDi hlt]; rfl
        refine AW.go ?_ (by simp only [go_sem, ↓reduceIte, hlt, hget, htl, ints_one, h1, h2, hap, ei] <;> rfl)
        refine AW.again hK (i + 1) hlt (by omega)
      · have hik : k < i := by simp at hc2; omega
        have hget1 := ints_at (getDi (show i - 1 < M.length by omega))
        have hlt1 : i - 1 < M.length := by omega
        have ei1 : IntKind.i64.wrap ((i : Int) - 1) = ((i - 1 : Nat) : Int) := by rw [wrap_i64_of (by omega) (by omega)]; omega
        have hap : (stepD k M).take i ++ [IntKind.i64.wrap (M.getD i 0 - M.getD (i - 1) 0)] = (stepD k M).take (i + 1) := by rw [List.take_add_one, stepD_get hik hlt]; rfl
        refine AW.go ?_
        refine AW.any0 mixed ?_
        refine AW.takes (fuel := 6) [0, 1, 2, 5, 6, 3, 7, 8] ?_ (by simp only [go_sem, ↓reduceIte, hlt, hlt1, ei1] <;> rfl) Ends.noPanic (listed' := #[true, true, true, true, false, true, true, true, true, false, false, false, false, false]) (by decide +kernel) (by decide +kernel)
        refine AW.branch (fuel := 5) (rs := [4, 9]) ?_ (by decide +kernel) (by simp)
        intro y hy
        simp only [List.mem_cons, List.not_mem_nil, or_false] at hy
        rcases hy with rfl | rfl
        · refine AW.go ?_ (by simp only [go_sem, ↓reduceIte, hget, hget1] <;> rfl)
          refine AW.seqs (fuel := 0) (listed' := #[true, true, true, true, true, true, true, true, true, true, true, true, true, true]) [9, 10, 11, 12, 13] ?_ (by decide +kernel)
          refine AW.go ?_ (by simp only [go_sem, ↓reduceIte, hget, hget1, htl, ints_one, h1, h2, hap, ei] <;> rfl)
          refine AW.anyDone (by decide +kernel) ?_
          refine AW.go ?_ (by simp only [go_sem, ↓reduceIte, ei] <;> rfl)
          refine AW.again hK (i + 1) hlt (by omega)
        · refine AW.go ?_ (by simp only [go_sem, ↓reduceIte, hget, hget1] <;> rfl)
          refine AW.seqs (fuel := 0) (listed' := #[true, true, true, true, true, true, true, true, true, true, true, true, true, true]) [4, 10, 11, 12, 13] ?_ (by decide +kernel)
          refine AW.go ?_ (by simp only [go_sem, ↓reduceIte, hget, hget1, htl, ints_one, h1, h2, hap, ei] <;> rfl)
          refine AW.anyDone (by decide +kernel) ?_
          refine AW.go ?_ (by simp only [go_sem, ↓reduceIte, ei] <;> rfl)
          refine AW.again hK (i + 1) hlt (by omega)
    · have hge : i = M.length := by simp at hc; omega
      have hall : (stepD k M).take i = stepD k M := List.take_of_length_le (by omega)
      rw [hall]
      refine AW.go ?_
      refine AW.finE (.move rfl (.pv _ .nil)) rfl

theorem refSum_fn (l : List Int) (k : Nat) (hk : k ≤ 3) (hl : l.length ≤ 2 ^ 40) : Fn Try.prog 39 [] [.pv (.sl 1 (ints l)), .pv (.int .i64 k)] (fun rs H' => rs = [.own 3 (ints (sumS l k)), .pv (.int .i64 0)] ∧ H' = []) := by
  refine Fn.of_body (fn := Try.f39) (n := 44) (res := [.tmp 4, .tmp 5]) (by kernel_rfl) rfl rfl rfl rfl rfl (fun C => ?_)
  have hr : room = 140737488355328 := rfl
  have d1 : decide ((k : Int) > 3) = false := decide_eq_false (by omega)
  have h2 : l.length * 8 ≤ room := by omega
  have h3 : l.length ≤ room := by omega
  refine AW.gg ?_ (by simp only [go_sem, ↓reduceIte, d1] <;> rfl)
  refine AW.condF rfl ?_
  refine AW.go ?_ (by simp only [go_sem, ↓reduceIte, h2, h3] <;> rfl)
  refine AW.loopS (fun a : Nat × List Int => ⟨44, [(7, .pv (.int .i64 a.1)), (6, .own 3 (ints a.2))], []⟩) (fun a => a.1 ≤ k ∧ a.2.length = l.length ∧ sumS a.2 a.1 = sumS l k) (fun a => a.1) [7, 6] [] (k, l) ⟨Nat.le_refl _, rfl, rfl⟩ ?_
  rintro ⟨j, M⟩ ⟨hj, hM, hs⟩ K hK
  simp only at hj hM hs
  refine AW.go ?_
  refine AW.cond rfl (fun hc => ?_) (fun hc => ?_)
  · obtain ⟨j, rfl⟩ : ∃ i, j = i + 1 := ⟨j - 1, by simp at hc; omega⟩
    rw [sumS] at hs
    have hD := stepA_len j M
    have ej1 : IntKind.i64.wrap (((j + 1 : Nat) : Int) - 1) = (j : Int) := by rw [wrap_i64_of (by omega) (by omega)]; omega
    by_cases hjl : j + 1 ≤ M.length
    · have h0 : spl (stepA j M) M (j + 1) = M := stepA_spl j M
      refine AW.go ?_
      refine AW.loopS (fun i : Nat => ⟨44, [(8, .pv (.int .i64 i)), (7, .pv (.int .i64 (j + 1 : Nat))), (6, .own 3 (ints (spl (stepA j M) M i)))], []⟩) (fun i => j + 1 ≤ i ∧ i ≤ M.length) (fun i => M.length - i) [8, 7, 6] [] (j + 1) ⟨Nat.le_refl _, by omega⟩ ?_ (by simp only [go_sem, ↓reduceIte]) (by simp only [go_sem, ↓reduceIte, h0] <;> rfl)
      rintro i ⟨hi, hi2⟩ K2 hK2
      have hspl := spl_len hD i
      refine AW.go ?_ (by simp only [go_sem, ↓reduceIte, hspl] <;> rfl)
      refine AW.cond rfl (fun hc => ?_) (fun hc => ?_)
      · have hlt2 : i < M.length := by simpa using hc
        have hg2 : (ints (spl (stepA j M) M i))[i]? = some (.int .i64 (M.getD i 0)) := ints_at (by rw [spl_get hD hlt2]; exact getDi hlt2)
        have hg3 : (ints (spl (stepA j M) M i))[i - 1]? = some (.int .i64 ((stepA j M).getD (i - 1) 0)) := ints_at (by rw [spl_get1 hD (by omega) (by omega)]; exact getDi (by omega))
        have hset := spl_set hD hlt2 (stepA_get (by omega) hlt2)
        have ei1 : IntKind.i64.wrap ((i : Int) - 1) = ((i - 1 : Nat) : Int) := by rw [wrap_i64_of (by omega) (by omega)]; omega
        have hlt3 : i - 1 < M.length := by omega
        have ei : IntKind.i64.wrap ((i : Int) + 1) = ((i + 1 : Nat) : Int) := wrap_i64_succ (by omega)
        refine AW.go ?_
        refine AW.srTail 13 mixed (by decide +kernel) ?_ (by simp only [go_sem, ↓reduceIte, hspl, hlt2, hlt3, hg2, hg3, ei1] <;> rfl)
        refine AW.go ?_ (by simp only [go_sem, ↓reduceIte, hspl, hlt2, hg2, hset, ei] <;> rfl)
        refine AW.again hK2 (i + 1) ⟨by omega, hlt2⟩ (by omega)
      · have hge : M.length ≤ i := by simp at hc; omega
        rw [spl_all hD hge]
        refine AW.go ?_ (by simp only [go_sem, ↓reduceIte, ej1] <;> rfl)
        refine AW.again hK (j, stepA j M) ⟨by simp only; omega, by simp only; omega, hs⟩ (by simp only; omega)
    · rw [stepA_big (by omega)] at hs
      refine AW.go ?_
      refine AW.loopS (fun _ : Unit => ⟨44, [(8, .pv (.int .i64 (j + 1 : Nat))), (7, .pv (.int .i64 (j + 1 : Nat))), (6, .own 3 (ints M))], []⟩) (fun _ => True) (fun _ => 0) [8, 7, 6] [] () trivial ?_
      rintro _ - K2 hK2
      refine AW.go ?_
      refine AW.cond rfl (fun hc => ?_) (fun hc => ?_)
      · exact absurd hc (by simp; omega)
      · refine AW.go ?_ (by simp only [go_sem, ↓reduceIte, ej1] <;> rfl)
        refine AW.again hK (j, M) ⟨by simp only; omega, hM, hs⟩ (by simp only; omega)
  · have hge : j = 0 := by simp at hc; omega
    subst hge
    rw [← hs, sumS]
    refine AW.go ?_
    refine AW.finE (.move rfl (.pv _ .nil)) rfl
end Go.Ck

set_option linter.unusedVariables false
/-! A frame of reference. -/
namespace Go.Ck
def lo : List Nat → Nat
  | [] => 0
  | x :: r => r.foldl min x
def hi : List Nat → Nat
  | [] => 0
  | x :: r => r.foldl max x
theorem lo_snoc {l : List Nat} (h : l ≠ []) (x : Nat) : lo (l ++ [x]) = min (lo l) x := by
  cases l with
  | nil => exact absurd rfl h
  | cons a r => simp [lo]
theorem hi_snoc {l : List Nat} (h : l ≠ []) (x : Nat) : hi (l ++ [x]) = max (hi l) x := by
  cases l with
  | nil => exact absurd rfl h
  | cons a r => simp [hi]
theorem lo_one (x : Nat) : lo [x] = x := rfl
theorem hi_one (x : Nat) : hi [x] = x := rfl
theorem foldl_min_le (r : List Nat) : ∀ a, r.foldl min a ≤ a ∧ ∀ x ∈ r, r.foldl min a ≤ x := by
  induction r with
  | nil => simp
  | cons y r ih =>
    intro a
    rw [List.foldl_cons]
    have := ih (min a y)
    refine ⟨by omega, fun x hx => ?_⟩
    rcases List.mem_cons.1 hx with rfl | hx
    · omega
    · exact this.2 x hx
theorem le_foldl_max (r : List Nat) : ∀ a, a ≤ r.foldl max a ∧ ∀ x ∈ r, x ≤ r.foldl max a := by
  induction r with
  | nil => simp
  | cons y r ih =>
    intro a
    rw [List.foldl_cons]
    have := ih (max a y)
    refine ⟨by omega, fun x hx => ?_⟩
    rcases List.mem_cons.1 hx with rfl | hx
    · omega
    · exact this.2 x hx
theorem lo_le {l : List Nat} {x : Nat} (h : x ∈ l) : lo l ≤ x := by
  cases l with
  | nil => cases h
  | cons a r =>
    have := foldl_min_le r a
    rcases List.mem_cons.1 h with rfl | h
    · exact this.1
    · exact this.2 x h
theorem le_hi {l : List Nat} {x : Nat} (h : x ∈ l) : x ≤ hi l := by
  cases l with
  | nil => cases h
  | cons a r =>
    have := le_foldl_max r a
    rcases List.mem_cons.1 h with rfl | h
    · exact this.1
    · exact this.2 x h
theorem foldl_max_lt {B : Nat} (r : List Nat) : ∀ a, a < B → (∀ x ∈ r, x < B) → r.foldl max a < B := by
  induction r with
  | nil => intro a h _; exact h
  | cons y r ih =>
    intro a h h2
    rw [List.foldl_cons]
    exact ih _ (by have := h2 y (by simp); omega) (fun x hx => h2 x (by simp [hx]))
theorem hi_lt {l : List Nat} {B : Nat} (hB : 0 < B) (h : ∀ x ∈ l, x < B) : hi l < B := by
  cases l with
  | nil => exact hB
  | cons a r => exact foldl_max_lt r a (h a (by simp)) (fun x hx => h x (by simp [hx]))
theorem lo_lt {l : List Nat} {B : Nat} (hB : 0 < B) (h : ∀ x ∈ l, x < B) : lo l < B := by
  cases l with
  | nil => exact hB
  | cons a r => exact Nat.lt_of_le_of_lt (lo_le (x := a) (by simp)) (h a (by simp))
theorem lo_hi (l : List Nat) : lo l ≤ hi l := by
  cases l with
  | nil => exact Nat.le_refl _
  | cons a r => exact Nat.le_trans (lo_le (x := a) (by simp)) (le_hi (by simp))
def wF (l : List Nat) : Nat := blen (hi l - lo l)
theorem wF_le {l : List Nat} (h : ∀ x ∈ l, x < 2 ^ 64) : wF l ≤ 64 := blen_le.2 (Nat.lt_of_le_of_lt (Nat.sub_le _ _) (hi_lt (by omega) h))
theorem wF_fit {l : List Nat} {x : Nat} (h : x ∈ l) : x - lo l < 2 ^ wF l := by
  have h1 := lo_le h
  have h2 := le_hi h
  exact Nat.lt_of_le_of_lt (by omega) (blen_lt (v := hi l - lo l))
def bitsF (l : List Nat) (v w : Nat) : List Nat := l.flatMap fun x => binB (x - v) w
theorem bitsF_snoc (l : List Nat) (x v w : Nat) : bitsF (l ++ [x]) v w = bitsF l v w ++ binB (x - v) w := by simp [bitsF]
theorem bitsF_len (l : List Nat) (v w : Nat) : (bitsF l v w).length = l.length * w := by
  induction l with
  | nil => simp [bitsF]
  | cons a r ih =>
    rw [bitsF, List.flatMap_cons, List.length_append, binB_len]
    rw [bitsF] at ih
    rw [ih, List.length_cons, Nat.succ_mul]; omega
theorem bitsF_bit (l : List Nat) (v w : Nat) : ∀ x ∈ bitsF l v w, x < 2 := by
  intro x hx
  simp only [bitsF, List.mem_flatMap] at hx
  obtain ⟨y, _, hx⟩ := hx
  exact binB_bit _ _ x hx
def packF (l : List Nat) : List Nat := leb (lo l) ++ (wF l :: pk (bitsF l (lo l) (wF l)))
def valF (r : List Nat) (w i : Nat) : Nat := getB (unb r) (i * w) w
def valsF (r : List Nat) (w n v : Nat) : List Nat := (List.range n).map fun i => valF r w i + v
def okF (r : List Nat) (w n v : Nat) : Bool := (List.range n).all fun i => decide (valF r w i + v < 2 ^ 64)
def endF (l : List Nat) (k : Nat) : Bool := decide (8 * l.length - k < 8) && decide (∀ x ∈ (unb l).drop k, x = 0)
def unF2 (r : List Nat) (n v w : Nat) : List Nat × Int :=
  if okF r w n v = false then ([], 3) else if endF r (n * w) = false then ([], 3) else if lo (valsF r w n v) = v ∧ wF (valsF r w n v) = w then (valsF r w n v, 0) else ([], 3)
def unF1 (r : List Nat) (n v : Nat) : List Nat × Int :=
  match r with
  | [] => ([], 2)
  | w :: r => if 64 < w then ([], 3) else if 8 * r.length < n * w then ([], 2) else unF2 r n v w
def unF (b : List Nat) (n : Nat) : List Nat × Int :=
  if (readV b).2.2 ≠ 0 then ([], (readV b).2.2) else unF1 (b.drop (readV b).2.1) n (readV b).1
theorem valsF_len (r : List Nat) (w n v : Nat) : (valsF r w n v).length = n := by simp [valsF]
theorem valsF_succ (r : List Nat) (w n v : Nat) : valsF r w (n + 1) v = valsF r w n v ++ [valF r w n + v] := by simp [valsF, List.range_succ]
theorem okF_succ (r : List Nat) (w n v : Nat) : okF r w (n + 1) v = (okF r w n v && decide (valF r w n + v < 2 ^ 64)) := by simp [okF, List.range_succ]
theorem okF_false {r : List Nat} {w n v i : Nat} (hi : i < n) (h : ¬ valF r w i + v < 2 ^ 64) : okF r w n v = false := by
  rw [okF, List.all_eq_false]
  exact ⟨i, by simpa using hi, by simpa using h⟩
theorem okF_lt {r : List Nat} {w n v : Nat} (h : okF r w n v = true) : ∀ x ∈ valsF r w n v, x < 2 ^ 64 := by
  intro x hx
  simp only [valsF, List.mem_map, List.mem_range] at hx
  obtain ⟨i, hi, rfl⟩ := hx
  rw [okF, List.all_eq_true] at h
  simpa using h i (by simpa using hi)
/-- A number that was read was written so. -/
theorem rdv_canon : ∀ (l : List Nat) (k acc : Nat), (∀ x ∈ l, x < 256) → (rdv k acc l).2.2 = 0 → ∃ v c, (rdv k acc l).1 = acc + v * 128 ^ k ∧ l = leb v ++ c ∧ (rdv k acc l).2.1 = k + (leb v).length ∧ (0 < k → 0 < v)
  | [], k, acc, _, h => by simp [rdv] at h
  | x :: r, k, acc, hb, h => by
    simp only [rdv] at h ⊢
    have hx := hb x (by simp)
    split at h <;> rename_i h1
    · simp at h
    rw [if_neg h1]
    split at h <;> rename_i h2
    · rw [if_pos h2]
      obtain ⟨v, c, e1, e2, e3, e4⟩ := rdv_canon r (k + 1) _ (fun y hy => hb y (by simp [hy])) h
      have hv := e4 (by omega)
      refine ⟨v * 128 + x % 128, c, ?_, ?_, ?_, fun _ => by omega⟩
      · rw [e1, Nat.pow_succ]
        rw [Nat.add_mul, Nat.add_assoc, Nat.mul_assoc v, Nat.mul_comm 128, Nat.add_comm (x % 128 * _)]
      · rw [leb_ge (by omega), show (v * 128 + x % 128) % 128 + 128 = x by omega, show (v * 128 + x % 128) / 128 = v by omega, e2]; rfl
      · rw [leb_ge (by omega), show (v * 128 + x % 128) / 128 = v by omega, e3, List.length_cons]; omega
    · rw [if_neg h2]
      split at h <;> rename_i h3
      · simp at h
      · rw [if_neg h3]
        refine ⟨x, r, rfl, ?_, ?_, fun hk => by omega⟩
        · rw [leb_lt (by omega)]; rfl
        · rw [leb_lt (by omega)]; simp
theorem readV_canon {l : List Nat} (hb : ∀ x ∈ l, x < 256) (h : (readV l).2.2 = 0) : l = leb (readV l).1 ++ l.drop (readV l).2.1 := by
  obtain ⟨v, c, e1, e2, e3, _⟩ := rdv_canon (l.take 10) 0 0 (fun x hx => hb x (List.mem_of_mem_take hx)) h
  have h1 : (readV l).1 = v := by unfold readV; rw [e1]; simp
  have h2 : (readV l).2.1 = (leb v).length := by unfold readV; rw [e3]; simp
  rw [h1, h2]
  have e : l = leb v ++ (c ++ l.drop 10) := by rw [← List.append_assoc, ← e2, List.take_append_drop]
  conv => lhs; rw [e]
  conv => rhs; rw [e]
  rw [List.drop_left]
theorem binB_binN : ∀ (l : List Nat), (∀ x ∈ l, x < 2) → binB (binN l) l.length = l := by
  intro l
  induction l with
  | nil => intro _; rfl
  | cons a r ih =>
    intro h
    have ha := h a (by simp)
    have hr := binN_lt r (fun x hx => h x (by simp [hx]))
    rw [List.length_cons, binB_succ, binN_cons]
    have e : ∀ (n b : Nat), binB (b + n * 2 ^ r.length) r.length = binB b r.length := by
      intro n b
      have : ∀ (k : Nat), k ≤ r.length → binB (b + n * 2 ^ r.length) k = binB b k := by
        intro k
        induction k with
        | zero => intro _; rfl
        | succ k ihk =>
          intro hk
          rw [binB_succ, binB_succ, ihk (by omega)]
          congr 1
          have : n * 2 ^ r.length = n * 2 ^ (r.length - k - 1) * 2 * 2 ^ k := by
            rw [Nat.mul_assoc, Nat.mul_assoc, ← Nat.pow_succ', ← Nat.pow_add]; congr 2; omega
          rw [this, Nat.add_mul_div_right _ _ (Nat.two_pow_pos k), Nat.add_mul_mod_self_right]
      exact this _ (Nat.le_refl _)
    rw [Nat.add_comm (a * _), e, ih (fun x hx => h x (by simp [hx]))]
    congr 1
    rw [Nat.add_mul_div_right _ _ (Nat.two_pow_pos _), Nat.div_eq_of_lt hr]; omega
theorem unb_inj : ∀ {l r : List Nat}, (∀ x ∈ l, x < 256) → (∀ x ∈ r, x < 256) → unb l = unb r → l = r
  | [], [], _, _, _ => rfl
  | [], b :: r, _, _, h => by have := congrArg List.length h; rw [unb_len, unb_len] at this; simp at this
  | a :: l, [], _, _, h => by have := congrArg List.length h; rw [unb_len, unb_len] at this; simp at this
  | a :: l, b :: r, h1, h2, h => by
    rw [unb_cons, unb_cons] at h
    have ⟨e1, e2⟩ := List.append_inj h (by rw [binB_len, binB_len])
    have := congrArg binN e1
    rw [binN_binB, binN_binB, Nat.mod_eq_of_lt (h1 a (by simp)), Nat.mod_eq_of_lt (h2 b (by simp))] at this
    rw [this, unb_inj (fun x hx => h1 x (by simp [hx])) (fun x hx => h2 x (by simp [hx])) e2]
theorem pk_of_unb {r l : List Nat} (hr : ∀ x ∈ r, x < 256) (hl : ∀ x ∈ l, x < 2) (h : (unb r).take l.length = l) (hz : ∀ x ∈ (unb r).drop l.length, x = 0) (hs : 8 * r.length < l.length + 8) : pk l = r := by
  have hlen : l.length ≤ 8 * r.length := by have := congrArg List.length h; rw [List.length_take, unb_len] at this; omega
  refine unb_inj (pk_byte l hl) hr ?_
  rw [unb_pk hl]
  have e := List.take_append_drop l.length (unb r)
  rw [h] at e
  rw [← e]
  congr 1
  refine (List.eq_replicate_iff.2 ⟨?_, hz⟩).symm
  rw [List.length_drop, unb_len]; omega
theorem valF_bits {r : List Nat} {w n v : Nat} (hn : n * w ≤ 8 * r.length) : bitsF (valsF r w n v) v w = (unb r).take (n * w) := by
  induction n with
  | zero => simp [valsF, bitsF]
  | succ n ih =>
    rw [Nat.succ_mul] at hn
    rw [valsF_succ, bitsF_snoc, ih (by omega), Nat.add_sub_cancel, valF, getB]
    have hl : (((unb r).drop (n * w)).take w).length = w := by rw [List.length_take, List.length_drop, unb_len]; omega
    have := binB_binN (((unb r).drop (n * w)).take w) (fun x hx => unb_bit r x (List.mem_of_mem_drop (List.mem_of_mem_take hx)))
    rw [hl] at this
    rw [this, Nat.succ_mul, List.take_add]
/-- Written back. -/
theorem pack_back {b r : List Nat} {n v w : Nat} (hb : ∀ x ∈ b, x < 256) (hv : v < 2 ^ 64) (e : b = leb v ++ (w :: r)) (hn : n * w ≤ 8 * r.length) (hend : endF r (n * w) = true) (ho : okF r w n v = true) : packF (valsF r w n v) = b ↔ (lo (valsF r w n v) = v ∧ wF (valsF r w n v) = w) := by
  constructor
  · intro h
    have hlo := lo_lt (l := valsF r w n v) (by omega) (okF_lt ho)
    have e2 := readV_leb hlo (wF (valsF r w n v) :: pk (bitsF (valsF r w n v) (lo (valsF r w n v)) (wF (valsF r w n v))))
    rw [e] at h
    unfold packF at h
    rw [h, readV_leb hv] at e2
    simp only [Prod.mk.injEq] at e2
    obtain ⟨e3, -, -⟩ := e2
    rw [← e3] at h
    have := List.append_cancel_left h
    simp only [List.cons.injEq] at this
    exact ⟨e3.symm, this.1⟩
  · rintro ⟨h1, h2⟩
    unfold packF
    rw [h1, h2, e]
    congr 2
    rw [valF_bits hn]
    simp only [endF, Bool.and_eq_true, decide_eq_true_eq] at hend
    have hl : ((unb r).take (n * w)).length = n * w := by rw [List.length_take, unb_len]; omega
    refine pk_of_unb (fun x hx => hb x (by rw [e]; simp [hx])) (fun x hx => unb_bit r x (List.mem_of_mem_take hx)) ?_ ?_ ?_
    · rw [hl]
    · rw [hl]; exact hend.2
    · rw [hl]; omega
end Go.Ck

set_option linter.unusedVariables false
namespace Go.Ck
theorem binB_drop (v a b : Nat) : (binB v (a + b)).drop a = binB v b := by
  induction a with
  | zero => simp
  | succ a ih => rw [Nat.succ_add, binB_succ, List.drop_succ_cons, ih]
theorem binN_zero : ∀ (l : List Nat), (∀ x ∈ l, x = 0) ↔ binN l = 0
  | [] => by simp [binN]
  | a :: r => by
    rw [binN_cons]
    have := binN_zero r
    have hp := Nat.two_pow_pos r.length
    simp only [List.mem_cons, forall_eq_or_imp]
    rw [this]
    constructor
    · rintro ⟨rfl, h⟩; omega
    · intro h
      have h2 : a * 2 ^ r.length = 0 := by omega
      rcases Nat.mul_eq_zero.1 h2 with h2 | h2
      · exact ⟨h2, by omega⟩
      · omega
theorem unb_last (a : List Nat) (x m : Nat) (hm : m ≤ 8) : (unb (a ++ [x])).drop (8 * (a ++ [x]).length - m) = binB x m := by
  have e : 8 * (a ++ [x]).length - m = (unb a).length + (8 - m) := by rw [unb_len]; simp; omega
  rw [e, unb_append, ← List.drop_drop, List.drop_left, unb_cons, unb_nil, List.append_nil]
  have := binB_drop x (8 - m) m
  rw [show 8 - m + m = 8 by omega] at this
  exact this
theorem endF_last {l : List Nat} {k : Nat} (h1 : k < 8 * l.length) (h2 : 8 * l.length - k < 8) (hb : ∀ x ∈ l, x < 256) : endF l k = decide (l.getD (l.length - 1) 0 * 2 ^ (8 - (8 * l.length - k)) % 256 = 0) := by
  have hne : l ≠ [] := by rintro rfl; simp at h1
  obtain ⟨a, x, rfl⟩ : ∃ a x, l = a ++ [x] := ⟨l.dropLast, l.getLast hne, (List.dropLast_concat_getLast hne).symm⟩
  have hx := hb x (by simp)
  have hg : (a ++ [x]).getD ((a ++ [x]).length - 1) 0 = x := by rw [List.getD_eq_getElem?_getD]; simp
  rw [hg]
  generalize hm : 8 * (a ++ [x]).length - k = m at *
  have hk : k = 8 * (a ++ [x]).length - m := by omega
  unfold endF
  rw [hm, decide_eq_true h2, Bool.true_and, hk, unb_last a x m (by omega)]
  rw [decide_eq_decide, binN_zero, binN_binB]
  have e : 256 = 2 ^ m * 2 ^ (8 - m) := by rw [← Nat.pow_add, show m + (8 - m) = 8 by omega]
  conv => rhs; rw [e]
  rw [Nat.mul_mod_mul_right]
  constructor
  · intro h; rw [h, Nat.zero_mul]
  · intro h
    rcases Nat.mul_eq_zero.1 h with h | h
    · exact h
    · have := Nat.two_pow_pos (8 - m); omega
theorem endF_all {l : List Nat} {k : Nat} (h : k = 8 * l.length) : endF l k = true := by
  subst h
  unfold endF
  rw [List.drop_eq_nil_of_le (by rw [unb_len]; omega)]
  simp
theorem endF_far {l : List Nat} {k : Nat} (h : ¬ 8 * l.length - k < 8) : endF l k = false := by
  unfold endF
  rw [decide_eq_false h]; rfl
def endE (l : List Nat) (k : Nat) : Int := if endF l k = true then 0 else 3
theorem min_int (a b : Nat) : (if (a : Int) < (b : Int) then (a : Int) else (b : Int)) = ((min a b : Nat) : Int) := by split <;> omega
theorem min_nat (a b : Nat) : (if a < b then ((a : Nat) : Int) else (b : Int)) = ((min a b : Nat) : Int) := by split <;> omega
theorem max_int (a b : Nat) : (if (a : Int) < (b : Int) then (b : Int) else (a : Int)) = ((max a b : Nat) : Int) := by split <;> omega
theorem max_nat (a b : Nat) : (if a < b then ((b : Nat) : Int) else (a : Int)) = ((max a b : Nat) : Int) := by split <;> omega
theorem lo_take {l : List Nat} {i : Nat} (h : i < l.length) (h0 : i ≠ 0) : lo (l.take (i + 1)) = min (lo (l.take i)) l[i] := by
  rw [List.take_add_one, List.getElem?_eq_getElem h, Option.toList_some, lo_snoc]
  intro e; have := congrArg List.length e; rw [List.length_take, List.length_nil] at this; omega
theorem hi_take {l : List Nat} {i : Nat} (h : i < l.length) (h0 : i ≠ 0) : hi (l.take (i + 1)) = max (hi (l.take i)) l[i] := by
  rw [List.take_add_one, List.getElem?_eq_getElem h, Option.toList_some, hi_snoc]
  intro e; have := congrArg List.length e; rw [List.length_take, List.length_nil] at this; omega
theorem lo_take1 {l : List Nat} (h : 0 < l.length) : lo (l.take 1) = l[0] ∧ hi (l.take 1) = l[0] := by
  cases l with
  | nil => simp at h
  | cons a r => exact ⟨rfl, rfl⟩
def lims (l : List Nat) (i : Nat) : Option (List PV) := if i < l.length then some [.int .u64 (lo (l.take (i + 1)) : Nat), .int .u64 (hi (l.take (i + 1)) : Nat)] else none
theorem lims_in {l : List Nat} {i : Nat} (h : i < l.length) : lims l i = some [.int .u64 (lo (l.take (i + 1)) : Nat), .int .u64 (hi (l.take (i + 1)) : Nat)] := if_pos h
theorem lims_end (l : List Nat) : lims l l.length = none := if_neg (by omega)
end Go.Ck

set_option linter.unusedVariables false
set_option maxRecDepth 10000
set_option maxHeartbeats 1000000
namespace Go.Ck
open Go.Proofs

theorem rdEnd_fn (l : List Nat) (k : Nat) (hk : k ≤ 8 * l.length) (hl : 8 * l.length ≤ room) (hb : ∀ x ∈ l, x < 256) : Fn Try.prog 90 (rdO l k) [.ptr 1000 0] (fun rs H' => rs = [.pv (.int .i64 (endE l k))] ∧ H' = rdO l k) := by
  refine Fn.of_body (fn := Try.f90) (n := 32) (res := [.tmp 2]) (by kernel_rfl) rfl rfl rfl rfl rfl (fun C => ?_)
  have hr : room < 2 ^ 62 := by decide
  refine AW.go ?_
  refine AW.condF rfl ?_
  refine AW.go ?_
  refine AW.callE id (rdLeft_fn l k hk hl) (.ptr rfl .nil) ?_
  refine AW.go ?_
  generalize hm : 8 * l.length - k = m
  by_cases h8 : m < 8
  · have d1 : decide (8 ≤ m) = false := decide_eq_false (by omega)
    have d1' : decide ((m : Int) ≥ 8) = false := decide_eq_false (by omega)
    have d1i : decide ((8 : Int) ≤ (m : Int)) = false := decide_eq_false (by omega)
    by_cases h0 : m = 0
    · have d2 : decide (0 < m) = false := decide_eq_false (by omega)
      have d2' : decide ((m : Int) > 0) = false := decide_eq_false (by omega)
      have he : endE l k = 0 := by unfold endE; rw [endF_all (by omega)]; rfl
      rw [he]
      refine AW.sr mixed (by decide +kernel) ?_ (by simp only [go_sem, ↓reduceIte, d1, d2, d1', d1i, d2'] <;> rfl)
      refine AW.condF rfl ?_
      refine AW.go ?_
      refine AW.finE (.pv _ .nil) rfl
    · have d2 : decide (0 < m) = true := decide_eq_true (by omega)
      have d2' : decide ((m : Int) > 0) = true := decide_eq_true (by omega)
      have hlt : l.length - 1 < l.length := by omega
      have hget := bytes_get hlt
      rw [getD_get] at hget
      have hx := hb _ (List.getElem_mem hlt)
      rw [getD_get] at hx
      have hend := endF_last (l := l) (k := k) (by omega) (by omega) hb
      rw [hm] at hend
      generalize l.getD (l.length - 1) 0 = x at *
      generalize hq : x * 2 ^ (8 - m) % 256 = q at *
      have e1 : IntKind.i64.wrap ((l.length : Int) - 1) = ((l.length - 1 : Nat) : Int) := by rw [wrap_i64_of (by omega) (by omega)]; omega
      have e2 : IntKind.i64.wrap (8 - (m : Int)) = ((8 - m : Nat) : Int) := by rw [wrap_i64_of (by omega) (by omega)]; omega
      have e3 : shlI .u8 (x : Int) ((8 - m : Nat) : Int) = ((q : Nat) : Int) := by rw [← hq]; exact shlI_nat8 _ _ (by omega)
      refine AW.sr mixed (by decide +kernel) ?_ (by simp only [go_sem, ↓reduceIte, d1, d2, d1', d1i, d2', e1, e2, e3, hget, hlt] <;> rfl)
      refine AW.cond rfl (fun hc => ?_) (fun hc => ?_)
      · have hne : ¬ q = 0 := by simpa using hc
        have he : endE l k = 3 := by unfold endE; rw [hend, decide_eq_false hne]; rfl
        rw [he]
        refine AW.go ?_
        refine AW.finE (.pv _ .nil) rfl
      · have hne : q = 0 := by simpa using hc
        have he : endE l k = 0 := by unfold endE; rw [hend, decide_eq_true hne]; rfl
        rw [he]
        refine AW.go ?_
        refine AW.finE (.pv _ .nil) rfl
  · have d1 : decide (8 ≤ m) = true := decide_eq_true (by omega)
    have d1' : decide ((m : Int) ≥ 8) = true := decide_eq_true (by omega)
    have d1i : decide ((8 : Int) ≤ (m : Int)) = true := decide_eq_true (by omega)
    have he : endE l k = 3 := by unfold endE; rw [endF_far (by omega)]; rfl
    rw [he]
    refine AW.sr mixed (by decide +kernel) ?_ (by simp only [go_sem, ↓reduceIte, d1, d1', d1i] <;> rfl)
    refine AW.condT rfl ?_
    refine AW.go ?_
    refine AW.finE (.pv _ .nil) rfl

theorem refEnd_fn (l : List Nat) (hl : l.length ≤ room) : Fn Try.prog 83 [] [.pv (.sl 1 (nis l))] (fun rs H' => rs = [.pv (.int .i64 (if l.length < 8 ∧ ∀ x ∈ l, x = 0 then 0 else 3))] ∧ H' = []) := by
  refine Fn.of_body (fn := Try.f83) (n := 18) (res := [.tmp 2]) (by kernel_rfl) rfl rfl rfl rfl rfl (fun C => ?_)
  have hr : room < 2 ^ 62 := by decide
  refine AW.go ?_
  refine AW.cond rfl (fun hc => ?_) (fun hc => ?_)
  · have h : ¬ l.length < 8 := by simp at hc; omega
    rw [if_neg (fun hh => h hh.1)]
    refine AW.go ?_
    refine AW.finE (.pv _ .nil) rfl
  have h8 : l.length < 8 := by simp at hc; omega
  refine AW.go ?_
  refine AW.loopS (fun i : Nat => ⟨18, [(3, .pv (.int .i64 i)), (0, .pv (.sl 1 (nis l)))], []⟩) (fun i => i ≤ l.length ∧ ∀ x ∈ l.take i, x = 0) (fun i => l.length - i) [3, 0] [] 0 ⟨Nat.zero_le _, by simp⟩ ?_
  rintro i ⟨hi, hz⟩ K hK
  refine AW.go ?_
  refine AW.cond rfl (fun hc => ?_) (fun hc => ?_)
  · have hlt : i < l.length := by simpa using hc
    have hget := nis_get hlt
    have hti : l.take (i + 1) = l.take i ++ [l[i]] := by simp
    have hmem := List.getElem_mem hlt
    generalize l[i] = x at *
    refine AW.go ?_ (by simp only [go_sem, ↓reduceIte, hget] <;> rfl)
    refine AW.cond rfl (fun hc2 => ?_) (fun hc2 => ?_)
    · have hx : x ≠ 0 := by simp at hc2; omega
      rw [if_neg (fun hh => hx (hh.2 x hmem))]
      refine AW.go ?_
      refine AW.finE (.pv _ .nil) rfl
    · have hx : x = 0 := by simp at hc2; omega
      have ei : IntKind.i64.wrap ((i : Int) + 1) = ((i + 1 : Nat) : Int) := wrap_i64_succ (by omega)
      refine AW.go ?_ (by simp only [go_sem, ↓reduceIte, ei] <;> rfl)
      refine AW.again hK (i + 1) ⟨hlt, ?_⟩ (by omega)
      rw [hti]
      intro y hy
      rcases List.mem_append.1 hy with hy | hy
      · exact hz y hy
      · rw [List.mem_singleton] at hy; rw [hy, hx]
  · have hge : i = l.length := by simp at hc; omega
    subst hge
    rw [List.take_length] at hz
    rw [if_pos ⟨h8, hz⟩]
    refine AW.go ?_
    refine AW.finE (.pv _ .nil) rfl

theorem ends_fn (xs : List Nat) : Fn Try.prog 84 [] [.pv (.sl 1 (u64s xs))] (fun rs H' => rs = [.fn 94 [.ptr 1 0]] ∧ H' = [(1, .cells 43 [.pv (.sl 1 (u64s xs))])]) := by
  refine Fn.of_body (fn := Try.f84) (n := 4) (res := [.tmp 2]) (by kernel_rfl) rfl rfl rfl rfl rfl (fun C => ?_)
  refine AW.go ?_
  refine AW.finE (.fn rfl .nil) rfl
theorem AW.absurdD {P : Program} {R : Option Nat} {Φ : Exit → Cx → St → Prop} {e : Exit} {k : List It} {X : Bs → Prop} {s : St} (h : ∀ B, ¬ X B) : AW P R Φ e k (plain X) s := fun B a w ha => absurd ha.1.1.2 (h B)

theorem ends1_iter (l : List Nat) (hl : l.length ≤ 65536) : Iter Try.prog 94 [.ptr 12 0] [(12, .cells 43 [.pv (.sl 1 (u64s l))])] (lims l) := by
  refine Iter.of_body (fn := Try.f94) (n := 30) (by kernel_rfl) rfl rfl rfl rfl (fun L X X0 N hY hN => ?_)
  refine AW.go ?_
  refine AW.loopC (n := l.length) (fun m C s => ∃ i, m = l.length - i ∧ i ≤ l.length ∧ i ≤ N ∧ C = plain (X i) ∧ keepB [0, 3, 4, 7, 8, 9] [12] s = ⟨30, [(0, .yl L), (3, .pv (.int .u64 (lo (l.take i) : Nat))), (4, .pv (.int .u64 (hi (l.take i) : Nat))), (7, .pv (.sl 1 (u64s l))), (8, .pv (.int .i64 l.length)), (9, .pv (.int .i64 i))], [(12, .cells 43 [.pv (.sl 1 (u64s l))])]⟩ ∧ keptB none [0, 3, 4, 7, 8, 9] [12] s = true) ⟨0, rfl, by omega, Nat.zero_le _, rfl, by simp only [go_sem, ↓reduceIte] <;> rfl, by simp only [go_sem, ↓reduceIte]⟩ ?_
  rintro m C s ⟨i, rfl, hw, hiN, rfl, hs, hk⟩
  refine AW.keepB [0, 3, 4, 7, 8, 9] [12] hk hs ?_
  refine AW.go ?_
  refine AW.cond rfl (fun hc => ?_) (fun hc => ?_)
  · have hlt : i < l.length := by simpa using hc
    have ei : IntKind.i64.wrap ((i : Int) + 1) = ((i + 1 : Nat) : Int) := wrap_i64_succ (by omega)
    have hget := u64s_get hlt
    have hout := lims_in hlt
    have hto := lo_take (l := l) (i := i) hlt
    have hti := hi_take (l := l) (i := i) hlt
    have h1 := lo_take1 (l := l) (by omega)
    have hN' : i < N ∨ ∀ B, ¬ X i B := by
      by_cases hn : i = N
      · subst hn
        rcases hN with h | h
        · rw [hout] at h; cases h
        · exact .inr h
      · exact .inl (by omega)
    rcases hN'.symm with hab | hlt2
    · exact AW.absurdD hab
    obtain ⟨p, hp, hY1⟩ := hY _ hlt2
    rw [hout] at hp
    cases hp
    refine AW.go ?_ (by simp only [go_sem, ↓reduceIte, hget] <;> rfl)
    refine AW.joinS (fun _ : Unit => ⟨30, [(0, .yl L), (3, .pv (.int .u64 (if i = 0 then l[i] else lo (l.take i) : Nat))), (4, .pv (.int .u64 (if i = 0 then l[i] else hi (l.take i) : Nat))), (6, .pv (.int .u64 (l[i] : Nat))), (7, .pv (.sl 1 (u64s l))), (8, .pv (.int .i64 l.length)), (9, .pv (.int .i64 i))], [(12, .cells 43 [.pv (.sl 1 (u64s l))])]⟩) (fun _ => True) [0, 3, 4, 6, 7, 8, 9] [12] ?_ ?_
    · intro K hK
      refine AW.cond rfl (fun hc2 => ?_) (fun hc2 => ?_)
      · have h0 : i = 0 := by simp at hc2; omega
        refine AW.go ?_
        refine AW.meet hK () trivial (by simp only [go_sem, ↓reduceIte]) (by simp only [go_sem, ↓reduceIte, if_pos h0] <;> rfl)
      · have h0 : ¬ i = 0 := by simp at hc2; omega
        refine AW.go ?_
        refine AW.meet hK () trivial (by simp only [go_sem, ↓reduceIte]) (by simp only [go_sem, ↓reduceIte, if_neg h0] <;> rfl)
    rintro _ -
    have em : min l[i] (if i = 0 then l[i] else lo (l.take i)) = lo (l.take (i + 1)) := by
      rw [Nat.min_comm]
      by_cases h0 : i = 0
      · subst h0; rw [if_pos rfl, h1.1, Nat.min_self]
      · rw [if_neg h0, hto h0]
    have eM : max (if i = 0 then l[i] else hi (l.take i)) l[i] = hi (l.take (i + 1)) := by
      by_cases h0 : i = 0
      · subst h0; rw [if_pos rfl, h1.2, Nat.max_self]
      · rw [if_neg h0, hti h0]
    refine AW.gg ?_ (by simp only [go_sem, ↓reduceIte, min_int, min_nat, max_int, max_nat, em, eM] <;> rfl)
    refine AW.yield hY1 rfl rfl ?_ ?_
    · refine AW.gg ?_
      refine AW.condF rfl ?_
      refine AW.go ?_ (by simp only [go_sem, ↓reduceIte, ei] <;> rfl)
      refine AW.stop ⟨l.length - (i + 1), by omega, i + 1, rfl, by omega, by omega, rfl, by simp only [go_sem, ↓reduceIte] <;> rfl, by simp only [go_sem, ↓reduceIte]⟩
    · refine AW.gg ?_
      refine AW.condT rfl ?_
      refine AW.go ?_
      exact AW.nil ⟨.inr rfl, .inr rfl⟩
  · have h4 : i = l.length := by simp at hc; omega
    subst h4
    have hend := lims_end l
    have hNe : l.length = N := by
      apply Classical.byContradiction
      intro hne
      obtain ⟨p, hp, _⟩ := hY _ (by omega : l.length < N)
      rw [hend] at hp; cases hp
    rw [hNe] at hend ⊢
    refine AW.go ?_
    exact AW.nil ⟨.inl rfl, .inl ⟨hend, rfl⟩⟩
end Go.Ck

set_option linter.unusedVariables false
set_option maxRecDepth 10000
set_option maxHeartbeats 1000000
namespace Go.Ck
open Go.Proofs

attribute [go_sem] putParams keptH allNames pickH
theorem EndsR.noPanic {P : Program} {res : List ResultVar} {H : List (Nat × HO)} {Ψ : List SV → List (Nat × HO) → Prop} {C' : Cx} : ∀ c C s, ¬ EndsR P res H Ψ C' (.panic c) C s := fun c C s h => by
  have := h.2.1
  simp at this
theorem frame_fn (l : List Nat) (hl : l.length ≤ 65536) (hx : ∀ x ∈ l, x < 2 ^ 64) : Fn Try.prog 63 [] [.pv (.sl 1 (u64s l))]
    (fun rs H' => rs = [.pv (.int .u64 (lo l : Nat)), .pv (.int .i64 (wF l : Nat))] ∧ H' = []) := by
  refine Fn.of_bodyR (fn := Try.f63) (n := 19) (res := [.tmp 2, .tmp 3]) (by kernel_rfl) rfl rfl rfl rfl rfl (fun C => ?_)
  have hr : room = 140737488355328 := rfl
  refine AW.go ?_
  refine AW.callE (fun _ => 12) (ends_fn l) (.pv _ .nil) ?_
  refine AW.go ?_
  have hout : ∀ i p, lims l i = some p → i < l.length ∧ p = [.int .u64 (lo (l.take (i + 1)) : Nat), .int .u64 (hi (l.take (i + 1)) : Nat)] := by
    intro i p hp
    unfold lims at hp
    split at hp <;> cases hp
    rename_i h
    exact ⟨h, rfl⟩
  refine AW.rangeFunc [4, 5] [4, 5] (fun i hp => hp = [(4, .cells 42 [.pv (.int .u64 (lo (l.take i) : Nat))]), (5, .cells 42 [.pv (.int .u64 (hi (l.take i) : Nat))])]) (fun _ _ => False) l.length (ends1_iter l hl) rfl (by simp only [go_sem, ↓reduceIte]) (by simp only [go_sem, ↓reduceIte]) (by simp only [go_sem, ↓reduceIte]) (by simp only [go_sem, ↓reduceIte] <;> rfl) rfl rfl rfl rfl rfl ?_ ?_ (.inl (lims_end l)) ?_ ?_ ?_
  · intro i p hp
    obtain ⟨_, rfl⟩ := hout i p hp
    rfl
  · intro i hi
    exact ⟨_, lims_in hi⟩
  · intro i p hi hp
    obtain ⟨_, rfl⟩ := hout i p hp
    rintro _ rfl L C1
    refine AW.go ?_
    refine AW.nil ⟨rfl, rfl, fun C2 => ?_⟩
    refine AW.go ?_
    refine AW.nil ⟨rfl, by simp only [go_sem, ↓reduceIte], by simp only [go_sem, ↓reduceIte], .inl ⟨rfl, ?_⟩⟩
    simp only [go_sem, ↓reduceIte]
  · rintro _ _ rfl
    rw [List.take_length]
    have h1 := lo_lt (by omega) hx
    have h2 := hi_lt (by omega) hx
    have h3 := lo_hi l
    have hw : wF l = blen (hi l - lo l) := rfl
    rw [hw]
    generalize lo l = a at *
    generalize hi l = b at *
    have es : IntKind.u64.wrap ((b : Int) - (a : Int)) = ((b - a : Nat) : Int) := by
      rw [show (b : Int) - (a : Int) = ((b - a : Nat) : Int) by omega]; exact wrap_u64_lt (by omega)
    refine AW.go ?_
    refine AW.any0 mixed ?_
    refine AW.branch (fuel := 6) (rs := [0, 1, 2]) ?_ (by decide +kernel) (by simp)
    intro j hj
    simp only [List.mem_cons, List.not_mem_nil, or_false] at hj
    rcases hj with rfl | rfl | rfl
    · skip
      refine AW.gg ?_ (by simp only [go_sem, ↓reduceIte, es] <;> rfl)
      refine AW.branch (fuel := 5) (rs := [1, 2]) ?_ (by decide +kernel) (by simp)
      intro j hj
      simp only [List.mem_cons, List.not_mem_nil, or_false] at hj
      rcases hj with rfl | rfl
      · skip
        refine AW.gg ?_ (by simp only [go_sem, ↓reduceIte, es] <;> rfl)
        refine AW.seqs (fuel := 0) (listed' := #[true, true, true, true, true, true, true]) [2, 3, 4, 5, 6] ?_ (by decide +kernel)
        refine AW.gg ?_ (by simp only [go_sem, ↓reduceIte, es] <;> rfl)
        refine AW.callE (fun _ => 0) (width_fn (b - a) (by omega)) (.pv _ .nil) ?_
        refine AW.gg ?_
        refine AW.anyDone (by decide +kernel) ?_
        refine AW.go ?_
        refine AW.finR (.inr rfl) (.inr rfl) (by simp only [go_sem, ↓reduceIte, retsV] <;> rfl) (.pv _ (.pv _ .nil)) (H' := []) (by simp only [go_sem, ↓reduceIte]) (by simp only [go_sem, ↓reduceIte]) (by simp only [go_sem, ↓reduceIte]) ⟨rfl, rfl⟩
      · skip
        refine AW.gg ?_ (by simp only [go_sem, ↓reduceIte, es] <;> rfl)
        refine AW.seqs (fuel := 0) (listed' := #[true, true, true, true, true, true, true]) [1, 3, 4, 5, 6] ?_ (by decide +kernel)
        refine AW.gg ?_ (by simp only [go_sem, ↓reduceIte, es] <;> rfl)
        refine AW.callE (fun _ => 0) (width_fn (b - a) (by omega)) (.pv _ .nil) ?_
        refine AW.gg ?_
        refine AW.anyDone (by decide +kernel) ?_
        refine AW.go ?_
        refine AW.finR (.inr rfl) (.inr rfl) (by simp only [go_sem, ↓reduceIte, retsV] <;> rfl) (.pv _ (.pv _ .nil)) (H' := []) (by simp only [go_sem, ↓reduceIte]) (by simp only [go_sem, ↓reduceIte]) (by simp only [go_sem, ↓reduceIte]) ⟨rfl, rfl⟩
    · skip
      refine AW.gg ?_ (by simp only [go_sem, ↓reduceIte, es] <;> rfl)
      refine AW.branch (fuel := 5) (rs := [0, 2]) ?_ (by decide +kernel) (by simp)
      intro j hj
      simp only [List.mem_cons, List.not_mem_nil, or_false] at hj
      rcases hj with rfl | rfl
      · skip
        refine AW.gg ?_ (by simp only [go_sem, ↓reduceIte, es] <;> rfl)
        refine AW.seqs (fuel := 0) (listed' := #[true, true, true, true, true, true, true]) [2, 3, 4, 5, 6] ?_ (by decide +kernel)
        refine AW.gg ?_ (by simp only [go_sem, ↓reduceIte, es] <;> rfl)
        refine AW.callE (fun _ => 0) (width_fn (b - a) (by omega)) (.pv _ .nil) ?_
        refine AW.gg ?_
        refine AW.anyDone (by decide +kernel) ?_
        refine AW.go ?_
        refine AW.finR (.inr rfl) (.inr rfl) (by simp only [go_sem, ↓reduceIte, retsV] <;> rfl) (.pv _ (.pv _ .nil)) (H' := []) (by simp only [go_sem, ↓reduceIte]) (by simp only [go_sem, ↓reduceIte]) (by simp only [go_sem, ↓reduceIte]) ⟨rfl, rfl⟩
      · skip
        refine AW.gg ?_ (by simp only [go_sem, ↓reduceIte, es] <;> rfl)
        refine AW.takes (fuel := 4) [3] ?_ (by simp only [go_sem, ↓reduceIte, es] <;> rfl) EndsR.noPanic (listed' := #[false, true, true, true, false, false, false]) (by decide +kernel) (by decide +kernel)
        refine AW.branch (fuel := 3) (rs := [0, 4]) ?_ (by decide +kernel) (by simp)
        intro j hj
        simp only [List.mem_cons, List.not_mem_nil, or_false] at hj
        rcases hj with rfl | rfl
        · skip
          refine AW.gg ?_ (by simp only [go_sem, ↓reduceIte, es] <;> rfl)
          refine AW.seqs (fuel := 0) (listed' := #[true, true, true, true, true, true, true]) [4, 5, 6] ?_ (by decide +kernel)
          refine AW.gg ?_ (by simp only [go_sem, ↓reduceIte, es] <;> rfl)
          refine AW.callE (fun _ => 0) (width_fn (b - a) (by omega)) (.pv _ .nil) ?_
          refine AW.gg ?_
          refine AW.anyDone (by decide +kernel) ?_
          refine AW.go ?_
          refine AW.finR (.inr rfl) (.inr rfl) (by simp only [go_sem, ↓reduceIte, retsV] <;> rfl) (.pv _ (.pv _ .nil)) (H' := []) (by simp only [go_sem, ↓reduceIte]) (by simp only [go_sem, ↓reduceIte]) (by simp only [go_sem, ↓reduceIte]) ⟨rfl, rfl⟩
        · skip
          refine AW.gg ?_ (by simp only [go_sem, ↓reduceIte, es] <;> rfl)
          refine AW.callE (fun _ => 0) (width_fn (b - a) (by omega)) (.pv _ .nil) ?_
          refine AW.gg ?_
          refine AW.seqs (fuel := 0) (listed' := #[true, true, true, true, true, true, true]) [0, 5, 6] ?_ (by decide +kernel)
          refine AW.gg ?_ (by simp only [go_sem, ↓reduceIte, es] <;> rfl)
          refine AW.anyDone (by decide +kernel) ?_
          refine AW.go ?_
          refine AW.finR (.inr rfl) (.inr rfl) (by simp only [go_sem, ↓reduceIte, retsV] <;> rfl) (.pv _ (.pv _ .nil)) (H' := []) (by simp only [go_sem, ↓reduceIte]) (by simp only [go_sem, ↓reduceIte]) (by simp only [go_sem, ↓reduceIte]) ⟨rfl, rfl⟩
    · skip
      refine AW.gg ?_ (by simp only [go_sem, ↓reduceIte, es] <;> rfl)
      refine AW.branch (fuel := 5) (rs := [0, 1]) ?_ (by decide +kernel) (by simp)
      intro j hj
      simp only [List.mem_cons, List.not_mem_nil, or_false] at hj
      rcases hj with rfl | rfl
      · skip
        refine AW.gg ?_ (by simp only [go_sem, ↓reduceIte, es] <;> rfl)
        refine AW.seqs (fuel := 0) (listed' := #[true, true, true, true, true, true, true]) [1, 3, 4, 5, 6] ?_ (by decide +kernel)
        refine AW.gg ?_ (by simp only [go_sem, ↓reduceIte, es] <;> rfl)
        refine AW.callE (fun _ => 0) (width_fn (b - a) (by omega)) (.pv _ .nil) ?_
        refine AW.gg ?_
        refine AW.anyDone (by decide +kernel) ?_
        refine AW.go ?_
        refine AW.finR (.inr rfl) (.inr rfl) (by simp only [go_sem, ↓reduceIte, retsV] <;> rfl) (.pv _ (.pv _ .nil)) (H' := []) (by simp only [go_sem, ↓reduceIte]) (by simp only [go_sem, ↓reduceIte]) (by simp only [go_sem, ↓reduceIte]) ⟨rfl, rfl⟩
      · skip
        refine AW.gg ?_ (by simp only [go_sem, ↓reduceIte, es] <;> rfl)
        refine AW.takes (fuel := 4) [3] ?_ (by simp only [go_sem, ↓reduceIte, es] <;> rfl) EndsR.noPanic (listed' := #[false, true, true, true, false, false, false]) (by decide +kernel) (by decide +kernel)
        refine AW.branch (fuel := 3) (rs := [0, 4]) ?_ (by decide +kernel) (by simp)
        intro j hj
        simp only [List.mem_cons, List.not_mem_nil, or_false] at hj
        rcases hj with rfl | rfl
        · skip
          refine AW.gg ?_ (by simp only [go_sem, ↓reduceIte, es] <;> rfl)
          refine AW.seqs (fuel := 0) (listed' := #[true, true, true, true, true, true, true]) [4, 5, 6] ?_ (by decide +kernel)
          refine AW.gg ?_ (by simp only [go_sem, ↓reduceIte, es] <;> rfl)
          refine AW.callE (fun _ => 0) (width_fn (b - a) (by omega)) (.pv _ .nil) ?_
          refine AW.gg ?_
          refine AW.anyDone (by decide +kernel) ?_
          refine AW.go ?_
          refine AW.finR (.inr rfl) (.inr rfl) (by simp only [go_sem, ↓reduceIte, retsV] <;> rfl) (.pv _ (.pv _ .nil)) (H' := []) (by simp only [go_sem, ↓reduceIte]) (by simp only [go_sem, ↓reduceIte]) (by simp only [go_sem, ↓reduceIte]) ⟨rfl, rfl⟩
        · skip
          refine AW.gg ?_ (by simp only [go_sem, ↓reduceIte, es] <;> rfl)
          refine AW.callE (fun _ => 0) (width_fn (b - a) (by omega)) (.pv _ .nil) ?_
          refine AW.gg ?_
          refine AW.seqs (fuel := 0) (listed' := #[true, true, true, true, true, true, true]) [0, 5, 6] ?_ (by decide +kernel)
          refine AW.gg ?_ (by simp only [go_sem, ↓reduceIte, es] <;> rfl)
          refine AW.anyDone (by decide +kernel) ?_
          refine AW.go ?_
          refine AW.finR (.inr rfl) (.inr rfl) (by simp only [go_sem, ↓reduceIte, retsV] <;> rfl) (.pv _ (.pv _ .nil)) (H' := []) (by simp only [go_sem, ↓reduceIte]) (by simp only [go_sem, ↓reduceIte]) (by simp only [go_sem, ↓reduceIte]) ⟨rfl, rfl⟩
  · rintro j hp h; exact h.elim
end Go.Ck

set_option linter.unusedVariables false
set_option maxRecDepth 10000
set_option maxHeartbeats 1000000
namespace Go.Ck
open Go.Proofs

theorem pack_fn (xs : List Nat) (hl : xs.length ≤ 65536) (hx : ∀ x ∈ xs, x < 2 ^ 64) : Fn Try.prog 44 [] [.pv (.sl 1 (u64s xs))]
    (fun rs H' => rs = [.own 5 (bytes (packF xs)), .pv (.int .i64 0)] ∧ H' = []) := by
  refine Fn.of_body (fn := Try.f44) (n := 43) (res := [.tmp 2, .tmp 3]) (by kernel_rfl) rfl rfl rfl rfl rfl (fun C => ?_)
  have hr : room = 140737488355328 := rfl
  have hgt : decide (65536 < xs.length) = false := decide_eq_false (by omega)
  have hgi : decide ((xs.length : Int) > 65536) = false := decide_eq_false (by omega)
  refine AW.go ?_ (by simp only [go_sem, ↓reduceIte, hgt, hgi] <;> rfl)
  refine AW.condF rfl ?_
  refine AW.go ?_
  refine AW.callE (fun _ => 0) (frame_fn xs hl hx) (.pv _ .nil) ?_
  refine AW.go ?_
  refine AW.nilsOwnAt (.cell 19 0) 5 ?_
  have hw := wF_le hx
  have hlo := lo_lt (by omega) hx
  have hfit : ∀ x ∈ xs, x - lo xs < 2 ^ wF xs ∧ lo xs ≤ x := fun x h => ⟨wF_fit h, lo_le h⟩
  unfold packF
  generalize wF xs = w at *
  generalize lo xs = v at *
  refine AW.loopS (fun i : Nat => ⟨43, [(22, .pv (.int .i64 i)), (21, .pv (.int .i64 xs.length)), (20, .pv (.sl 1 (u64s xs))), (6, .ptr 19 0), (4, .pv (.int .u64 v)), (5, .pv (.int .i64 w))], [(19, .cells 80 [.own 5 (bytes (pk (bitsF (xs.take i) v w))), .pv (.int .i64 (bitsF (xs.take i) v w).length)])]⟩) (fun i => i ≤ xs.length) (fun i => xs.length - i) [22, 21, 20, 6, 4, 5] [19] 0 (Nat.zero_le _) ?_
  rintro i hi K hK
  refine AW.go ?_
  refine AW.cond rfl (fun hc => ?_) (fun hc => ?_)
  · have hlt : i < xs.length := by simpa using hc
    have hget := u64s_get hlt
    have hti : xs.take (i + 1) = xs.take i ++ [xs[i]] := by simp
    have hxx := hx _ (List.getElem_mem hlt)
    obtain ⟨hf1, hf2⟩ := hfit _ (List.getElem_mem hlt)
    generalize xs[i] = x at *
    have hbl := bitsF_len (xs.take i) v w
    have hbs := bitsF_snoc (xs.take i) x v w
    rw [List.length_take] at hbl
    have hm : min i xs.length * w ≤ 65536 * 64 := Nat.mul_le_mul (by omega) hw
    have hput := wrPut_fn (bitsF (xs.take i) v w) (x - v) w (bitsF_bit _ _ _) hw hf1 (by rw [hbl]; omega)
    have ei : IntKind.i64.wrap ((i : Int) + 1) = ((i + 1 : Nat) : Int) := wrap_i64_succ (by omega)
    have es : IntKind.u64.wrap ((x : Int) - (v : Int)) = ((x - v : Nat) : Int) := by rw [show (x : Int) - (v : Int) = ((x - v : Nat) : Int) by omega]; exact wrap_u64_lt (by omega)
    refine AW.go ?_ (by simp only [go_sem, ↓reduceIte, hget, es] <;> rfl)
    refine AW.callE (fun _ => 19) hput (.ptr rfl (.pv _ (.pv _ .nil))) ?_
    rw [← hbs, ← hti]
    refine AW.go ?_ (by simp only [go_sem, ↓reduceIte, ei] <;> rfl)
    refine AW.again hK (i + 1) hlt (by omega)
  · have hge : ¬ i < xs.length := by simpa using hc
    rw [List.take_of_length_le (by omega)]
    have hbl := bitsF_len xs v w
    have hm : xs.length * w ≤ 65536 * 64 := Nat.mul_le_mul (by omega) hw
    have h10 := leb_len10 hlo
    refine AW.go ?_
    refine AW.callE (fun _ => 0) (append_fn [] v hlo (by simp; omega)) (.nilsP 1 (.pv _ .nil)) ?_
    have eu : IntKind.u8.wrap ((w : Nat) : Int) = (w : Nat) := wrap_u8_lt (by omega)
    have h1 : (leb v).length + 1 ≤ room := by omega
    refine AW.go ?_ (by simp only [go_sem, ↓reduceIte, List.nil_append, eu, bytes_one, h1] <;> rfl)
    refine AW.callE (fun _ => 19) (wrBytes_fn (bitsF xs v w) (by omega)) (.ptr rfl .nil) ?_
    have hpl := pk_len (bitsF xs v w)
    have h3 : (leb v ++ [w]).length + (pk (bitsF xs v w)).length ≤ room := by rw [List.length_append, hpl, hbl]; simp; omega
    have hap : leb v ++ [w] ++ pk (bitsF xs v w) = leb v ++ (w :: pk (bitsF xs v w)) := by simp
    refine AW.go ?_ (by simp only [go_sem, ↓reduceIte, h3, hap] <;> rfl)
    refine AW.finE (.move rfl (.pv _ .nil)) rfl

theorem unpack_fn (l : List Nat) (n : Nat) (hn : n ≤ 65536) (hl : l.length ≤ 2 ^ 40) (hb : ∀ x ∈ l, x < 256) : Fn Try.prog 76 [] [.pv (.sl 1 (bytes l)), .pv (.int .i64 n)]
    (fun rs H' => rs = [.own 42 (u64s (unF l n).1), .pv (.int .i64 (unF l n).2)] ∧ H' = []) := by
  refine Fn.of_body (fn := Try.f76) (n := 106) (res := [.tmp 4, .tmp 5]) (by kernel_rfl) rfl rfl rfl rfl rfl (fun C => ?_)
  have hr : room = 140737488355328 := rfl
  have hle := readV_le l
  have hlt := readV_lt hb
  refine AW.gg ?_
  refine AW.condF (by simp only [go_sem, ↓reduceIte]; congr 3; simp; omega) ?_
  refine AW.go ?_
  refine AW.callE (fun o => if o = 7 then 25 else 0) (curNew_fn l (by omega)) (.pv _ .nil) ?_
  refine AW.go ?_
  refine AW.callE (fun _ => 25) (curVarint_fn l (by omega) hb) (.ptr rfl .nil) ?_
  refine AW.go ?_
  unfold unF
  have hbr : ∀ x ∈ l.drop (readV l).2.1, x < 256 := fun x hx => hb x (List.mem_of_mem_drop hx)
  have hlr : (l.drop (readV l).2.1).length ≤ 2 ^ 40 := by simp; omega
  generalize l.drop (readV l).2.1 = r at *
  generalize (readV l).1 = v at *
  generalize (readV l).2.2 = e at *
  generalize (readV l).2.1 = k at *
  refine AW.cond rfl (fun hc => ?_) (fun hc => ?_)
  · have he : e ≠ 0 := by simpa using hc
    simp only [if_pos he]
    refine AW.go ?_
    refine AW.finE (.move rfl (.pv _ .nil)) rfl
  have he : ¬ e ≠ 0 := by simpa using hc
  simp only [if_neg he]
  refine AW.go ?_
  refine AW.callE (fun _ => 25) (curByte_fn r (by omega)) (.ptr rfl .nil) ?_
  refine AW.go ?_
  cases r with
  | nil =>
    refine AW.condT rfl ?_
    refine AW.go ?_
    refine AW.finE (.move rfl (.pv _ .nil)) rfl
  | cons w q =>
    simp only [List.length_cons] at hlr
    have hbq : ∀ x ∈ q, x < 256 := fun x hx => hbr x (by simp [hx])
    have hw8 := hbr w (by simp)
    refine AW.condF rfl ?_
    refine AW.go ?_
    simp only [List.headD_cons, List.tail_cons, unF1]
    refine AW.cond rfl (fun hc2 => ?_) (fun hc2 => ?_)
    · have hw : 64 < w := by simp at hc2; omega
      simp only [if_pos hw]
      refine AW.go ?_
      refine AW.finE (.move rfl (.pv _ .nil)) rfl
    have hw : ¬ 64 < w := by simp at hc2; omega
    simp only [if_neg hw]
    have hnw : n * w ≤ 65536 * 64 := Nat.mul_le_mul hn (by omega)
    have em : IntKind.i64.wrap (((n * w : Nat) : Int)) = ((n * w : Nat) : Int) := wrap_i64_nat (by omega)
    have ew : IntKind.i64.wrap ((w : Nat) : Int) = (w : Nat) := wrap_i64_nat (by omega)
    have e8 : IntKind.i64.wrap (8 * ((q.length : Nat) : Int)) = ((8 * q.length : Nat) : Int) := wrap_i64_nat (n := 8 * q.length) (by omega)
    refine AW.go ?_ (by simp only [go_sem, ↓reduceIte, ew, em] <;> rfl)
    refine AW.callE (fun _ => 25) (curLeft_fn q) (.ptr rfl .nil) ?_
    refine AW.go ?_ (by simp only [go_sem, ↓reduceIte, e8] <;> rfl)
    refine AW.cond rfl (fun hc3 => ?_) (fun hc3 => ?_)
    · have h2 : 8 * q.length < n * w := by simp at hc3; omega
      simp only [if_pos h2]
      refine AW.go ?_
      refine AW.finE (.move rfl (.pv _ .nil)) rfl
    have h2 : ¬ 8 * q.length < n * w := by simp at hc3; omega
    simp only [if_neg h2]
    refine AW.go ?_
    refine AW.callE (fun _ => 25) (curLeft_fn q) (.ptr rfl .nil) ?_
    refine AW.go ?_
    refine AW.callE (fun _ => 25) (curBytes_fn q q.length (by omega)) (.ptr rfl (.pv _ .nil)) ?_
    simp only [if_pos (Nat.le_refl _), List.take_length, List.drop_length]
    refine AW.freeze (p := .part 59 0) (by simp only [go_sem, ↓reduceIte, freeze, freezeO] <;> rfl) ?_
    refine AW.go ?_
    refine AW.callE (fun o => if o = 6 then 63 else 0) (rdNew_fn q (by omega)) (.pv _ .nil) ?_
    have r1 : 8 * n ≤ room := by omega
    have r2 : n ≤ room := by omega
    refine AW.go ?_ (by simp only [go_sem, ↓reduceIte, r1, r2] <;> rfl)
    unfold unF2
    refine AW.loopS (fun j : Nat => ⟨106, [(67, .pv (.int .i64 j)), (66, .pv (.int .i64 n)), (13, .own 42 (u64s (valsF q w j v))), (12, .ptr 63 0), (9, .pv (.int .u8 w)), (7, .pv (.int .u64 v))], [(63, .cells 112 [.pv (.sl 1 (bytes q)), .pv (.int .i64 (j * w : Nat))])]⟩) (fun j => j ≤ n ∧ okF q w j v = true) (fun j => n - j) [67, 66, 13, 12, 9, 7] [63] 0 ⟨Nat.zero_le _, rfl⟩ ?_ (by simp only [go_sem, ↓reduceIte]) (by simp only [go_sem, ↓reduceIte, Nat.zero_mul] <;> rfl)
    clear hc2 hc3
    rintro j ⟨hj, hok⟩ K hK
    refine AW.go ?_
    refine AW.cond rfl (fun hc => ?_) (fun hc => ?_)
    · have hlt : j < n := by simpa using hc
      have hm : (j + 1) * w ≤ n * w := Nat.mul_le_mul_right _ hlt
      rw [Nat.succ_mul] at hm
      have hgl : j * w + w ≤ 8 * q.length := by omega
      refine AW.go ?_ (by simp only [go_sem, ↓reduceIte, ew] <;> rfl)
      refine AW.callE (fun _ => 63) (rdGet_fn q (j * w) w (by omega) (by omega) (by omega) hbq) (.ptr rfl (.pv _ .nil)) ?_
      simp only [if_pos hgl]
      have hix : getB (unb q) (j * w) w = valF q w j := rfl
      have hvl : valF q w j < 2 ^ 64 := by
        have h1 := binN_lt (((unb q).drop (j * w)).take w) (fun x hx => unb_bit q x (List.mem_of_mem_drop (List.mem_of_mem_take hx)))
        have h2 : 2 ^ (((unb q).drop (j * w)).take w).length ≤ 2 ^ 64 := Nat.pow_le_pow_right (by omega) (by simp; omega)
        exact Nat.lt_of_lt_of_le h1 h2
      have hvs := valsF_succ q w j v
      have hos := okF_succ q w j v
      have hof : ¬ valF q w j + v < 2 ^ 64 → okF q w n v = false := okF_false hlt
      rw [hix, show j * w + w = (j + 1) * w by rw [Nat.succ_mul]]
      generalize valF q w j = y at *
      by_cases hov : y + v < 2 ^ 64
      · have es : IntKind.u64.wrap ((y : Int) + (v : Int)) = ((y + v : Nat) : Int) := wrap_u64_lt (n := y + v) hov
        have d : decide (y + v < v) = false := decide_eq_false (by omega)
        have h1 : (j + 1) * 8 ≤ room := by omega
        have h2 : j + 1 ≤ room := by omega
        have ei : IntKind.i64.wrap ((j : Int) + 1) = ((j + 1 : Nat) : Int) := wrap_i64_succ (by omega)
        refine AW.go ?_ (by simp only [go_sem, ↓reduceIte, es, d] <;> rfl)
        refine AW.condF rfl ?_
        refine AW.go ?_ (by simp only [go_sem, ↓reduceIte, es, valsF_len, u64s_one, h1, h2, ei, ← hvs] <;> rfl)
        refine AW.again hK (j + 1) ⟨hlt, by rw [hos, hok, decide_eq_true hov]; rfl⟩ (by omega)
      · have es : IntKind.u64.wrap ((y : Int) + (v : Int)) = ((y + v - 2 ^ 64 : Nat) : Int) := by
          have := wrap_u64 (y + v)
          rw [show (y + v) % 2 ^ 64 = y + v - 2 ^ 64 by omega] at this
          exact this
        have d : decide (y + v - 2 ^ 64 < v) = true := decide_eq_true (by omega)
        rw [if_pos (hof hov)]
        generalize y + v - 2 ^ 64 = z at *
        refine AW.go ?_ (by simp only [go_sem, ↓reduceIte, es, d] <;> rfl)
        refine AW.condT rfl ?_
        refine AW.go ?_
        refine AW.finE (.move rfl (.pv _ .nil)) rfl
    have hge : j = n := by simp at hc; omega
    subst hge
    rw [if_neg (by rw [hok]; exact Bool.noConfusion)]
    have hvl := valsF_len q w j v
    refine AW.go ?_
    refine AW.callE (fun _ => 63) (rdEnd_fn q (j * w) (by omega) (by omega) hbq) (.ptr rfl .nil) ?_
    unfold endE
    by_cases hend : endF q (j * w) = true
    · rw [if_pos hend, if_neg (by rw [hend]; exact Bool.noConfusion)]
      refine AW.go ?_
      refine AW.condF rfl ?_
      refine AW.go ?_
      refine AW.callE (fun _ => 0) (frame_fn (valsF q w j v) (by omega) (okF_lt hok)) (.lend rfl co_42 .nil) ?_
      generalize wF (valsF q w j v) = w2 at *
      generalize lo (valsF q w j v) = v2 at *
      by_cases h1 : v2 = v
      · have b1 : ((v2 : Int) != (v : Int)) = false := by simp; omega
        by_cases h3 : w2 = w
        · have b2 : ((w2 : Int) != (w : Int)) = false := by simp; omega
          rw [if_pos ⟨h1, h3⟩]
          refine AW.gg ?_ (by simp only [go_sem, ↓reduceIte, b1, b2, ew] <;> rfl)
          refine AW.condF rfl ?_
          refine AW.go ?_
          refine AW.finE (.move rfl (.pv _ .nil)) rfl
        · have b2 : ((w2 : Int) != (w : Int)) = true := by simp; omega
          rw [if_neg (fun h => h3 h.2)]
          refine AW.gg ?_ (by simp only [go_sem, ↓reduceIte, b1, b2, ew] <;> rfl)
          refine AW.condT rfl ?_
          refine AW.go ?_
          refine AW.finE (.move rfl (.pv _ .nil)) rfl
      · have b1 : ((v2 : Int) != (v : Int)) = true := by simp; omega
        rw [if_neg (fun h => h1 h.1)]
        refine AW.gg ?_ (by simp only [go_sem, ↓reduceIte, b1] <;> rfl)
        refine AW.condT rfl ?_
        refine AW.go ?_
        refine AW.finE (.move rfl (.pv _ .nil)) rfl
    · rw [if_neg hend, if_pos (by simpa using hend)]
      refine AW.go ?_
      refine AW.condT rfl ?_
      refine AW.go ?_
      refine AW.finE (.move rfl (.pv _ .nil)) rfl
end Go.Ck

set_option linter.unusedVariables false
set_option maxRecDepth 10000
set_option maxHeartbeats 1000000
namespace Go.Ck
open Go.Proofs

theorem refPack_fn (xs : List Nat) (hl : xs.length ≤ 65536) (hx : ∀ x ∈ xs, x < 2 ^ 64) : Fn Try.prog 48 [] [.pv (.sl 1 (u64s xs))]
    (fun rs H' => rs = [.own 5 (bytes (packF xs)), .pv (.int .i64 0)] ∧ H' = []) := by
  refine Fn.of_body (fn := Try.f48) (n := 87) (res := [.tmp 2, .tmp 3]) (by kernel_rfl) rfl rfl rfl rfl rfl (fun C => ?_)
  have hr : room = 140737488355328 := rfl
  have hgt : decide (65536 < xs.length) = false := decide_eq_false (by omega)
  have hgi : decide ((xs.length : Int) > 65536) = false := decide_eq_false (by omega)
  refine AW.go ?_ (by simp only [go_sem, ↓reduceIte, hgt, hgi] <;> rfl)
  refine AW.condF rfl ?_
  refine AW.go ?_
  refine AW.loopS (fun i : Nat => ⟨87, [(6, .pv (.int .i64 i)), (4, .pv (.int .u64 (lo (xs.take i) : Nat))), (5, .pv (.int .u64 (hi (xs.take i) : Nat))), (0, .pv (.sl 1 (u64s xs)))], []⟩) (fun i => i ≤ xs.length) (fun i => xs.length - i) [6, 4, 5, 0] [] 0 (Nat.zero_le _) ?_
  rintro i hiu K hK
  refine AW.go ?_
  refine AW.cond rfl (fun hc => ?_) (fun hc => ?_)
  · have hlt : i < xs.length := by simpa using hc
    have hget := u64s_get hlt
    have hto := lo_take (l := xs) (i := i) hlt
    have hti := hi_take (l := xs) (i := i) hlt
    have h1 := lo_take1 (l := xs) (by omega)
    have ei : IntKind.i64.wrap ((i : Int) + 1) = ((i + 1 : Nat) : Int) := wrap_i64_succ (by omega)
    by_cases h0 : i = 0
    · subst h0
      have e0 : (((0 : Nat) : Int) == 0) = true := rfl
      refine AW.gg ?_ (by simp only [go_sem, ↓reduceIte, e0] <;> rfl)
      refine AW.condT rfl ?_
      refine AW.gg ?_ (by simp only [go_sem, ↓reduceIte, hget, e0] <;> rfl)
      refine AW.condT rfl ?_
      refine AW.go ?_ (by simp only [go_sem, ↓reduceIte, hget, ei] <;> rfl)
      refine AW.again hK 1 hlt (by omega) (by simp only [go_sem, ↓reduceIte]) (by simp only [go_sem, ↓reduceIte, h1.1, h1.2] <;> rfl)
    · have e0 : ((i : Int) == 0) = false := by simp; omega
      have hto := hto h0
      have hti := hti h0
      generalize xs[i] = x at *
      generalize lo (xs.take i) = a at *
      generalize hi (xs.take i) = b at *
      by_cases hxa : x < a
      · have d1 : decide (x < a) = true := decide_eq_true hxa
        have hto : lo (xs.take (i + 1)) = x := by omega
        refine AW.gg ?_ (by simp only [go_sem, ↓reduceIte, e0, hget, d1] <;> rfl)
        refine AW.condT rfl ?_
        by_cases hxb : b < x
        · have d2 : decide (b < x) = true := decide_eq_true hxb
          have d2i : decide ((x : Int) > (b : Int)) = true := decide_eq_true (by omega)
          have hti : hi (xs.take (i + 1)) = x := by omega
          refine AW.gg ?_ (by simp only [go_sem, ↓reduceIte, hget, e0, d2, d2i] <;> rfl)
          refine AW.condT rfl ?_
          refine AW.go ?_ (by simp only [go_sem, ↓reduceIte, hget, ei] <;> rfl)
          refine AW.again hK (i + 1) hlt (by omega) (by simp only [go_sem, ↓reduceIte]) (by simp only [go_sem, ↓reduceIte, hto, hti] <;> rfl)
        · have d2 : decide (b < x) = false := decide_eq_false hxb
          have d2i : decide ((x : Int) > (b : Int)) = false := decide_eq_false (by omega)
          have hti : hi (xs.take (i + 1)) = b := by omega
          refine AW.gg ?_ (by simp only [go_sem, ↓reduceIte, hget, e0, d2, d2i] <;> rfl)
          refine AW.condF rfl ?_
          refine AW.go ?_ (by simp only [go_sem, ↓reduceIte, hget, ei] <;> rfl)
          refine AW.again hK (i + 1) hlt (by omega) (by simp only [go_sem, ↓reduceIte]) (by simp only [go_sem, ↓reduceIte, hto, hti] <;> rfl)
      · have d1 : decide (x < a) = false := decide_eq_false hxa
        have hto : lo (xs.take (i + 1)) = a := by omega
        refine AW.gg ?_ (by simp only [go_sem, ↓reduceIte, e0, hget, d1] <;> rfl)
        refine AW.condF rfl ?_
        by_cases hxb : b < x
        · have d2 : decide (b < x) = true := decide_eq_true hxb
          have d2i : decide ((x : Int) > (b : Int)) = true := decide_eq_true (by omega)
          have hti : hi (xs.take (i + 1)) = x := by omega
          refine AW.gg ?_ (by simp only [go_sem, ↓reduceIte, hget, e0, d2, d2i] <;> rfl)
          refine AW.condT rfl ?_
          refine AW.go ?_ (by simp only [go_sem, ↓reduceIte, hget, ei] <;> rfl)
          refine AW.again hK (i + 1) hlt (by omega) (by simp only [go_sem, ↓reduceIte]) (by simp only [go_sem, ↓reduceIte, hto, hti] <;> rfl)
        · have d2 : decide (b < x) = false := decide_eq_false hxb
          have d2i : decide ((x : Int) > (b : Int)) = false := decide_eq_false (by omega)
          have hti : hi (xs.take (i + 1)) = b := by omega
          refine AW.gg ?_ (by simp only [go_sem, ↓reduceIte, hget, e0, d2, d2i] <;> rfl)
          refine AW.condF rfl ?_
          refine AW.go ?_ (by simp only [go_sem, ↓reduceIte, hget, ei] <;> rfl)
          refine AW.again hK (i + 1) hlt (by omega) (by simp only [go_sem, ↓reduceIte]) (by simp only [go_sem, ↓reduceIte, hto, hti] <;> rfl)
  have hge : ¬ i < xs.length := by simpa using hc
  rw [List.take_of_length_le (by omega)]
  clear hK hc
  have hwd : wF xs = blen (hi xs - lo xs) := rfl
  have hw := wF_le hx
  have hlo := lo_lt (by omega) hx
  have hhi := hi_lt (by omega) hx
  have hlh := lo_hi xs
  have hfit : ∀ x ∈ xs, x - lo xs < 2 ^ wF xs ∧ lo xs ≤ x := fun x h => ⟨wF_fit h, lo_le h⟩
  unfold packF
  generalize wF xs = w at *
  generalize lo xs = v at *
  generalize hi xs = b at *
  have es : IntKind.u64.wrap ((b : Int) - (v : Int)) = ((b - v : Nat) : Int) := by rw [show (b : Int) - (v : Int) = ((b - v : Nat) : Int) by omega]; exact wrap_u64_lt (by omega)
  refine AW.go ?_ (by simp only [go_sem, ↓reduceIte, es] <;> rfl)
  refine AW.callE (fun _ => 0) (refWidth_fn (b - v) (by omega)) (.pv _ .nil) ?_
  rw [← hwd]
  refine AW.go ?_
  refine AW.loopS (fun i : Nat => ⟨87, [(9, .pv (.int .i64 i)), (8, .own 3 (nis (bitsF (xs.take i) v w))), (7, .pv (.int .i64 w)), (4, .pv (.int .u64 v)), (0, .pv (.sl 1 (u64s xs)))], []⟩) (fun i => i ≤ xs.length) (fun i => xs.length - i) [9, 8, 7, 4, 0] [] 0 (Nat.zero_le _) ?_
  rintro i hiu K hK
  refine AW.go ?_
  refine AW.cond rfl (fun hc => ?_) (fun hc => ?_)
  · have hlt : i < xs.length := by simpa using hc
    have hget := u64s_get hlt
    have hti : xs.take (i + 1) = xs.take i ++ [xs[i]] := by simp
    have hxx := hx _ (List.getElem_mem hlt)
    obtain ⟨hf1, hf2⟩ := hfit _ (List.getElem_mem hlt)
    generalize xs[i] = x at *
    have hbl := bitsF_len (xs.take i) v w
    have hbs := bitsF_snoc (xs.take i) x v w
    rw [List.length_take] at hbl
    have hm : min i xs.length * w ≤ 65536 * 64 := Nat.mul_le_mul (by omega) hw
    rw [← hti] at hbs
    have ei : IntKind.i64.wrap ((i : Int) + 1) = ((i + 1 : Nat) : Int) := wrap_i64_succ (by omega)
    have ex : IntKind.u64.wrap ((x : Int) - (v : Int)) = ((x - v : Nat) : Int) := by rw [show (x : Int) - (v : Int) = ((x - v : Nat) : Int) by omega]; exact wrap_u64_lt (by omega)
    have ew1 : IntKind.i64.wrap ((w : Int) - 1) = (w : Int) - 1 := wrap_i64_of (by omega) (by omega)
    have hy : x - v < 2 ^ 64 := by omega
    generalize x - v = y at *
    generalize bitsF (xs.take i) v w = bs at *
    refine AW.go ?_ (by simp only [go_sem, ↓reduceIte, ew1] <;> rfl)
    refine AW.loopS (fun a : List Nat × Nat => ⟨87, [(10, .pv (.int .i64 ((a.2 : Int) - 1))), (9, .pv (.int .i64 i)), (8, .own 3 (nis a.1)), (7, .pv (.int .i64 w)), (4, .pv (.int .u64 v)), (0, .pv (.sl 1 (u64s xs)))], []⟩) (fun a => a.1 ++ binB y a.2 = bs ++ binB y w ∧ a.2 ≤ w) (fun a => a.2) [10, 9, 8, 7, 4, 0] [] (bs, w) ⟨rfl, Nat.le_refl _⟩ ?_
    rintro ⟨o, j⟩ ⟨ho, hj⟩ K' hK'
    simp only at ho hj
    have hol : o.length + j = bs.length + w := by have := congrArg List.length ho; simpa [binB_len] using this
    refine AW.go ?_
    refine AW.cond rfl (fun hc => ?_) (fun hc => ?_)
    · cases j with
      | zero => simp at hc
      | succ j =>
        have e0 : (((j + 1 : Nat) : Int) - 1) = (j : Nat) := by omega
        have e2 : IntKind.u64.wrap ((j : Nat) : Int) = (j : Nat) := wrap_u64_lt (by omega)
        have e4 : IntKind.i64.wrap ((j : Int) - 1) = (j : Int) - 1 := wrap_i64_of (by omega) (by omega)
        have e3 : IntKind.i64.wrap (ibits .and .u64 (shrI .u64 (y : Int) (j : Nat)) 1) = ((y / 2 ^ j % 2 : Nat) : Int) := by
          rw [shrI_nat .u64 y _ (by show j ≤ 64; omega), and_one (Nat.lt_of_le_of_lt (Nat.div_le_self _ _) hy), wrap_i64_nat (by omega)]
        have h1 : (o.length + 1) * 8 ≤ room := by omega
        have h2 : o.length + 1 ≤ room := by omega
        refine AW.go ?_ (by simp only [go_sem, ↓reduceIte, hget, ex, e0, e2, e3, e4, nis_one, h1, h2] <;> rfl)
        refine AW.again hK' (o ++ [y / 2 ^ j % 2], j) ⟨?_, by simp only; omega⟩ (by simp only; omega)
        rw [← ho, binB_succ]; simp
    · cases j with
      | zero =>
        simp only [binB, List.append_nil] at ho
        refine AW.go ?_ (by simp only [go_sem, ↓reduceIte, ei] <;> rfl)
        refine AW.again hK (i + 1) hlt (by omega) (by simp only [go_sem, ↓reduceIte]) (by simp only [go_sem, ↓reduceIte, ho, hbs] <;> rfl)
      | succ j => exact absurd hc (by simp)
  · have hge : ¬ i < xs.length := by simpa using hc
    rw [List.take_of_length_le (by omega)]
    have hbl := bitsF_len xs v w
    have hm : xs.length * w ≤ 65536 * 64 := Nat.mul_le_mul (by omega) hw
    have h10 := leb_len10 hlo
    refine AW.go ?_
    refine AW.callE (fun _ => 0) (refAppend_fn [] v hlo (by simp; omega)) (.nilsP 1 (.pv _ .nil)) ?_
    have eu : IntKind.u8.wrap ((w : Nat) : Int) = (w : Nat) := wrap_u8_lt (by omega)
    have h1 : (leb v).length + 1 ≤ room := by omega
    refine AW.go ?_ (by simp only [go_sem, ↓reduceIte, List.nil_append, eu, bytes_one, h1] <;> rfl)
    refine AW.callE (fun _ => 0) (refBits_fn (bitsF xs v w) (by omega) (bitsF_bit _ _ _)) (.lend rfl co_3 .nil) ?_
    have hpl := pk_len (bitsF xs v w)
    have h3 : (leb v ++ [w]).length + (pk (bitsF xs v w)).length ≤ room := by rw [List.length_append, hpl, hbl]; simp; omega
    have hap : leb v ++ [w] ++ pk (bitsF xs v w) = leb v ++ (w :: pk (bitsF xs v w)) := by simp
    refine AW.go ?_ (by simp only [go_sem, ↓reduceIte, h3, hap] <;> rfl)
    refine AW.finE (.move rfl (.pv _ .nil)) rfl

def flagF (q : List Nat) (w j v : Nat) : Bool := !okF q w j v
def outF (q : List Nat) (w n v : Nat) : List Nat := (List.range n).map fun i => (valF q w i + v) % 2 ^ 64
theorem outF_len (q : List Nat) (w n v : Nat) : (outF q w n v).length = n := by simp [outF]
theorem outF_succ (q : List Nat) (w n v : Nat) : outF q w (n + 1) v = outF q w n v ++ [(valF q w n + v) % 2 ^ 64] := by simp [outF, List.range_succ]
theorem outF_ok {q : List Nat} {w n v : Nat} (h : okF q w n v = true) : outF q w n v = valsF q w n v := by
  unfold outF valsF
  refine List.map_congr_left (fun i hi => ?_)
  rw [okF, List.all_eq_true] at h
  have := h i hi
  exact Nat.mod_eq_of_lt (by simpa using this)

theorem refUnpack_fn (l : List Nat) (n : Nat) (hn : n ≤ 65536) (hl : l.length ≤ 2 ^ 40) (hb : ∀ x ∈ l, x < 256) : Fn Try.prog 59 [] [.pv (.sl 1 (bytes l)), .pv (.int .i64 n)]
    (fun rs H' => rs = [.own 42 (u64s (unF l n).1), .pv (.int .i64 (unF l n).2)] ∧ H' = []) := by
  refine Fn.of_body (fn := Try.f59) (n := 102) (res := [.tmp 4, .tmp 5]) (by kernel_rfl) rfl rfl rfl rfl rfl (fun C => ?_)
  have hr : room = 140737488355328 := rfl
  have hle := readV_le l
  have hlt := readV_lt hb
  have hcan := readV_canon hb
  refine AW.gg ?_
  refine AW.condF (by simp only [go_sem, ↓reduceIte]; congr 3; simp; omega) ?_
  refine AW.go ?_
  refine AW.callE (fun _ => 0) (refRead_fn l (by omega) hb) (.pv _ .nil) ?_
  refine AW.go ?_
  unfold unF
  have hbr : ∀ x ∈ l.drop (readV l).2.1, x < 256 := fun x hx => hb x (List.mem_of_mem_drop hx)
  have hlr : (l.drop (readV l).2.1).length = l.length - (readV l).2.1 := by simp
  generalize hrd : l.drop (readV l).2.1 = r at *
  generalize (readV l).1 = v at *
  generalize (readV l).2.2 = e at *
  generalize (readV l).2.1 = k at *
  refine AW.cond rfl (fun hc => ?_) (fun hc => ?_)
  · have he : e ≠ 0 := by simpa using hc
    simp only [if_pos he]
    refine AW.go ?_
    refine AW.finE (.move rfl (.pv _ .nil)) rfl
  have he : ¬ e ≠ 0 := by simpa using hc
  simp only [if_neg he]
  have hcan := hcan (by simpa using he)
  cases r with
  | nil =>
    have hkl : ((k : Int) == (l.length : Int)) = true := by simp at hlr ⊢; omega
    refine AW.go ?_ (by simp only [go_sem, ↓reduceIte, hkl] <;> rfl)
    refine AW.condT rfl ?_
    refine AW.go ?_
    refine AW.finE (.move rfl (.pv _ .nil)) rfl
  | cons w q =>
    simp only [List.length_cons] at hlr
    have hbq : ∀ x ∈ q, x < 256 := fun x hx => hbr x (by simp [hx])
    have hw8 := hbr w (by simp)
    have hkl : ((k : Int) == (l.length : Int)) = false := by simp; omega
    have hk : k < l.length := by omega
    have hget : (bytes l)[k]? = some (.int .u8 w) := by
      have h1 : l[k]? = some w := by
        have := congrArg (·[0]?) hrd
        simpa using this
      rw [bytes, List.getElem?_map, h1]; rfl
    have hk1 : k + 1 ≤ l.length := hk
    have hdq : l.drop (k + 1) = q := by rw [← List.drop_drop, hrd]; rfl
    have ew : IntKind.i64.wrap ((w : Nat) : Int) = (w : Nat) := wrap_i64_nat (by omega)
    have ek1 : IntKind.i64.wrap ((k : Int) + 1) = ((k + 1 : Nat) : Int) := wrap_i64_succ (by omega)
    refine AW.go ?_ (by simp only [go_sem, ↓reduceIte, hkl] <;> rfl)
    refine AW.condF rfl ?_
    refine AW.go ?_ (by simp only [go_sem, ↓reduceIte, hget, hk, ew] <;> rfl)
    simp only [unF1]
    refine AW.cond rfl (fun hc2 => ?_) (fun hc2 => ?_)
    · have hw : 64 < w := by simp at hc2; omega
      simp only [if_pos hw]
      refine AW.go ?_
      refine AW.finE (.move rfl (.pv _ .nil)) rfl
    have hw : ¬ 64 < w := by simp at hc2; omega
    simp only [if_neg hw]
    have hnw : n * w ≤ 65536 * 64 := Nat.mul_le_mul hn (by omega)
    have em : IntKind.i64.wrap (((n * w : Nat) : Int)) = ((n * w : Nat) : Int) := wrap_i64_nat (by omega)
    have e8 : IntKind.i64.wrap (8 * IntKind.i64.wrap (IntKind.i64.wrap ((l.length : Int) - (k : Int)) - 1)) = ((8 * q.length : Nat) : Int) := by
      rw [wrap_i64_of (n := (l.length : Int) - (k : Int)) (by omega) (by omega), wrap_i64_of (n := (l.length : Int) - (k : Int) - 1) (by omega) (by omega), wrap_i64_of (by omega) (by omega)]
      omega
    refine AW.go ?_ (by simp only [go_sem, ↓reduceIte, em, e8] <;> rfl)
    refine AW.cond rfl (fun hc3 => ?_) (fun hc3 => ?_)
    · have h2 : 8 * q.length < n * w := by simp at hc3; omega
      simp only [if_pos h2]
      refine AW.go ?_
      refine AW.finE (.move rfl (.pv _ .nil)) rfl
    have h2 : ¬ 8 * q.length < n * w := by simp at hc3; omega
    simp only [if_neg h2]
    have e : (((l.length : Int) - ((k + 1 : Nat) : Int)).toNat) = l.length - (k + 1) := by omega
    have e2 : (bytes (l.drop (k + 1))).take (l.length - (k + 1)) = bytes q := by rw [hdq]; exact List.take_of_length_le (by simp [bytes]; omega)
    refine AW.go ?_ (by simp only [go_sem, ↓reduceIte, ek1, hk1, e]; rw [← bytes_take, e2] <;> rfl)
    refine AW.callE (fun _ => 0) (refOf_fn q (by omega) hbq) (.pv _ .nil) ?_
    refine AW.freeze (p := .slot 59) (by simp only [go_sem, ↓reduceIte, freeze, freezeO] <;> rfl) ?_
    refine AW.go ?_
    unfold unF2
    refine AW.loopS (fun j : Nat => ⟨102, [(13, .pv (.int .i64 j)), (1, .pv (.int .i64 n)), (12, .pv (.bool (!okF q w j v))), (11, .own 42 (u64s (outF q w j v))), (10, .pv (.sl 1 (nis ((unb q).drop (j * w))))), (9, .pv (.int .i64 w)), (6, .pv (.int .u64 v)), (0, .pv (.sl 1 (bytes l)))], []⟩) (fun j => j ≤ n) (fun j => n - j) [13, 1, 12, 11, 10, 9, 6, 0] [] 0 (Nat.zero_le _) ?_ (by simp only [go_sem, ↓reduceIte]) (by simp only [go_sem, ↓reduceIte, Nat.zero_mul, List.drop_zero] <;> rfl)
    clear hc2 hc3
    rintro j hj K hK
    have hol := outF_len q w j v
    refine AW.go ?_
    refine AW.cond rfl (fun hc => ?_) (fun hc => ?_)
    · have hlt2 : j < n := by simpa using hc
      have hm : (j + 1) * w ≤ n * w := Nat.mul_le_mul_right _ hlt2
      rw [Nat.succ_mul] at hm
      have hul := unb_len q
      have hgl : w ≤ ((unb q).drop (j * w)).length := by rw [List.length_drop]; omega
      refine AW.go ?_
      refine AW.callE (fun _ => 0) (refGet_fn ((unb q).drop (j * w)) w (by omega) (fun x hx => unb_bit q x (List.mem_of_mem_drop hx))) (.pv _ (.pv _ .nil)) ?_
      simp only [if_pos hgl]
      have hix : binN (((unb q).drop (j * w)).take w) = valF q w j := rfl
      have hdd : ((unb q).drop (j * w)).drop w = (unb q).drop ((j + 1) * w) := by rw [List.drop_drop, Nat.succ_mul]
      have hvl : valF q w j < 2 ^ 64 := by
        have h1 := binN_lt (((unb q).drop (j * w)).take w) (fun x hx => unb_bit q x (List.mem_of_mem_drop (List.mem_of_mem_take hx)))
        have h2 : 2 ^ (((unb q).drop (j * w)).take w).length ≤ 2 ^ 64 := Nat.pow_le_pow_right (by omega) (by simp; omega)
        exact Nat.lt_of_lt_of_le h1 h2
      have hvs := outF_succ q w j v
      have hos := okF_succ q w j v
      rw [hix, hdd]
      generalize valF q w j = y at *
      have es : IntKind.u64.wrap ((y : Int) + (v : Int)) = (((y + v) % 2 ^ 64 : Nat) : Int) := wrap_u64 (y + v)
      have ec : IntKind.u64.wrap (18446744073709551615 - (v : Int)) = ((2 ^ 64 - 1 - v : Nat) : Int) := by
        rw [show (18446744073709551615 - (v : Int)) = ((2 ^ 64 - 1 - v : Nat) : Int) by omega]; exact wrap_u64_lt (by omega)
      have hd : decide (2 ^ 64 - 1 - v < y) = !decide (y + v < 2 ^ 64) := by
        by_cases h : y + v < 2 ^ 64
        · rw [decide_eq_true h, decide_eq_false (by omega)]; rfl
        · rw [decide_eq_false h, decide_eq_true (by omega)]; rfl
      have h1 : (j + 1) * 8 ≤ room := by omega
      have h2 : j + 1 ≤ room := by omega
      have ei : IntKind.i64.wrap ((j : Int) + 1) = ((j + 1 : Nat) : Int) := wrap_i64_succ (by omega)
      generalize hcv : 2 ^ 64 - 1 - v = cv at *
      generalize hz : (y + v) % 2 ^ 64 = z at *
      generalize decide (y + v < 2 ^ 64) = bb at *
      cases hok : okF q w j v with
      | true =>
        rw [hok, Bool.true_and] at hos
        refine AW.gg ?_ (by simp only [go_sem, ↓reduceIte, hok, Bool.not_true, Bool.not_false, ec, hd, es, hol, u64s_one, h1, h2, ei, ← hvs] <;> rfl)
        refine AW.again hK (j + 1) hlt2 (by omega) (by simp only [go_sem, ↓reduceIte]) (by simp only [go_sem, ↓reduceIte, hos] <;> rfl)
      | false =>
        rw [hok, Bool.false_and] at hos
        refine AW.gg ?_ (by simp only [go_sem, ↓reduceIte, hok, Bool.not_true, Bool.not_false, ec, hd, es, hol, u64s_one, h1, h2, ei, ← hvs] <;> rfl)
        refine AW.again hK (j + 1) hlt2 (by omega) (by simp only [go_sem, ↓reduceIte]) (by simp only [go_sem, ↓reduceIte, hos] <;> rfl)
    have hge : j = n := by simp at hc; omega
    subst hge
    have hul := unb_len q
    refine AW.go ?_
    refine AW.callE (fun _ => 0) (refEnd_fn ((unb q).drop (j * w)) (by rw [List.length_drop]; omega)) (.pv _ .nil) ?_
    have hend : endF q (j * w) = decide (((unb q).drop (j * w)).length < 8 ∧ ∀ x ∈ (unb q).drop (j * w), x = 0) := by
      rw [endF, List.length_drop, hul, ← Bool.decide_and]
    by_cases hE : ((unb q).drop (j * w)).length < 8 ∧ ∀ x ∈ (unb q).drop (j * w), x = 0
    · rw [decide_eq_true hE] at hend
      rw [if_pos hE]
      cases hok : okF q w j v with
      | false =>
        rw [if_pos rfl]
        refine AW.gg ?_ (by simp only [go_sem, ↓reduceIte, hok, Bool.not_true, Bool.not_false] <;> rfl)
        refine AW.condT rfl ?_
        refine AW.go ?_
        refine AW.finE (.move rfl (.pv _ .nil)) rfl
      | true =>
        rw [if_neg (by simp), hend, if_neg (by simp)]
        refine AW.gg ?_ (by simp only [go_sem, ↓reduceIte, hok, Bool.not_true, Bool.not_false] <;> rfl)
        refine AW.condF rfl ?_
        rw [outF_ok hok]
        have hvl := valsF_len q w j v
        have hpb := pack_back (w := w) (n := j) hb hlt hcan (by omega) hend hok
        have hpy : (packF (valsF q w j v)).length ≤ room := by
          have h10 := leb_len10 (lo_lt (by omega) (okF_lt hok))
          have hw2 := wF_le (okF_lt hok)
          have hm : (valsF q w j v).length * wF (valsF q w j v) ≤ 65536 * 64 := Nat.mul_le_mul (by omega) hw2
          unfold packF
          rw [List.length_append, List.length_cons, pk_len, bitsF_len]
          omega
        refine AW.go ?_
        refine AW.callE (fun _ => 0) (refPack_fn (valsF q w j v) (by omega) (okF_lt hok)) (.lend rfl co_42 .nil) ?_
        refine AW.go ?_
        refine AW.callE (fun _ => 0) (ref01Same_fn (packF (valsF q w j v)) l hpy) (.lend rfl co_5 (.pv _ .nil)) ?_
        refine AW.go ?_
        by_cases hq : packF (valsF q w j v) = l
        · rw [decide_eq_true hq, if_pos (hpb.1 hq)]
          refine AW.condF rfl ?_
          refine AW.go ?_
          refine AW.finE (.move rfl (.pv _ .nil)) rfl
        · rw [decide_eq_false hq, if_neg (fun h => hq (hpb.2 h))]
          refine AW.condT rfl ?_
          refine AW.go ?_
          refine AW.finE (.move rfl (.pv _ .nil)) rfl
    · rw [decide_eq_false hE] at hend
      rw [if_neg hE]
      have hfin : (if okF q w j v = false then (([] : List Nat), (3 : Int)) else if endF q (j * w) = false then ([], 3) else if lo (valsF q w j v) = v ∧ wF (valsF q w j v) = w then (valsF q w j v, 0) else ([], 3)) = ([], 3) := by
        rw [hend, if_pos rfl, ite_self]
      rw [hfin]
      refine AW.gg ?_
      refine AW.condT rfl ?_
      refine AW.go ?_
      refine AW.finE (.move rfl (.pv _ .nil)) rfl
end Go.Ck

set_option linter.unusedVariables false
/-! Words of sixty bits. -/
namespace Go.Ck
def cntL : List Nat := [240, 120, 60, 30, 20, 15, 12, 10, 8, 7, 6, 5, 4, 3, 2, 1]
def widL : List Nat := [0, 0, 1, 2, 3, 4, 5, 6, 7, 8, 10, 12, 15, 20, 30, 60]
def cn (s : Nat) : Nat := cntL.getD s 0
def wn (s : Nat) : Nat := widL.getD s 0
theorem cw (s : Nat) (h : s < 16) : 1 ≤ cn s ∧ cn s ≤ 240 ∧ wn s ≤ 60 ∧ cn s * wn s ≤ 60 := by
  have : ∀ i : Fin 16, 1 ≤ cn i.val ∧ cn i.val ≤ 240 ∧ wn i.val ≤ 60 ∧ cn i.val * wn i.val ≤ 60 := by decide
  exact this ⟨s, h⟩
def fitS (l : List Nat) (s : Nat) : Bool := decide (cn s ≤ l.length) && (l.take (cn s)).all fun x => decide (x < 2 ^ wn s)
def fstS (l : List Nat) : Nat := ((List.range 16).find? (fitS l)).getD 15
theorem find_range (p : Nat → Bool) : ∀ (n s : Nat), s < n → (∀ t, t < s → p t = false) → p s = true → (List.range n).find? p = some s := by
  intro n
  induction n with
  | zero => intro s h; omega
  | succ n ih =>
    intro s hs hn hp
    rw [List.range_succ, List.find?_append]
    by_cases h : s < n
    · rw [ih s h hn hp]; rfl
    · have e : s = n := by omega
      subst e
      have : (List.range s).find? p = none := by
        rw [List.find?_eq_none]
        intro x hx
        rw [hn x (by simpa using hx)]; simp
      rw [this]
      simp [hp]
theorem fstS_eq {l : List Nat} {s : Nat} (hs : s < 16) (hn : ∀ t, t < s → fitS l t = false) (hp : fitS l s = true) : fstS l = s := by
  unfold fstS
  rw [find_range (fitS l) 16 s hs hn hp]; rfl
theorem fitS_last {l : List Nat} (h : l ≠ []) (hx : ∀ x ∈ l, x < 2 ^ 60) : fitS l 15 = true := by
  cases l with
  | nil => exact absurd rfl h
  | cons a r =>
    have e1 : cn 15 = 1 := rfl
    have e2 : wn 15 = 60 := rfl
    unfold fitS
    rw [e1, e2]
    simp
    exact hx a (by simp)
theorem fstS_lt (l : List Nat) : fstS l < 16 := by
  unfold fstS
  cases h : (List.range 16).find? (fitS l) with
  | none => simp
  | some s =>
    have := List.mem_of_find?_eq_some h
    simpa using this
theorem fstS_fit {l : List Nat} (h : l ≠ []) (hx : ∀ x ∈ l, x < 2 ^ 60) : fitS l (fstS l) = true := by
  unfold fstS
  cases hf : (List.range 16).find? (fitS l) with
  | none =>
    rw [List.find?_eq_none] at hf
    exact absurd (fitS_last h hx) (hf 15 (by simp))
  | some s => exact List.find?_some hf
/-- Numbers of w bits, the first the greatest. -/
def hornB (w : Nat) (l : List Nat) : Nat := l.foldl (fun a x => a * 2 ^ w + x) 0
theorem hornB_snoc (w : Nat) (l : List Nat) (x : Nat) : hornB w (l ++ [x]) = hornB w l * 2 ^ w + x := by simp [hornB]
theorem hornB_lt {w : Nat} : ∀ {l : List Nat}, (∀ x ∈ l, x < 2 ^ w) → hornB w l < 2 ^ (l.length * w) := by
  intro l
  induction l using snoc_ind with
  | h0 => intro _; simp [hornB]
  | h1 l b ih =>
    intro h
    have h1 := ih (fun x hx => h x (by simp [hx]))
    have h2 := h b (by simp)
    rw [hornB_snoc, List.length_append, List.length_singleton, Nat.add_mul, Nat.one_mul, Nat.pow_add]
    have := Nat.mul_le_mul_right (2 ^ w) (show hornB w l + 1 ≤ 2 ^ (l.length * w) by omega)
    rw [Nat.add_mul, Nat.one_mul] at this
    omega
def wordS (l : List Nat) (s : Nat) : Nat := s * 2 ^ 60 + hornB (wn s) (l.take (cn s)) * 2 ^ (60 - cn s * wn s)
def encS (l : List Nat) : List Nat := if h : l = [] then [] else beB (wordS l (fstS l)) 8 ++ encS (l.drop (cn (fstS l)))
termination_by l.length
decreasing_by
  have := (cw (fstS l) (fstS_lt l)).1
  have : l.length ≠ 0 := fun e => h (List.length_eq_zero_iff.1 e)
  rw [List.length_drop]; omega
theorem encS_nil : encS [] = [] := by rw [encS]; simp
theorem encS_cons {l : List Nat} (h : l ≠ []) : encS l = beB (wordS l (fstS l)) 8 ++ encS (l.drop (cn (fstS l))) := by rw [encS, dif_neg h]
def big60 (l : List Nat) : Bool := l.any fun x => decide (2 ^ 60 ≤ x)
def encSW (l : List Nat) : List Nat × Int := if big60 l = true then ([], 1) else (encS l, 0)
theorem big60_false {l : List Nat} (h : ∀ x ∈ l, x < 2 ^ 60) : big60 l = false := by
  unfold big60
  rw [List.any_eq_false]
  intro x hx
  have := h x hx
  simp; omega
theorem encS_len (n : Nat) : ∀ (l : List Nat), l.length ≤ n → (encS l).length ≤ 8 * l.length := by
  induction n with
  | zero => intro l h; rw [List.length_eq_zero_iff.1 (Nat.le_zero.1 h), encS_nil]; simp
  | succ n ih =>
    intro l h
    by_cases h0 : l = []
    · subst h0; rw [encS_nil]; simp
    · have hc := (cw (fstS l) (fstS_lt l)).1
      have : l.length ≠ 0 := fun e => h0 (List.length_eq_zero_iff.1 e)
      rw [encS_cons h0, List.length_append, beB_len]
      have := ih (l.drop (cn (fstS l))) (by rw [List.length_drop]; omega)
      rw [List.length_drop] at this
      omega
theorem encS_byte (n : Nat) : ∀ (l : List Nat), l.length ≤ n → ∀ x ∈ encS l, x < 256 := by
  induction n with
  | zero => intro l h; rw [List.length_eq_zero_iff.1 (Nat.le_zero.1 h), encS_nil]; simp
  | succ n ih =>
    intro l h
    by_cases h0 : l = []
    · subst h0; rw [encS_nil]; simp
    · have hc := (cw (fstS l) (fstS_lt l)).1
      have : l.length ≠ 0 := fun e => h0 (List.length_eq_zero_iff.1 e)
      rw [encS_cons h0]
      intro x hx
      rcases List.mem_append.1 hx with hx | hx
      · exact beB_byte _ _ x hx
      · exact ih (l.drop (cn (fstS l))) (by rw [List.length_drop]; omega) x hx
theorem wordS_lt {l : List Nat} {s : Nat} (hs : s < 16) (h : fitS l s = true) : hornB (wn s) (l.take (cn s)) * 2 ^ (60 - cn s * wn s) < 2 ^ 60 ∧ wordS l s < 2 ^ 64 := by
  obtain ⟨c1, c2, c3, c4⟩ := cw s hs
  simp only [fitS, Bool.and_eq_true, decide_eq_true_eq, List.all_eq_true] at h
  have h1 := hornB_lt (w := wn s) (l := l.take (cn s)) (fun x hx => h.2 x hx)
  rw [List.length_take, Nat.min_eq_left h.1] at h1
  have h2 := Nat.mul_lt_mul_of_pos_right h1 (Nat.two_pow_pos (60 - cn s * wn s))
  rw [← Nat.pow_add, show cn s * wn s + (60 - cn s * wn s) = 60 by omega] at h2
  refine ⟨h2, ?_⟩
  unfold wordS
  have : s * 2 ^ 60 ≤ 15 * 2 ^ 60 := Nat.mul_le_mul_right _ (by omega)
  omega
/-- Read back. -/
def valsS (word : Nat) (m : Nat) : List Nat := (List.range m).map fun i => word / 2 ^ (60 - (i + 1) * wn (word / 2 ^ 60)) % 2 ^ wn (word / 2 ^ 60)
theorem valsS_len (word m : Nat) : (valsS word m).length = m := by simp [valsS]
theorem valsS_succ (word m : Nat) : valsS word (m + 1) = valsS word m ++ [word / 2 ^ (60 - (m + 1) * wn (word / 2 ^ 60)) % 2 ^ wn (word / 2 ^ 60)] := by simp [valsS, List.range_succ]
def unS (word : Nat) : List Nat := valsS word (cn (word / 2 ^ 60))
theorem unS_lt {word : Nat} (h : word < 2 ^ 64) : ∀ x ∈ unS word, x < 2 ^ 60 := by
  intro x hx
  simp only [unS, valsS, List.mem_map, List.mem_range] at hx
  obtain ⟨i, hi, rfl⟩ := hx
  have hc := (cw (word / 2 ^ 60) (by omega)).2.2.1
  exact Nat.lt_of_lt_of_le (Nat.mod_lt _ (Nat.two_pow_pos _)) (Nat.pow_le_pow_right (by omega) hc)
def rdS (n : Nat) (acc l : List Nat) : List Nat × List Nat × Int :=
  if acc.length < n then (if h : l.length < 8 then ([], [], 2) else rdS n (acc ++ unS (beN (l.take 8))) (l.drop 8)) else (acc, l, 0)
termination_by l.length
decreasing_by rw [List.length_drop]; omega
theorem rdS_end {n : Nat} {acc l : List Nat} (h : ¬ acc.length < n) : rdS n acc l = (acc, l, 0) := by rw [rdS, if_neg h]
theorem rdS_short {n : Nat} {acc l : List Nat} (h : acc.length < n) (h8 : l.length < 8) : rdS n acc l = ([], [], 2) := by rw [rdS, if_pos h, dif_pos h8]
theorem rdS_step {n : Nat} {acc l : List Nat} (h : acc.length < n) (h8 : ¬ l.length < 8) : rdS n acc l = rdS n (acc ++ unS (beN (l.take 8))) (l.drop 8) := by rw [rdS, if_pos h, dif_neg h8]
def decS (l : List Nat) (n : Nat) : List Nat × Int :=
  let r := rdS n [] l
  if r.2.2 ≠ 0 then ([], r.2.2) else if n < r.1.length then ([], 3) else if r.2.1 ≠ [] then ([], 3) else if encS r.1 = l then (r.1, 0) else ([], 3)
end Go.Ck

open Lean Meta Elab Tactic
partial def digE (e : Expr) : MetaM Expr := do
  let e := (← instantiateMVars e).consumeMData
  if let some m ← matchMatcherApp? e then
    for d in m.discrs.reverse do
      let d := d.consumeMData
      let w ← whnfR d
      unless (← isConstructorApp? w).isSome || w.isRawNatLit || w.isFVar do
        return (← digE d)
    return e
  if e.isAppOf ``ite then return e.getArg! 1
  if e.isAppOf ``dite then return e.getArg! 1
  if e.isProj then return (← digE e.projExpr!)
  if let some c := e.getAppFn.constName? then
    if (← getEnv).isProjectionFn c then
      let some info ← getProjectionFnInfo? c | return e
      if e.getAppNumArgs > info.numParams then return (← digE (e.getArg! info.numParams))
  return e
elab "stuck" : tactic => do
  let g ← getMainGoal
  g.withContext do
    let t ← instantiateMVars (← g.getType)
    if t.isAppOf ``Go.Ck.AW then
      let e ← digE (t.getArg! 3)
      let k := t.getArg! 4
      logInfo m!"STUCK e: {e}"
      let kk ← whnfR k
      if kk.isAppOf ``List.cons then logInfo m!"NEXT: {kk.getArg! 1}"
      logInfo m!"STATE: {t.getArg! 6}"
    else
      let t' := if t.isAppOf ``Eq then t.getArg! 1 else t
      logInfo m!"STUCK: {← digE t'}"

set_option linter.unusedVariables false
set_option maxRecDepth 10000
set_option maxHeartbeats 1000000
namespace Go.Ck
open Go.Proofs

abbrev roomsV : List PV := [.int .i64 240, .int .i64 0, .int .i64 120, .int .i64 0, .int .i64 60, .int .i64 1, .int .i64 30, .int .i64 2, .int .i64 20, .int .i64 3, .int .i64 15, .int .i64 4, .int .i64 12, .int .i64 5, .int .i64 10, .int .i64 6, .int .i64 8, .int .i64 7, .int .i64 7, .int .i64 8, .int .i64 6, .int .i64 10, .int .i64 5, .int .i64 12, .int .i64 4, .int .i64 15, .int .i64 3, .int .i64 20, .int .i64 2, .int .i64 30, .int .i64 1, .int .i64 60]
theorem rooms_fn : Fn Try.prog 87 [] [] (fun rs H' => rs = [.pv (.agg roomsV)] ∧ H' = []) := by
  refine Fn.of_body (fn := Try.f87) (n := 18) (res := [.cell 0 101]) (by kernel_rfl) rfl rfl rfl rfl rfl (fun C => ?_)
  refine AW.go ?_
  refine AW.finE (.pv _ .nil) rfl
theorem roomsAt (s : Nat) (hs : s < 16) : subP (.agg roomsV) (s * 2) (some (2, true)) = some (.agg [.int .i64 (cn s : Nat), .int .i64 (wn s : Nat)]) := by
  have h : s = 0 ∨ s = 1 ∨ s = 2 ∨ s = 3 ∨ s = 4 ∨ s = 5 ∨ s = 6 ∨ s = 7 ∨ s = 8 ∨ s = 9 ∨ s = 10 ∨ s = 11 ∨ s = 12 ∨ s = 13 ∨ s = 14 ∨ s = 15 := by omega
  rcases h with rfl | rfl | rfl | rfl | rfl | rfl | rfl | rfl | rfl | rfl | rfl | rfl | rfl | rfl | rfl | rfl <;> rfl
theorem room_fn (s : Nat) (hs : s < 16) : Fn Try.prog 68 [] [.pv (.int .i64 s)] (fun rs H' => rs = [.pv (.int .i64 (cn s : Nat)), .pv (.int .i64 (wn s : Nat))] ∧ H' = []) := by
  refine Fn.of_body (fn := Try.f68) (n := 18) (res := [.tmp 2, .tmp 3]) (by kernel_rfl) rfl rfl rfl rfl rfl (fun C => ?_)
  have hg : decide (16 ≤ s) = false := decide_eq_false (by omega)
  have hgi : decide ((16 : Int) ≤ (s : Int)) = false := decide_eq_false (by omega)
  have hgj : decide ((s : Int) ≥ 16) = false := decide_eq_false (by omega)
  refine AW.gg ?_ (by simp only [go_sem, ↓reduceIte, hg, hgi, hgj] <;> rfl)
  refine AW.condF rfl ?_
  refine AW.go ?_
  refine AW.callE (fun _ => 0) rooms_fn .nil ?_
  refine AW.go ?_
  refine AW.indexArr (ho := rfl) (n := s) rfl rfl tk_101 hs tsh_100 (roomsAt s hs) ?_
  refine AW.go ?_
  refine AW.sr mixed (by decide +kernel) ?_
  refine AW.go ?_
  refine AW.finE (.pv _ (.pv _ .nil)) rfl
theorem refRoom_fn (s : Nat) (hs : s < 16) : Fn Try.prog 72 [] [.pv (.int .i64 s)] (fun rs H' => rs = [.pv (.int .i64 (cn s : Nat)), .pv (.int .i64 (wn s : Nat))] ∧ H' = []) := by
  refine Fn.of_body (fn := Try.f72) (n := 22) (res := [.tmp 2, .tmp 3]) (by kernel_rfl) rfl rfl rfl rfl rfl (fun C => ?_)
  have hg : decide (15 < s) = false := decide_eq_false (by omega)
  have hgj : decide ((s : Int) > 15) = false := decide_eq_false (by omega)
  have h16 : decide (s < 16) = true := decide_eq_true hs
  have h1 : (nis cntL)[s]? = some (.int .i64 (cn s : Nat)) := by
    have h : cntL[s]? = some (cn s) := by unfold cn; rw [List.getD_eq_getElem?_getD, List.getElem?_eq_getElem (show s < cntL.length from hs)]; rfl
    rw [nis, List.getElem?_map, h]; rfl
  have h2 : (nis widL)[s]? = some (.int .i64 (wn s : Nat)) := by
    have h : widL[s]? = some (wn s) := by unfold wn; rw [List.getD_eq_getElem?_getD, List.getElem?_eq_getElem (show s < widL.length from hs)]; rfl
    rw [nis, List.getElem?_map, h]; rfl
  have hl1 : (nis cntL).length = 16 := rfl
  have hl2 : (nis widL).length = 16 := rfl
  have f1 : [PV.int .i64 240, .int .i64 120, .int .i64 60, .int .i64 30, .int .i64 20, .int .i64 15, .int .i64 12, .int .i64 10, .int .i64 8, .int .i64 7, .int .i64 6, .int .i64 5, .int .i64 4, .int .i64 3, .int .i64 2, .int .i64 1] = nis cntL := rfl
  have f2 : [PV.int .i64 0, .int .i64 0, .int .i64 1, .int .i64 2, .int .i64 3, .int .i64 4, .int .i64 5, .int .i64 6, .int .i64 7, .int .i64 8, .int .i64 10, .int .i64 12, .int .i64 15, .int .i64 20, .int .i64 30, .int .i64 60] = nis widL := rfl
  generalize hq1 : nis cntL = q1 at *
  generalize hq2 : nis widL = q2 at *
  have r16 : 16 ≤ room := by decide
  refine AW.gg ?_ (by simp only [go_sem, ↓reduceIte, hg, hgj, f1, f2] <;> rfl)
  refine AW.condF rfl ?_
  refine AW.go ?_
  refine AW.sr mixed (by decide +kernel) ?_ (by simp only [go_sem, ↓reduceIte, h1, h2, h16, hl1, hl2, hs] <;> rfl)
  refine AW.go ?_
  refine AW.finE (.pv _ (.pv _ .nil)) rfl
end Go.Ck

set_option linter.unusedVariables false
namespace Go.Ck
theorem or_add {a b w : Nat} (hb : b < 2 ^ w) (h : a * 2 ^ w + b < 2 ^ 64) : ibits .or .u64 ((a * 2 ^ w : Nat) : Int) (b : Int) = ((a * 2 ^ w + b : Nat) : Int) := by
  rw [ibits_or64 (by omega) (by omega)]
  have := Nat.two_pow_add_eq_or_of_lt hb a
  rw [Nat.mul_comm (2 ^ w) a] at this
  rw [this]
theorem shl_add {a w : Nat} (hw : w ≤ 64) (h : a * 2 ^ w < 2 ^ 64) : shlI .u64 (a : Int) (w : Int) = ((a * 2 ^ w : Nat) : Int) := by
  rw [shlI_nat64 a w hw, Nat.mod_eq_of_lt h]
theorem fitS_all {l : List Nat} {s : Nat} (h1 : cn s ≤ l.length) (h2 : ∀ x ∈ l.take (cn s), x < 2 ^ wn s) : fitS l s = true := by
  simp only [fitS, Bool.and_eq_true, decide_eq_true_eq, List.all_eq_true]
  exact ⟨h1, h2⟩
theorem fitS_short {l : List Nat} {s : Nat} (h : ¬ cn s ≤ l.length) : fitS l s = false := by
  simp [fitS, h]
theorem fitS_big {l : List Nat} {s : Nat} {x : Nat} (h1 : x ∈ l.take (cn s)) (h2 : ¬ x < 2 ^ wn s) : fitS l s = false := by
  rw [Bool.eq_false_iff]
  intro h
  simp only [fitS, Bool.and_eq_true, decide_eq_true_eq, List.all_eq_true] at h
  exact h2 (h.2 x h1)
theorem fitS_len {l : List Nat} {s : Nat} (h : fitS l s = true) : cn s ≤ l.length ∧ ∀ x ∈ l.take (cn s), x < 2 ^ wn s := by
  simpa only [fitS, Bool.and_eq_true, decide_eq_true_eq, List.all_eq_true] using h
theorem hornB_nil (w : Nat) : hornB w [] = 0 := rfl
theorem div_zero_iff {x w : Nat} : x / 2 ^ w = 0 ↔ x < 2 ^ w := by
  rw [Nat.div_eq_zero_iff]
  have := Nat.two_pow_pos w
  omega
theorem hornB_lt2 {w m : Nat} {l : List Nat} (h : ∀ x ∈ l, x < 2 ^ w) (hm : l.length * w ≤ m) : hornB w l < 2 ^ m := Nat.lt_of_lt_of_le (hornB_lt h) (Nat.pow_le_pow_right (by omega) hm)
end Go.Ck
namespace Go.Ck
/-- A word, built from the top. -/
def topB (c w s : Nat) (q : List Nat) (i : Nat) : Nat := s * 2 ^ 60 + hornB w (q.take i) * 2 ^ (60 - i * w)
theorem topB_step {w s i : Nat} {q : List Nat} (h : i < q.length) (hi : (i + 1) * w ≤ 60) : topB 0 w s q (i + 1) = topB 0 w s q i + q[i] * 2 ^ (60 - (i + 1) * w) := by
  unfold topB
  have hti : q.take (i + 1) = q.take i ++ [q[i]] := by simp
  rw [hti, hornB_snoc, Nat.add_mul, Nat.add_assoc, Nat.mul_assoc, ← Nat.pow_add]
  rw [show w + (60 - (i + 1) * w) = 60 - i * w by rw [Nat.succ_mul] at hi ⊢; omega]
theorem topB_or {w s i : Nat} {q : List Nat} (h : i < q.length) (hi : (i + 1) * w ≤ 60) (hs : s < 16) (hx : ∀ x ∈ q, x < 2 ^ w) :
    ibits .or .u64 ((topB 0 w s q i : Nat) : Int) ((q[i] * 2 ^ (60 - (i + 1) * w) : Nat) : Int) = ((topB 0 w s q (i + 1) : Nat) : Int) ∧ q[i] * 2 ^ (60 - (i + 1) * w) < 2 ^ 64 := by
  have hxx := hx _ (List.getElem_mem h)
  have h1 := Nat.mul_lt_mul_of_pos_right hxx (Nat.two_pow_pos (60 - (i + 1) * w))
  have hw : w + (60 - (i + 1) * w) = 60 - i * w := by rw [Nat.succ_mul] at hi ⊢; omega
  rw [← Nat.pow_add, hw] at h1
  have h60 : 2 ^ (60 - i * w) ≤ 2 ^ 60 := Nat.pow_le_pow_right (by omega) (by omega)
  have e : topB 0 w s q i = (s * 2 ^ (i * w) + hornB w (q.take i)) * 2 ^ (60 - i * w) := by
    unfold topB
    rw [Nat.add_mul, Nat.mul_assoc s, ← Nat.pow_add, show i * w + (60 - i * w) = 60 by rw [Nat.succ_mul] at hi; omega]
  have hhl : hornB w (q.take i) < 2 ^ (i * w) := by
    have := hornB_lt (w := w) (l := q.take i) (fun x hx' => hx x (List.mem_of_mem_take hx'))
    rwa [List.length_take, Nat.min_eq_left (by omega)] at this
  have h2 := Nat.mul_le_mul_right (2 ^ (60 - i * w)) (show hornB w (q.take i) + 1 ≤ 2 ^ (i * w) by omega)
  rw [← Nat.pow_add, show i * w + (60 - i * w) = 60 by rw [Nat.succ_mul] at hi; omega, Nat.add_mul, Nat.one_mul] at h2
  have hs2 : s * 2 ^ 60 ≤ 15 * 2 ^ 60 := Nat.mul_le_mul_right _ (by omega)
  have ht : topB 0 w s q i = s * 2 ^ 60 + hornB w (q.take i) * 2 ^ (60 - i * w) := rfl
  refine ⟨?_, by omega⟩
  rw [topB_step h hi, e]
  rw [e] at ht
  exact or_add h1 (by omega)
theorem topB_zero (w s : Nat) (q : List Nat) : topB 0 w s q 0 = s * 2 ^ 60 := by simp [topB, hornB]
theorem blen_gt {x w : Nat} : decide (w < blen x) = !decide (x < 2 ^ w) := by
  have := blen_le (v := x) (n := w)
  by_cases h : x < 2 ^ w
  · rw [decide_eq_true h, decide_eq_false (by have := this.2 h; omega)]; rfl
  · rw [decide_eq_false h, decide_eq_true (by have := mt this.1 h; omega)]; rfl
end Go.Ck
namespace Go.Ck
theorem mask_low {a w : Nat} (ha : a < 2 ^ 64) (hw : w ≤ 60) : shlI .u64 1 (w : Int) = ((2 ^ w : Nat) : Int) ∧ IntKind.u64.wrap (((2 ^ w : Nat) : Int) - 1) = ((2 ^ w - 1 : Nat) : Int) ∧ ibits .and .u64 (a : Int) ((2 ^ w - 1 : Nat) : Int) = ((a % 2 ^ w : Nat) : Int) := by
  have h1 : 2 ^ w ≤ 2 ^ 60 := Nat.pow_le_pow_right (by omega) hw
  have h0 := Nat.two_pow_pos w
  refine ⟨?_, ?_, ?_⟩
  · have := shl_add (a := 1) (w := w) (by omega) (by omega)
    rw [Nat.one_mul] at this
    exact this
  · rw [show ((2 ^ w : Nat) : Int) - 1 = ((2 ^ w - 1 : Nat) : Int) by omega]; exact wrap_u64_lt (by omega)
  · rw [ibits_and64 ha (by omega), Nat.and_two_pow_sub_one_eq_mod]
theorem rdS_inv (n : Nat) : ∀ (k : Nat) (acc l : List Nat), l.length ≤ k → (∀ x ∈ acc, x < 2 ^ 60) → (∀ x ∈ l, x < 256) → ∀ x ∈ (rdS n acc l).1, x < 2 ^ 60 := by
  intro k
  induction k with
  | zero =>
    intro acc l hk ha hl
    by_cases h : acc.length < n
    · rw [rdS_short h (by omega)]; simp
    · rw [rdS_end h]; exact ha
  | succ k ih =>
    intro acc l hk ha hl
    by_cases h : acc.length < n
    · by_cases h8 : l.length < 8
      · rw [rdS_short h h8]; simp
      · rw [rdS_step h h8]
        refine ih _ _ (by rw [List.length_drop]; omega) ?_ (fun x hx => hl x (List.mem_of_mem_drop hx))
        intro x hx
        rcases List.mem_append.1 hx with hx | hx
        · exact ha x hx
        · exact unS_lt (be8_lt l hl) x hx
    · rw [rdS_end h]; exact ha
end Go.Ck
namespace Go.Ck
theorem top4 {v w m : Nat} (h1 : w ≤ m) (h2 : m ≤ 60) : v * 2 ^ 4 % 2 ^ 64 / 2 ^ (64 - m) % 2 ^ w = v / 2 ^ (60 - m) % 2 ^ w := by
  have e1 : v * 2 ^ 4 % 2 ^ 64 = v % 2 ^ 60 * 2 ^ 4 := by omega
  have e2 : 2 ^ (64 - m) = 2 ^ 4 * 2 ^ (60 - m) := by rw [← Nat.pow_add]; congr 1; omega
  rw [e1, e2, ← Nat.div_div_eq_div_mul, Nat.mul_div_cancel _ (by omega)]
  have e3 : 2 ^ 60 = 2 ^ (60 - m) * 2 ^ m := by rw [← Nat.pow_add]; congr 1; omega
  rw [e3, Nat.mod_mul_right_div_self]
  exact Nat.mod_mod_of_dvd _ (Nat.pow_dvd_pow 2 h1)
end Go.Ck

set_option linter.unusedVariables false
set_option maxRecDepth 10000
set_option maxHeartbeats 1000000
namespace Go.Ck
open Go.Proofs

theorem fits60_fn (l : List Nat) (s : Nat) (hs : s < 16) (hl : l.length ≤ 65536) (hx : ∀ x ∈ l, x < 2 ^ 64) : Fn Try.prog 66 [] [.pv (.sl 1 (u64s l)), .pv (.int .i64 s)] (fun rs H' => rs = [.pv (.bool (fitS l s))] ∧ H' = []) := by
  refine Fn.of_body (fn := Try.f66) (n := 31) (res := [.tmp 4]) (by kernel_rfl) rfl rfl rfl rfl rfl (fun C => ?_)
  have hr : room = 140737488355328 := rfl
  obtain ⟨c1, c2, c3, c4⟩ := cw s hs
  refine AW.go ?_
  refine AW.callE (fun _ => 0) (room_fn s hs) (.pv _ .nil) ?_
  have hbig : ∀ x, x ∈ l.take (cn s) → ¬ x < 2 ^ wn s → fitS l s = false := fun x => fitS_big
  have hall := fitS_all (l := l) (s := s)
  have hsh := fitS_short (l := l) (s := s)
  generalize fitS l s = bb at *
  generalize cn s = c at *
  generalize wn s = w at *
  refine AW.go ?_
  refine AW.cond rfl (fun hc => ?_) (fun hc => ?_)
  · have h : ¬ c ≤ l.length := by simp at hc; omega
    rw [hsh h]
    refine AW.go ?_
    refine AW.finE (.pv _ .nil) rfl
  have h : c ≤ l.length := by simp at hc; omega
  have htl : (l.take c).length = c := by simp; omega
  refine AW.go ?_ (by simp only [go_sem, ↓reduceIte, h] <;> rfl)
  refine AW.loopS (fun i : Nat => ⟨31, [(22, .pv (.int .i64 i)), (21, .pv (.int .i64 c)), (20, .pv (.sl 1 (u64s (l.take c)))), (6, .pv (.int .i64 w))], []⟩) (fun i => i ≤ c ∧ ∀ x ∈ (l.take c).take i, x < 2 ^ w) (fun i => c - i) [22, 21, 20, 6] [] 0 ⟨Nat.zero_le _, by simp⟩ ?_ (by simp only [go_sem, ↓reduceIte]) (by simp only [go_sem, ↓reduceIte, htl] <;> rfl)
  have hm : ∀ x ∈ l.take c, x < 2 ^ 64 := fun x h => hx x (List.mem_of_mem_take h)
  generalize l.take c = q at *
  rintro i ⟨hi, hz⟩ K hK
  refine AW.go ?_
  refine AW.cond rfl (fun hc2 => ?_) (fun hc2 => ?_)
  · have hlt : i < q.length := by simp at hc2; omega
    have hget := u64s_get hlt
    have hti : q.take (i + 1) = q.take i ++ [q[i]] := by simp
    have hmem := List.getElem_mem hlt
    have hxx := hm _ hmem
    generalize q[i] = x at *
    have es : shrI .u64 (x : Int) (w : Int) = ((x / 2 ^ w : Nat) : Int) := shrI_nat .u64 x w (by show w ≤ 64; omega)
    have ei : IntKind.i64.wrap ((i : Int) + 1) = ((i + 1 : Nat) : Int) := wrap_i64_succ (by omega)
    have hz0 := div_zero_iff (x := x) (w := w)
    generalize x / 2 ^ w = y at *
    refine AW.go ?_ (by simp only [go_sem, ↓reduceIte, hget, es] <;> rfl)
    refine AW.cond rfl (fun hc3 => ?_) (fun hc3 => ?_)
    · have hy : ¬ x < 2 ^ w := fun h => by have := hz0.2 h; subst this; simp at hc3
      rw [hbig _ hmem hy]
      refine AW.go ?_
      refine AW.finE (.pv _ .nil) rfl
    · have hy : x < 2 ^ w := hz0.1 (by simpa using hc3)
      refine AW.go ?_ (by simp only [go_sem, ↓reduceIte, ei] <;> rfl)
      refine AW.again hK (i + 1) ⟨by omega, ?_⟩ (by omega)
      rw [hti]
      intro z hz'
      rcases List.mem_append.1 hz' with h | h
      · exact hz z h
      · rw [List.mem_singleton.1 h]; exact hy
  · have hge : i = q.length := by simp at hc2; omega
    rw [List.take_of_length_le (by omega)] at hz
    rw [hall h hz]
    refine AW.go ?_
    refine AW.finE (.pv _ .nil) rfl

theorem pack60_fn (l : List Nat) (s : Nat) (hs : s < 16) (hl : l.length ≤ 65536) (hf : fitS l s = true) : Fn Try.prog 67 [] [.pv (.sl 1 (u64s l)), .pv (.int .i64 s)] (fun rs H' => rs = [.pv (.int .u64 (wordS l s : Nat))] ∧ H' = []) := by
  refine Fn.of_body (fn := Try.f67) (n := 39) (res := [.tmp 4]) (by kernel_rfl) rfl rfl rfl rfl rfl (fun C => ?_)
  have hr : room = 140737488355328 := rfl
  obtain ⟨c1, c2, c3, c4⟩ := cw s hs
  have hwl := wordS_lt hs hf
  unfold wordS at hwl ⊢
  obtain ⟨h, hfit⟩ := fitS_len hf
  refine AW.go ?_
  refine AW.callE (fun _ => 0) (room_fn s hs) (.pv _ .nil) ?_
  generalize cn s = c at *
  generalize wn s = w at *
  have htl : (l.take c).length = c := by simp; omega
  refine AW.go ?_ (by simp only [go_sem, ↓reduceIte, h] <;> rfl)
  refine AW.loopS (fun i : Nat => ⟨39, [(19, .pv (.int .i64 i)), (18, .pv (.int .i64 c)), (17, .pv (.sl 1 (u64s (l.take c)))), (7, .pv (.int .u64 (hornB w ((l.take c).take i) : Nat))), (6, .pv (.int .i64 w)), (5, .pv (.int .i64 c)), (1, .pv (.int .i64 s))], []⟩) (fun i => i ≤ c) (fun i => c - i) [19, 18, 17, 7, 6, 5, 1] [] 0 (Nat.zero_le _) ?_ (by simp only [go_sem, ↓reduceIte]) (by simp only [go_sem, ↓reduceIte, htl] <;> rfl)
  generalize l.take c = q at *
  rintro i hi K hK
  refine AW.go ?_
  refine AW.cond rfl (fun hc2 => ?_) (fun hc2 => ?_)
  · have hlt : i < q.length := by simp at hc2; omega
    have hget := u64s_get hlt
    have hti : q.take (i + 1) = q.take i ++ [q[i]] := by simp
    have hxx := hfit _ (List.getElem_mem hlt)
    generalize q[i] = x at *
    have hm : (i + 1) * w ≤ c * w := Nat.mul_le_mul_right _ (by omega)
    have hhl := hornB_lt2 (w := w) (m := i * w) (l := q.take i) (fun x hx => hfit x (List.mem_of_mem_take hx)) (Nat.mul_le_mul_right _ (by simp; omega))
    have hhs := hornB_snoc w (q.take i) x
    rw [← hti] at hhs
    have hh1 := hornB_lt2 (w := w) (m := 60) (l := q.take (i + 1)) (fun x hx => hfit x (List.mem_of_mem_take hx)) (Nat.le_trans (Nat.mul_le_mul_right _ (by simp; omega)) c4)
    rw [hhs] at hh1
    generalize hornB w (q.take i) = a at *
    have es := shl_add (a := a) (w := w) (by omega) (by omega)
    have eo := or_add (a := a) (b := x) (w := w) hxx (by omega)
    have ei : IntKind.i64.wrap ((i : Int) + 1) = ((i + 1 : Nat) : Int) := wrap_i64_succ (by omega)
    refine AW.go ?_ (by simp only [go_sem, ↓reduceIte, hget, es, eo, ei] <;> rfl)
    refine AW.again hK (i + 1) (by omega) (by omega) (by simp only [go_sem, ↓reduceIte]) (by simp only [go_sem, ↓reduceIte, hhs] <;> rfl)
  · have hge : i = q.length := by simp at hc2; omega
    rw [List.take_of_length_le (by omega)]
    clear hK
    generalize hornB w q = a at *
    have e1 : IntKind.u64.wrap (s : Int) = (s : Int) := wrap_u64_lt (by omega)
    have e2 : shlI .u64 (s : Int) 60 = ((s * 2 ^ 60 : Nat) : Int) := shl_add (a := s) (w := 60) (by omega) (by omega)
    have em : IntKind.i64.wrap ((c * w : Nat) : Int) = ((c * w : Nat) : Int) := wrap_i64_nat (by omega)
    have e6 : IntKind.i64.wrap (60 - ((c * w : Nat) : Int)) = ((60 - c * w : Nat) : Int) := by rw [wrap_i64_of (by omega) (by omega)]; omega
    have e7 := shl_add (a := a) (w := 60 - c * w) (by omega) (by omega)
    have eo := or_add (a := s) (b := a * 2 ^ (60 - c * w)) (w := 60) hwl.1 (by omega)
    generalize a * 2 ^ (60 - c * w) = z at *
    generalize hcw : c * w = m at *
    refine AW.go ?_ (by simp only [go_sem, ↓reduceIte, e1, e2, hcw, em, e6, e7, eo] <;> rfl)
    refine AW.finE (.pv _ .nil) rfl
end Go.Ck

set_option linter.unusedVariables false
set_option maxRecDepth 10000
set_option maxHeartbeats 1000000
namespace Go.Ck
open Go.Proofs

theorem simpleEnc_fn (xs : List Nat) (hl : xs.length ≤ 65536) (hx : ∀ x ∈ xs, x < 2 ^ 64) : Fn Try.prog 45 [] [.pv (.sl 1 (u64s xs))]
    (fun rs H' => rs = [.own 5 (bytes (encSW xs).1), .pv (.int .i64 (encSW xs).2)] ∧ H' = []) := by
  refine Fn.of_body (fn := Try.f45) (n := 47) (res := [.tmp 2, .tmp 3]) (by kernel_rfl) rfl rfl rfl rfl rfl (fun C => ?_)
  have hr : room = 140737488355328 := rfl
  have hgt : decide (65536 < xs.length) = false := decide_eq_false (by omega)
  have hgi : decide ((xs.length : Int) > 65536) = false := decide_eq_false (by omega)
  refine AW.go ?_ (by simp only [go_sem, ↓reduceIte, hgt, hgi] <;> rfl)
  refine AW.condF rfl ?_
  refine AW.go ?_
  refine AW.loopS (fun i : Nat => ⟨47, [(15, .pv (.int .i64 i)), (14, .pv (.int .i64 xs.length)), (13, .pv (.sl 1 (u64s xs))), (0, .pv (.sl 1 (u64s xs)))], []⟩) (fun i => i ≤ xs.length ∧ ∀ x ∈ xs.take i, x < 2 ^ 60) (fun i => xs.length - i) [15, 14, 13, 0] [] 0 ⟨Nat.zero_le _, by simp⟩ ?_
  rintro i ⟨hi, hz⟩ K hK
  refine AW.go ?_
  refine AW.cond rfl (fun hc => ?_) (fun hc => ?_)
  · have hlt : i < xs.length := by simpa using hc
    have hget := u64s_get hlt
    have hti : xs.take (i + 1) = xs.take i ++ [xs[i]] := by simp
    have hmem := List.getElem_mem hlt
    have hxx := hx _ hmem
    generalize xs[i] = x at *
    have es : shrI .u64 (x : Int) 60 = ((x / 2 ^ 60 : Nat) : Int) := shrI_nat .u64 x 60 (by show 60 ≤ 64; omega)
    have ei : IntKind.i64.wrap ((i : Int) + 1) = ((i + 1 : Nat) : Int) := wrap_i64_succ (by omega)
    have hz0 := div_zero_iff (x := x) (w := 60)
    generalize x / 2 ^ 60 = y at *
    refine AW.go ?_ (by simp only [go_sem, ↓reduceIte, hget, es] <;> rfl)
    refine AW.cond rfl (fun hc3 => ?_) (fun hc3 => ?_)
    · have hy : ¬ x < 2 ^ 60 := fun h => by have := hz0.2 h; subst this; simp at hc3
      have hbig : big60 xs = true := by unfold big60; rw [List.any_eq_true]; exact ⟨x, hmem, by simp; omega⟩
      unfold encSW
      rw [if_pos hbig]
      refine AW.go ?_
      refine AW.finE (.move rfl (.pv _ .nil)) rfl
    · have hy : x < 2 ^ 60 := hz0.1 (by simpa using hc3)
      refine AW.go ?_ (by simp only [go_sem, ↓reduceIte, ei] <;> rfl)
      refine AW.again hK (i + 1) ⟨by omega, ?_⟩ (by omega)
      rw [hti]
      intro z hz'
      rcases List.mem_append.1 hz' with h | h
      · exact hz z h
      · rw [List.mem_singleton.1 h]; exact hy
  have hge : ¬ i < xs.length := by simpa using hc
  rw [List.take_of_length_le (by omega)] at hz
  clear hK hc
  unfold encSW
  rw [if_neg (by rw [big60_false hz]; exact Bool.noConfusion)]
  have hel := encS_len xs.length xs (Nat.le_refl _)
  refine AW.go ?_
  refine AW.loopS (fun a : List Nat × List Nat => ⟨47, [(6, .own 5 (bytes a.1)), (0, .pv (.sl 1 (u64s a.2)))], []⟩) (fun a => a.1 ++ encS a.2 = encS xs ∧ a.2.length ≤ xs.length ∧ ∀ x ∈ a.2, x < 2 ^ 60) (fun a => a.2.length) [6, 0] [] ([], xs) ⟨by simp, Nat.le_refl _, hz⟩ ?_
  rintro ⟨out, q⟩ ⟨he, hql, hq⟩ K hK
  simp only at he hql hq
  refine AW.go ?_
  refine AW.cond rfl (fun hc => ?_) (fun hc => ?_)
  · have hne : q ≠ [] := by rintro rfl; simp at hc
    have hqn : q.length ≠ 0 := fun e => hne (List.length_eq_zero_iff.1 e)
    have hq64 : ∀ x ∈ q, x < 2 ^ 64 := fun x h => Nat.lt_trans (hq x h) (by omega)
    have holn : out.length + (encS q).length = (encS xs).length := by rw [← he]; simp
    have hlast := fitS_last hne hq
    have hfin : ∀ s, s < 16 → (∀ t, t < s → fitS q t = false) → fitS q s = true → out ++ beB (wordS q s) 8 ++ encS (q.drop (cn s)) = encS xs ∧ (out ++ beB (wordS q s) 8).length ≤ 2 ^ 30 := by
      intro s hs hno hf
      have hp := fstS_eq hs hno hf
      have h1 := encS_cons hne
      rw [hp] at h1
      refine ⟨by rw [List.append_assoc, ← h1, he], ?_⟩
      have := congrArg List.length h1
      rw [List.length_append] at this
      rw [List.length_append]
      omega
    refine AW.go ?_
    refine AW.scopeS 0 (fun s : Nat => ⟨47, [(7, .pv (.int .i64 s)), (6, .own 5 (bytes out)), (0, .pv (.sl 1 (u64s q)))], []⟩) (fun s => s < 16 ∧ ∀ t, t < s → fitS q t = false) (fun s => 16 - s) [7, 6, 0] [] rfl ?_ ?_
    · intro K2 hK2
      refine AW.go ?_
      refine AW.callE (fun _ => 0) (fits60_fn q 0 (by omega) (by omega) hq64) (.pv _ (.pv _ .nil)) ?_
      refine AW.go ?_
      refine AW.cond rfl (fun hc2 => ?_) (fun hc2 => ?_)
      · have hf : fitS q 0 = false := by simpa using hc2
        refine AW.go ?_
        refine AW.leap0 hK2 1 ⟨by omega, fun t ht => by rw [show t = 0 by omega]; exact hf⟩
      · have hf : fitS q 0 = true := by simpa using hc2
        obtain ⟨hen, hln⟩ := hfin 0 (by omega) (fun t ht => by omega) hf
        obtain ⟨c1, c2, c3, c4⟩ := cw 0 (by omega)
        have hcl := (fitS_len hf).1
        have hwl := (wordS_lt (by omega) hf).2
        refine AW.go ?_
        refine AW.callE (fun _ => 0) (pack60_fn q 0 (by omega) (by omega) hf) (.pv _ (.pv _ .nil)) ?_
        refine AW.go ?_
        refine AW.callE (fun _ => 0) (fix_fn (wordS q 0) 8 hwl (by omega)) (.pv _ (.pv _ .nil)) ?_
        have h2 : out.length + (beB (wordS q 0) 8).length ≤ room := by rw [← List.length_append]; omega
        refine AW.go ?_ (by simp only [go_sem, ↓reduceIte, h2] <;> rfl)
        refine AW.callE (fun _ => 0) (room_fn 0 (by omega)) (.pv _ .nil) ?_
        have e : (((q.length : Int) - (cn 0 : Nat)).toNat) = q.length - cn 0 := by omega
        have e2 : (u64s (q.drop (cn 0))).take (q.length - cn 0) = u64s (q.drop (cn 0)) := List.take_of_length_le (by simp [u64s])
        generalize cn 0 = c at *
        refine AW.go ?_ (by simp only [go_sem, ↓reduceIte, hcl, e]; rw [← u64s_take, e2] <;> rfl)
        refine AW.again hK (out ++ beB (wordS q 0) 8, q.drop c) ⟨hen, by simp only [List.length_drop]; omega, fun x hx' => hq x (List.mem_of_mem_drop hx')⟩ (by simp only [List.length_drop]; omega)
    · rintro s ⟨hs, hno⟩ K2 hK2
      refine AW.go ?_
      refine AW.callE (fun _ => 0) (fits60_fn q s hs (by omega) hq64) (.pv _ (.pv _ .nil)) ?_
      refine AW.go ?_
      refine AW.cond rfl (fun hc2 => ?_) (fun hc2 => ?_)
      · have hf : fitS q s = false := by simpa using hc2
        have hs15 : s ≠ 15 := by rintro rfl; rw [hlast] at hf; cases hf
        have ei : IntKind.i64.wrap ((s : Int) + 1) = ((s + 1 : Nat) : Int) := wrap_i64_succ (by omega)
        refine AW.go ?_ (by simp only [go_sem, ↓reduceIte, ei] <;> rfl)
        refine AW.leap hK2 (s + 1) ⟨by omega, fun t ht => ?_⟩ (by omega)
        rcases Nat.lt_or_ge t s with h | h
        · exact hno t h
        · rw [show t = s by omega]; exact hf
      · have hf : fitS q s = true := by simpa using hc2
        obtain ⟨hen, hln⟩ := hfin s hs hno hf
        obtain ⟨c1, c2, c3, c4⟩ := cw s hs
        have hcl := (fitS_len hf).1
        have hwl := (wordS_lt hs hf).2
        refine AW.go ?_
        refine AW.callE (fun _ => 0) (pack60_fn q s hs (by omega) hf) (.pv _ (.pv _ .nil)) ?_
        refine AW.go ?_
        refine AW.callE (fun _ => 0) (fix_fn (wordS q s) 8 hwl (by omega)) (.pv _ (.pv _ .nil)) ?_
        have h2 : out.length + (beB (wordS q s) 8).length ≤ room := by rw [← List.length_append]; omega
        refine AW.go ?_ (by simp only [go_sem, ↓reduceIte, h2] <;> rfl)
        refine AW.callE (fun _ => 0) (room_fn s hs) (.pv _ .nil) ?_
        have e : (((q.length : Int) - (cn s : Nat)).toNat) = q.length - cn s := by omega
        have e2 : (u64s (q.drop (cn s))).take (q.length - cn s) = u64s (q.drop (cn s)) := List.take_of_length_le (by simp [u64s])
        generalize cn s = c at *
        refine AW.go ?_ (by simp only [go_sem, ↓reduceIte, hcl, e]; rw [← u64s_take, e2] <;> rfl)
        refine AW.again hK (out ++ beB (wordS q s) 8, q.drop c) ⟨hen, by simp only [List.length_drop]; omega, fun x hx' => hq x (List.mem_of_mem_drop hx')⟩ (by simp only [List.length_drop]; omega)
  · have hqe : q = [] := by
      cases q with
      | nil => rfl
      | cons a r => simp at hc
    subst hqe
    rw [encS_nil, List.append_nil] at he
    rw [he]
    refine AW.go ?_
    refine AW.finE (.move rfl (.pv _ .nil)) rfl
end Go.Ck

set_option linter.unusedVariables false
set_option maxRecDepth 10000
set_option maxHeartbeats 1000000
namespace Go.Ck
open Go.Proofs

theorem refFits60_fn (l : List Nat) (s : Nat) (hs : s < 16) (hl : l.length ≤ 65536) (hx : ∀ x ∈ l, x < 2 ^ 64) : Fn Try.prog 71 [] [.pv (.sl 1 (u64s l)), .pv (.int .i64 s)] (fun rs H' => rs = [.pv (.bool (fitS l s))] ∧ H' = []) := by
  refine Fn.of_body (fn := Try.f71) (n := 29) (res := [.tmp 4]) (by kernel_rfl) rfl rfl rfl rfl rfl (fun C => ?_)
  have hr : room = 140737488355328 := rfl
  obtain ⟨c1, c2, c3, c4⟩ := cw s hs
  refine AW.go ?_
  refine AW.callE (fun _ => 0) (refRoom_fn s hs) (.pv _ .nil) ?_
  have hbig : ∀ x, x ∈ l.take (cn s) → ¬ x < 2 ^ wn s → fitS l s = false := fun x => fitS_big
  have hall := fitS_all (l := l) (s := s)
  have hsh := fitS_short (l := l) (s := s)
  generalize fitS l s = bb at *
  generalize cn s = c at *
  generalize wn s = w at *
  refine AW.go ?_
  refine AW.cond rfl (fun hc => ?_) (fun hc => ?_)
  · have h : ¬ c ≤ l.length := by simp at hc; omega
    rw [hsh h]
    refine AW.go ?_
    refine AW.finE (.pv _ .nil) rfl
  have h : c ≤ l.length := by simp at hc; omega
  refine AW.go ?_
  refine AW.loopS (fun i : Nat => ⟨29, [(7, .pv (.int .i64 i)), (0, .pv (.sl 1 (u64s l))), (5, .pv (.int .i64 c)), (6, .pv (.int .i64 w))], []⟩) (fun i => i ≤ c ∧ ∀ x ∈ l.take i, x < 2 ^ w) (fun i => c - i) [7, 0, 5, 6] [] 0 ⟨Nat.zero_le _, by simp⟩ ?_
  rintro i ⟨hi, hz⟩ K hK
  refine AW.go ?_
  refine AW.cond rfl (fun hc2 => ?_) (fun hc2 => ?_)
  · have hic : i < c := by simpa using hc2
    have hlt : i < l.length := by omega
    have hget := u64s_get hlt
    have hti : l.take (i + 1) = l.take i ++ [l[i]] := by simp
    have hmem : l[i] ∈ l.take c := by rw [List.mem_take_iff_getElem]; exact ⟨i, by omega, rfl⟩
    have hxx := hx _ (List.getElem_mem hlt)
    generalize l[i] = x at *
    have ei : IntKind.i64.wrap ((i : Int) + 1) = ((i + 1 : Nat) : Int) := wrap_i64_succ (by omega)
    have hb := blen_gt (x := x) (w := w)
    refine AW.go ?_ (by simp only [go_sem, ↓reduceIte, hget, hlt] <;> rfl)
    refine AW.callE (fun _ => 0) (refWidth_fn x hxx) (.pv _ .nil) ?_
    refine AW.go ?_
    refine AW.cond rfl (fun hc3 => ?_) (fun hc3 => ?_)
    · have hy : ¬ x < 2 ^ w := by
        have : decide (w < blen x) = true := by simpa using hc3
        rw [hb] at this
        simpa using this
      rw [hbig _ hmem hy]
      refine AW.go ?_
      refine AW.finE (.pv _ .nil) rfl
    · have hy : x < 2 ^ w := by
        have : decide (w < blen x) = false := by simpa using hc3
        rw [hb] at this
        simpa using this
      refine AW.go ?_ (by simp only [go_sem, ↓reduceIte, ei] <;> rfl)
      refine AW.again hK (i + 1) ⟨by omega, ?_⟩ (by omega)
      rw [hti]
      intro z hz'
      rcases List.mem_append.1 hz' with h | h
      · exact hz z h
      · rw [List.mem_singleton.1 h]; exact hy
  · have hge : i = c := by simp at hc2; omega
    subst hge
    rw [hall h hz]
    refine AW.go ?_
    refine AW.finE (.pv _ .nil) rfl

theorem refSimpleEnc_fn (xs : List Nat) (hl : xs.length ≤ 65536) (hx : ∀ x ∈ xs, x < 2 ^ 64) : Fn Try.prog 49 [] [.pv (.sl 1 (u64s xs))]
    (fun rs H' => rs = [.own 5 (bytes (encSW xs).1), .pv (.int .i64 (encSW xs).2)] ∧ H' = []) := by
  refine Fn.of_body (fn := Try.f49) (n := 69) (res := [.tmp 2, .tmp 3]) (by kernel_rfl) rfl rfl rfl rfl rfl (fun C => ?_)
  have hr : room = 140737488355328 := rfl
  have hgt : decide (65536 < xs.length) = false := decide_eq_false (by omega)
  have hgi : decide ((xs.length : Int) > 65536) = false := decide_eq_false (by omega)
  refine AW.go ?_ (by simp only [go_sem, ↓reduceIte, hgt, hgi] <;> rfl)
  refine AW.condF rfl ?_
  refine AW.go ?_
  refine AW.loopS (fun i : Nat => ⟨69, [(4, .pv (.int .i64 i)), (0, .pv (.sl 1 (u64s xs)))], []⟩) (fun i => i ≤ xs.length ∧ ∀ x ∈ xs.take i, x < 2 ^ 60) (fun i => xs.length - i) [4, 0] [] 0 ⟨Nat.zero_le _, by simp⟩ ?_
  rintro i ⟨hi, hz⟩ K hK
  refine AW.go ?_
  refine AW.cond rfl (fun hc => ?_) (fun hc => ?_)
  · have hlt : i < xs.length := by simpa using hc
    have hget := u64s_get hlt
    have hti : xs.take (i + 1) = xs.take i ++ [xs[i]] := by simp
    have hmem := List.getElem_mem hlt
    have hxx := hx _ hmem
    generalize xs[i] = x at *
    have ei : IntKind.i64.wrap ((i : Int) + 1) = ((i + 1 : Nat) : Int) := wrap_i64_succ (by omega)
    have hb := blen_gt (x := x) (w := 60)
    refine AW.go ?_ (by simp only [go_sem, ↓reduceIte, hget] <;> rfl)
    refine AW.callE (fun _ => 0) (refWidth_fn x hxx) (.pv _ .nil) ?_
    generalize blen x = bl at *
    refine AW.go ?_
    refine AW.cond rfl (fun hc3 => ?_) (fun hc3 => ?_)
    · have hy : ¬ x < 2 ^ 60 := by
        have : decide (60 < bl) = true := decide_eq_true (by simp at hc3; omega)
        rw [hb] at this
        simpa using this
      have hbig : big60 xs = true := by unfold big60; rw [List.any_eq_true]; exact ⟨x, hmem, by simp; omega⟩
      unfold encSW
      rw [if_pos hbig]
      refine AW.go ?_
      refine AW.finE (.move rfl (.pv _ .nil)) rfl
    · have hy : x < 2 ^ 60 := by
        have : decide (60 < bl) = false := decide_eq_false (by simp at hc3; omega)
        rw [hb] at this
        simpa using this
      refine AW.go ?_ (by simp only [go_sem, ↓reduceIte, ei] <;> rfl)
      refine AW.again hK (i + 1) ⟨by omega, ?_⟩ (by omega)
      rw [hti]
      intro z hz'
      rcases List.mem_append.1 hz' with h | h
      · exact hz z h
      · rw [List.mem_singleton.1 h]; exact hy
  have hge : ¬ i < xs.length := by simpa using hc
  rw [List.take_of_length_le (by omega)] at hz
  clear hK hc
  unfold encSW
  rw [if_neg (by rw [big60_false hz]; exact Bool.noConfusion)]
  have hel := encS_len xs.length xs (Nat.le_refl _)
  refine AW.go ?_
  refine AW.loopS (fun a : List Nat × List Nat => ⟨69, [(5, .own 5 (bytes a.1)), (0, .pv (.sl 1 (u64s a.2)))], []⟩) (fun a => a.1 ++ encS a.2 = encS xs ∧ a.2.length ≤ xs.length ∧ ∀ x ∈ a.2, x < 2 ^ 60) (fun a => a.2.length) [5, 0] [] ([], xs) ⟨by simp, Nat.le_refl _, hz⟩ ?_
  rintro ⟨out, q⟩ ⟨he, hql, hq⟩ K hK
  simp only at he hql hq
  refine AW.go ?_
  refine AW.cond rfl (fun hc => ?_) (fun hc => ?_)
  · have hne : q ≠ [] := by rintro rfl; simp at hc
    have hqn : q.length ≠ 0 := fun e => hne (List.length_eq_zero_iff.1 e)
    have hq64 : ∀ x ∈ q, x < 2 ^ 64 := fun x h => Nat.lt_trans (hq x h) (by omega)
    have holn : out.length + (encS q).length = (encS xs).length := by rw [← he]; simp
    have hlast := fitS_last hne hq
    refine AW.go ?_
    refine AW.loopS (fun s : Nat => ⟨69, [(6, .pv (.int .i64 s)), (5, .own 5 (bytes out)), (0, .pv (.sl 1 (u64s q)))], []⟩) (fun s => s < 16 ∧ ∀ t, t < s → fitS q t = false) (fun s => 16 - s) [6, 5, 0] [] 0 ⟨by omega, fun t ht => by omega⟩ ?_
    rintro s ⟨hs, hno⟩ K2 hK2
    refine AW.go ?_
    refine AW.callE (fun _ => 0) (refFits60_fn q s hs (by omega) hq64) (.pv _ (.pv _ .nil)) ?_
    refine AW.go ?_
    refine AW.cond rfl (fun hc2 => ?_) (fun hc2 => ?_)
    · have hf : fitS q s = false := by simpa using hc2
      have hs15 : s ≠ 15 := by rintro rfl; rw [hlast] at hf; cases hf
      have ei : IntKind.i64.wrap ((s : Int) + 1) = ((s + 1 : Nat) : Int) := wrap_i64_succ (by omega)
      refine AW.go ?_ (by simp only [go_sem, ↓reduceIte, ei] <;> rfl)
      refine AW.again hK2 (s + 1) ⟨by omega, fun t ht => ?_⟩ (by omega)
      rcases Nat.lt_or_ge t s with h | h
      · exact hno t h
      · rw [show t = s by omega]; exact hf
    have hf : fitS q s = true := by simpa using hc2
    clear hK2
    have hp := fstS_eq hs hno hf
    have h1 := encS_cons hne
    rw [hp] at h1
    have hen : out ++ beB (wordS q s) 8 ++ encS (q.drop (cn s)) = encS xs := by rw [List.append_assoc, ← h1, he]
    have hln : (out ++ beB (wordS q s) 8).length ≤ 2 ^ 30 := by
      have := congrArg List.length h1
      rw [List.length_append] at this
      rw [List.length_append]
      omega
    obtain ⟨c1, c2, c3, c4⟩ := cw s hs
    obtain ⟨hcl, hfit⟩ := fitS_len hf
    have hwl := (wordS_lt hs hf).2
    have e1 : IntKind.u64.wrap (s : Int) = (s : Int) := wrap_u64_lt (by omega)
    have e2 : shlI .u64 (s : Int) 60 = ((s * 2 ^ 60 : Nat) : Int) := shl_add (a := s) (w := 60) (by omega) (by omega)
    have hwd : wordS q s = topB 0 (wn s) s (q.take (cn s)) (cn s) := by
      unfold wordS topB
      rw [List.take_take, Nat.min_self]
    have h2 : out.length + (beB (wordS q s) 8).length ≤ room := by rw [← List.length_append]; omega
    rw [hwd] at hen hln hwl h2
    have htl : (q.take (cn s)).length = cn s := by simp; omega
    have htg : ∀ j, j < cn s → (q.take (cn s))[j]? = q[j]? := fun j h => List.getElem?_take_of_lt h
    have ht0 := topB_zero (wn s) s (q.take (cn s))
    generalize hqt : q.take (cn s) = qt at *
    refine AW.go ?_
    refine AW.callE (fun _ => 0) (refRoom_fn s hs) (.pv _ .nil) ?_
    generalize cn s = c at *
    generalize wn s = w at *
    refine AW.go ?_ (by simp only [go_sem, ↓reduceIte, e1, e2, ← ht0] <;> rfl)
    refine AW.loopS (fun j : Nat => ⟨69, [(10, .pv (.int .i64 j)), (9, .pv (.int .u64 (topB 0 w s qt j : Nat))), (8, .pv (.int .i64 w)), (7, .pv (.int .i64 c)), (5, .own 5 (bytes out)), (0, .pv (.sl 1 (u64s q)))], []⟩) (fun j => j ≤ c) (fun j => c - j) [10, 9, 8, 7, 5, 0] [] 0 (Nat.zero_le _) ?_
    rintro j hj K3 hK3
    refine AW.go ?_
    refine AW.cond rfl (fun hc3 => ?_) (fun hc3 => ?_)
    · have hjc : j < c := by simpa using hc3
      have hjq : j < q.length := by omega
      have hm : (j + 1) * w ≤ c * w := Nat.mul_le_mul_right _ hjc
      obtain ⟨t1, t2⟩ := topB_or (w := w) (s := s) (i := j) (q := qt) (by omega) (by omega) hs hfit
      have hqj : qt[j]'(by omega) = q[j] := by
        have := htg j hjc
        rw [List.getElem?_eq_getElem (by omega), List.getElem?_eq_getElem hjq] at this
        exact Option.some.inj this
      rw [hqj] at t1 t2
      have hget := u64s_get hjq
      generalize q[j] = x at *
      have ei : IntKind.i64.wrap ((j : Int) + 1) = ((j + 1 : Nat) : Int) := wrap_i64_succ (by omega)
      have em : IntKind.i64.wrap (((j + 1) * w : Nat) : Int) = (((j + 1) * w : Nat) : Int) := wrap_i64_nat (by omega)
      have e6 : IntKind.u64.wrap (IntKind.i64.wrap (60 - (((j + 1) * w : Nat) : Int))) = ((60 - (j + 1) * w : Nat) : Int) := by
        rw [wrap_i64_of (by omega) (by omega), show (60 : Int) - (((j + 1) * w : Nat) : Int) = ((60 - (j + 1) * w : Nat) : Int) by omega]; exact wrap_u64_lt (by omega)
      have e7 := shl_add (a := x) (w := 60 - (j + 1) * w) (by omega) t2
      refine AW.go ?_ (by simp only [go_sem, ↓reduceIte, hget, hjq, ei, em, e6, e7, t1] <;> rfl)
      refine AW.again hK3 (j + 1) hjc (by omega)
    · have hjc : j = c := by simp at hc3; omega
      subst hjc
      refine AW.go ?_
      refine AW.callE (fun _ => 0) (refFix_fn (topB 0 w s qt j) 8 hwl (by omega)) (.pv _ (.pv _ .nil)) ?_
      have e : (((q.length : Int) - (j : Nat)).toNat) = q.length - j := by omega
      have e2 : (u64s (q.drop j)).take (q.length - j) = u64s (q.drop j) := List.take_of_length_le (by simp [u64s])
      refine AW.go ?_ (by simp only [go_sem, ↓reduceIte, h2, hcl, e]; rw [← u64s_take, e2] <;> rfl)
      refine AW.again hK (out ++ beB (topB 0 w s qt j) 8, q.drop j) ⟨hen, by simp only [List.length_drop]; omega, fun x hx' => hq x (List.mem_of_mem_drop hx')⟩ (by simp only [List.length_drop]; omega)
  · have hqe : q = [] := by
      cases q with
      | nil => rfl
      | cons a r => simp at hc
    subst hqe
    rw [encS_nil, List.append_nil] at he
    rw [he]
    refine AW.go ?_
    refine AW.finE (.move rfl (.pv _ .nil)) rfl
end Go.Ck

set_option linter.unusedVariables false
set_option maxRecDepth 10000
set_option maxHeartbeats 1000000
namespace Go.Ck
open Go.Proofs

theorem unpack60_fn (v : Nat) (hv : v < 2 ^ 64) : Fn Try.prog 91 [] [.pv (.int .u64 v)] (fun rs H' => rs = [.own 42 (u64s (unS v))] ∧ H' = []) := by
  refine Fn.of_body (fn := Try.f91) (n := 34) (res := [.tmp 2]) (by kernel_rfl) rfl rfl rfl rfl rfl (fun C => ?_)
  have hr : room = 140737488355328 := rfl
  have hs : v / 2 ^ 60 < 16 := by omega
  obtain ⟨c1, c2, c3, c4⟩ := cw _ hs
  have e1 : IntKind.i64.wrap (shrI .u64 (v : Int) 60) = ((v / 2 ^ 60 : Nat) : Int) := by
    have : shrI .u64 (v : Int) 60 = ((v / 2 ^ 60 : Nat) : Int) := shrI_nat .u64 v 60 (by show 60 ≤ 64; omega)
    rw [this]; exact wrap_i64_nat (by omega)
  refine AW.go ?_ (by simp only [go_sem, ↓reduceIte, e1] <;> rfl)
  refine AW.callE (fun _ => 0) (room_fn _ hs) (.pv _ .nil) ?_
  have hvs := valsS_succ v
  have hvl := valsS_len v
  unfold unS
  generalize valsS v = f at *
  generalize cn (v / 2 ^ 60) = c at *
  generalize wn (v / 2 ^ 60) = w at *
  refine AW.go ?_
  refine AW.loopS (fun i : Nat => ⟨34, [(15, .pv (.int .i64 i)), (14, .pv (.int .i64 c)), (5, .own 42 (u64s (f i))), (4, .pv (.int .i64 w)), (0, .pv (.int .u64 v))], []⟩) (fun i => i ≤ c) (fun i => c - i) [15, 14, 5, 4, 0] [] 0 (Nat.zero_le _) ?_ (by simp only [go_sem, ↓reduceIte]) (by simp only [go_sem, ↓reduceIte, List.length_eq_zero_iff.1 (hvl 0)] <;> rfl)
  rintro i hi K hK
  refine AW.go ?_
  refine AW.cond rfl (fun hc => ?_) (fun hc => ?_)
  · have hic : i < c := by simpa using hc
    have hm : (i + 1) * w ≤ c * w := Nat.mul_le_mul_right _ hic
    have ei : IntKind.i64.wrap ((i : Int) + 1) = ((i + 1 : Nat) : Int) := wrap_i64_succ (by omega)
    have em : IntKind.i64.wrap (((i + 1) * w : Nat) : Int) = (((i + 1) * w : Nat) : Int) := wrap_i64_nat (by omega)
    have e6 : IntKind.i64.wrap (60 - (((i + 1) * w : Nat) : Int)) = ((60 - (i + 1) * w : Nat) : Int) := by rw [wrap_i64_of (by omega) (by omega)]; omega
    have es : shrI .u64 (v : Int) ((60 - (i + 1) * w : Nat) : Int) = ((v / 2 ^ (60 - (i + 1) * w) : Nat) : Int) := shrI_nat .u64 v _ (by show 60 - (i + 1) * w ≤ 64; omega)
    have hsn := hvs i
    have hlt : v / 2 ^ (60 - (i + 1) * w) < 2 ^ 64 := Nat.lt_of_le_of_lt (Nat.div_le_self _ _) hv
    obtain ⟨m1, m2, m3⟩ := mask_low (w := w) hlt c3
    generalize v / 2 ^ (60 - (i + 1) * w) = y at *
    generalize y % 2 ^ w = z at *
    generalize hp1 : 2 ^ w - 1 = p1 at *
    generalize 2 ^ w = p at *
    have hfl := hvl i
    have h1 : (i + 1) * 8 ≤ room := by omega
    have h2 : i + 1 ≤ room := by omega
    refine AW.go ?_
    refine AW.any0 mixed ?_
    refine AW.takes (fuel := 3) [0, 1, 2, 4, 8, 3, 9, 5, 10, 6, 7, 11] ?_ (by simp only [go_sem, ↓reduceIte, ei, em, e6, es, m1, m2, m3] <;> rfl) Ends.noPanic (listed' := #[true, true, true, true, true, true, true, true, true, true, true, true, false, false, false]) (by decide +kernel) (by decide +kernel)
    refine AW.seqs (fuel := 0) (listed' := #[true, true, true, true, true, true, true, true, true, true, true, true, true, true, true]) [12, 13, 14] ?_ (by decide +kernel)
    refine AW.go ?_ (by simp only [go_sem, ↓reduceIte, hfl, u64s_one, h1, h2, ← hsn] <;> rfl)
    refine AW.anyDone (by decide +kernel) ?_
    refine AW.go ?_ (by simp only [go_sem, ↓reduceIte, ei] <;> rfl)
    refine AW.again hK (i + 1) hic (by omega)
  · have hic : i = c := by simp at hc; omega
    subst hic
    refine AW.go ?_
    refine AW.finE (.move rfl .nil) rfl

theorem written_fn (l acc : List Nat) (ha : acc.length ≤ 65536) (hx : ∀ x ∈ acc, x < 2 ^ 60) (hb : ∀ x ∈ l, x < 256) : Fn Try.prog 92 [] [.pv (.sl 1 (bytes l)), .pv (.sl 1 (u64s acc))] (fun rs H' => rs = [.pv (.bool (decide (encS acc = l)))] ∧ H' = []) := by
  refine Fn.of_body (fn := Try.f92) (n := 21) (res := [.tmp 4]) (by kernel_rfl) rfl rfl rfl rfl rfl (fun C => ?_)
  have he : encSW acc = (encS acc, 0) := by unfold encSW; rw [if_neg (by rw [big60_false hx]; exact Bool.noConfusion)]
  have hE := simpleEnc_fn acc ha (fun x h => Nat.lt_trans (hx x h) (by omega))
  rw [he] at hE
  have e := ofNums_eq (encS_byte acc.length acc (Nat.le_refl _)) hb
  refine AW.go ?_
  refine AW.callE (fun _ => 0) hE (.pv _ .nil) ?_
  refine AW.gg ?_ (by simp only [go_sem, ↓reduceIte, numsOf_bytes, e] <;> rfl)
  refine AW.finE (.pv _ .nil) rfl

theorem simpleDec_fn (l : List Nat) (n : Nat) (hn : n ≤ 65536) (hl : l.length ≤ 2 ^ 40) (hb : ∀ x ∈ l, x < 256) : Fn Try.prog 77 [] [.pv (.sl 1 (bytes l)), .pv (.int .i64 n)]
    (fun rs H' => rs = [.own 42 (u64s (decS l n).1), .pv (.int .i64 (decS l n).2)] ∧ H' = []) := by
  refine Fn.of_body (fn := Try.f77) (n := 49) (res := [.tmp 4, .tmp 5]) (by kernel_rfl) rfl rfl rfl rfl rfl (fun C => ?_)
  have hr : room = 140737488355328 := rfl
  refine AW.gg ?_
  refine AW.condF (by simp only [go_sem, ↓reduceIte]; congr 3; simp; omega) ?_
  refine AW.go ?_
  refine AW.callE (fun o => if o = 7 then 17 else 0) (curNew_fn l (by omega)) (.pv _ .nil) ?_
  refine AW.go ?_
  unfold decS
  refine AW.loopS (fun a : List Nat × List Nat => ⟨49, [(7, .own 42 (u64s a.1)), (6, .ptr 17 0), (1, .pv (.int .i64 n)), (0, .pv (.sl 1 (bytes l)))], [(17, .cells 66 [.pv (.sl 1 (bytes a.2))])]⟩) (fun a => rdS n a.1 a.2 = rdS n [] l ∧ (∀ x ∈ a.1, x < 2 ^ 60) ∧ (∀ x ∈ a.2, x < 256) ∧ a.1.length ≤ n + 240 ∧ a.2.length ≤ l.length) (fun a => a.2.length) [7, 6, 1, 0] [17] ([], l) ⟨rfl, by simp, hb, by simp, Nat.le_refl _⟩ ?_
  rintro ⟨acc, q⟩ ⟨hrd, hacc, hq, hal, hql⟩ K hK
  simp only at hrd hacc hq hal hql
  rw [← hrd] at hK ⊢
  refine AW.go ?_
  refine AW.cond rfl (fun hc => ?_) (fun hc => ?_)
  · have hlt : acc.length < n := by simpa using hc
    refine AW.go ?_
    refine AW.callE (fun _ => 17) (curFixed_fn q 8 (by omega) (by omega) hq) (.ptr rfl (.pv _ .nil)) ?_
    refine AW.go ?_
    by_cases h8 : 8 ≤ q.length
    · simp only [if_pos h8]
      have hst := rdS_step hlt (show ¬ q.length < 8 by omega)
      have hwl := be8_lt q hq
      generalize beN (q.take 8) = v at *
      have hul : (unS v).length ≤ 240 := by unfold unS; rw [valsS_len]; exact (cw _ (by omega)).2.1
      refine AW.condF rfl ?_
      refine AW.go ?_
      refine AW.callE (fun _ => 0) (unpack60_fn v hwl) (.pv _ .nil) ?_
      have h1 : (acc.length + (unS v).length) * 8 ≤ room := by omega
      have h2 : acc.length + (unS v).length ≤ room := by omega
      refine AW.go ?_ (by simp only [go_sem, ↓reduceIte, h1, h2] <;> rfl)
      refine AW.again hK (acc ++ unS v, q.drop 8) ⟨by rw [← hst], ?_, fun x hx => hq x (List.mem_of_mem_drop hx), by simp only [List.length_append]; omega, by simp only [List.length_drop]; omega⟩ (by simp only [List.length_drop]; omega)
      intro x hx
      rcases List.mem_append.1 hx with hx | hx
      · exact hacc x hx
      · exact unS_lt hwl x hx
    · simp only [if_neg h8]
      rw [rdS_short hlt (by omega)]
      refine AW.condT rfl ?_
      refine AW.go ?_
      refine AW.finE (.move rfl (.pv _ .nil)) rfl
  have hge : ¬ acc.length < n := by simpa using hc
  rw [rdS_end hge]
  simp only [ne_eq, not_true_eq_false, if_false]
  clear hK hc
  by_cases hgt : n < acc.length
  · have d1 : decide (n < acc.length) = true := decide_eq_true hgt
    rw [if_pos hgt]
    refine AW.gg ?_ (by simp only [go_sem, ↓reduceIte, d1] <;> rfl)
    refine AW.condT rfl ?_
    refine AW.go ?_
    refine AW.finE (.move rfl (.pv _ .nil)) rfl
  have d1 : decide (n < acc.length) = false := decide_eq_false hgt
  rw [if_neg hgt]
  refine AW.gg ?_ (by simp only [go_sem, ↓reduceIte, d1] <;> rfl)
  refine AW.guardT rfl rfl ?_
  refine AW.callE (fun _ => 17) (curEnd_fn q) (.ptr rfl .nil) ?_
  by_cases hqe : q = []
  · subst hqe
    simp only [not_true_eq_false, if_false, if_true]
    refine AW.gg ?_
    refine AW.guardT rfl rfl ?_
    refine AW.callE (fun _ => 0) (written_fn l acc (by omega) hacc hb) (.pv _ (.lend rfl co_42 .nil)) ?_
    by_cases hw : encS acc = l
    · rw [decide_eq_true hw, if_pos hw]
      refine AW.gg ?_
      refine AW.condF rfl ?_
      refine AW.go ?_
      refine AW.finE (.move rfl (.pv _ .nil)) rfl
    · rw [decide_eq_false hw, if_neg hw]
      refine AW.gg ?_
      refine AW.condT rfl ?_
      refine AW.go ?_
      refine AW.finE (.move rfl (.pv _ .nil)) rfl
  · simp only [if_neg hqe, hqe, not_false_eq_true, if_true]
    refine AW.gg ?_
    refine AW.condT rfl ?_
    refine AW.go ?_
    refine AW.finE (.move rfl (.pv _ .nil)) rfl

theorem refSimpleDec_fn (l : List Nat) (n : Nat) (hn : n ≤ 65536) (hl : l.length ≤ 2 ^ 40) (hb : ∀ x ∈ l, x < 256) : Fn Try.prog 60 [] [.pv (.sl 1 (bytes l)), .pv (.int .i64 n)]
    (fun rs H' => rs = [.own 42 (u64s (decS l n).1), .pv (.int .i64 (decS l n).2)] ∧ H' = []) := by
  refine Fn.of_body (fn := Try.f60) (n := 84) (res := [.tmp 4, .tmp 5]) (by kernel_rfl) rfl rfl rfl rfl rfl (fun C => ?_)
  have hr : room = 140737488355328 := rfl
  refine AW.gg ?_
  refine AW.condF (by simp only [go_sem, ↓reduceIte]; congr 3; simp; omega) ?_
  refine AW.go ?_
  unfold decS
  refine AW.loopS (fun a : List Nat × List Nat => ⟨84, [(6, .own 42 (u64s a.1)), (7, .pv (.sl 1 (bytes a.2))), (1, .pv (.int .i64 n)), (0, .pv (.sl 1 (bytes l)))], []⟩) (fun a => rdS n a.1 a.2 = rdS n [] l ∧ (∀ x ∈ a.1, x < 2 ^ 60) ∧ (∀ x ∈ a.2, x < 256) ∧ a.1.length ≤ n + 240 ∧ a.2.length ≤ l.length) (fun a => a.2.length) [6, 7, 1, 0] [] ([], l) ⟨rfl, by simp, hb, by simp, Nat.le_refl _⟩ ?_
  rintro ⟨acc, q⟩ ⟨hrd, hacc, hq, hal, hql⟩ K hK
  simp only at hrd hacc hq hal hql
  rw [← hrd] at hK ⊢
  refine AW.go ?_
  refine AW.cond rfl (fun hc => ?_) (fun hc => ?_)
  · have hlt : acc.length < n := by simpa using hc
    refine AW.go ?_
    refine AW.callE (fun _ => 0) (refFixed_fn q 8 (by omega) (by omega) hq) (.pv _ (.pv _ .nil)) ?_
    refine AW.go ?_
    by_cases h8 : 8 ≤ q.length
    · simp only [if_pos h8]
      have hst := rdS_step hlt (show ¬ q.length < 8 by omega)
      have hwl := be8_lt q hq
      generalize beN (q.take 8) = v at *
      have hul : (unS v).length ≤ 240 := by unfold unS; rw [valsS_len]; exact (cw _ (by omega)).2.1
      refine AW.condF rfl ?_
      have hs : v / 2 ^ 60 < 16 := by omega
      obtain ⟨c1, c2, c3, c4⟩ := cw _ hs
      have e1 : IntKind.i64.wrap (shrI .u64 (v : Int) 60) = ((v / 2 ^ 60 : Nat) : Int) := by
        have : shrI .u64 (v : Int) 60 = ((v / 2 ^ 60 : Nat) : Int) := shrI_nat .u64 v 60 (by show 60 ≤ 64; omega)
        rw [this]; exact wrap_i64_nat (by omega)
      refine AW.go ?_ (by simp only [go_sem, ↓reduceIte, e1] <;> rfl)
      refine AW.callE (fun _ => 0) (refRoom_fn _ hs) (.pv _ .nil) ?_
      have hvs := valsS_succ v
      have hvl := valsS_len v
      have hule := unS_lt hwl
      unfold unS at hst hul hule
      have hv0 := List.length_eq_zero_iff.1 (hvl 0)
      generalize valsS v = f at *
      generalize cn (v / 2 ^ 60) = c at *
      generalize wn (v / 2 ^ 60) = w at *
      refine AW.go ?_
      refine AW.loopS (fun i : Nat => ⟨84, [(13, .pv (.int .i64 i)), (11, .pv (.int .i64 c)), (12, .pv (.int .i64 w)), (8, .pv (.int .u64 v)), (6, .own 42 (u64s (acc ++ f i))), (7, .pv (.sl 1 (bytes (q.drop 8)))), (1, .pv (.int .i64 n)), (0, .pv (.sl 1 (bytes l)))], []⟩) (fun i => i ≤ c) (fun i => c - i) [13, 11, 12, 8, 6, 7, 1, 0] [] 0 (Nat.zero_le _) ?_ (by simp only [go_sem, ↓reduceIte]) (by simp only [go_sem, ↓reduceIte, hv0, List.append_nil] <;> rfl)
      rintro i hi K2 hK2
      refine AW.go ?_
      refine AW.cond rfl (fun hc => ?_) (fun hc => ?_)
      · have hic : i < c := by simpa using hc
        have hm : (i + 1) * w ≤ c * w := Nat.mul_le_mul_right _ hic
        have ei : IntKind.i64.wrap ((i : Int) + 1) = ((i + 1 : Nat) : Int) := wrap_i64_succ (by omega)
        have em : IntKind.i64.wrap (((i + 1) * w : Nat) : Int) = (((i + 1) * w : Nat) : Int) := wrap_i64_nat (by omega)
        have e6 : IntKind.u64.wrap (IntKind.i64.wrap (64 - (((i + 1) * w : Nat) : Int))) = ((64 - (i + 1) * w : Nat) : Int) := by
          rw [wrap_i64_of (by omega) (by omega), show (64 : Int) - (((i + 1) * w : Nat) : Int) = ((64 - (i + 1) * w : Nat) : Int) by omega]; exact wrap_u64_lt (by omega)
        have ew : IntKind.u64.wrap ((w : Nat) : Int) = (w : Nat) := wrap_u64_lt (by omega)
        have es4 : shlI .u64 (v : Int) 4 = ((v * 2 ^ 4 % 2 ^ 64 : Nat) : Int) := shlI_nat64 v 4 (by omega)
        have es : shrI .u64 ((v * 2 ^ 4 % 2 ^ 64 : Nat) : Int) ((64 - (i + 1) * w : Nat) : Int) = ((v * 2 ^ 4 % 2 ^ 64 / 2 ^ (64 - (i + 1) * w) : Nat) : Int) := shrI_nat .u64 _ _ (by show 64 - (i + 1) * w ≤ 64; omega)
        have hsn := hvs i
        have hlt4 : v * 2 ^ 4 % 2 ^ 64 / 2 ^ (64 - (i + 1) * w) < 2 ^ 64 := Nat.lt_of_le_of_lt (Nat.div_le_self _ _) (Nat.mod_lt _ (by omega))
        obtain ⟨m1, m2, m3⟩ := mask_low (w := w) hlt4 c3
        have hsame : v * 2 ^ 4 % 2 ^ 64 / 2 ^ (64 - (i + 1) * w) % 2 ^ w = v / 2 ^ (60 - (i + 1) * w) % 2 ^ w := top4 (show w ≤ (i + 1) * w by rw [Nat.succ_mul]; omega) (by omega)
        rw [hsame] at m3
        generalize v * 2 ^ 4 % 2 ^ 64 / 2 ^ (64 - (i + 1) * w) = y at *
        generalize v * 2 ^ 4 % 2 ^ 64 = v4 at *
        generalize v / 2 ^ (60 - (i + 1) * w) % 2 ^ w = z at *
        generalize hp1 : 2 ^ w - 1 = p1 at *
        generalize 2 ^ w = p at *
        have hfl := hvl i
        have hal2 : (acc ++ f i).length = acc.length + i := by rw [List.length_append, hfl]
        have h1 : (acc.length + i + 1) * 8 ≤ room := by omega
        have h2 : acc.length + i + 1 ≤ room := by omega
        have hap : acc ++ f i ++ [z] = acc ++ f (i + 1) := by rw [hsn, List.append_assoc]
        refine AW.go ?_ (by simp only [go_sem, ↓reduceIte, ei, em, e6, ew, es4, es, m1, m2, m3, hal2, u64s_one, h1, h2, hap] <;> rfl)
        refine AW.again hK2 (i + 1) hic (by omega)
      · have hic : i = c := by simp at hc; omega
        subst hic
        refine AW.go ?_
        refine AW.again hK (acc ++ f i, q.drop 8) ⟨by rw [← hst], ?_, fun x hx => hq x (List.mem_of_mem_drop hx), by simp only [List.length_append]; omega, by simp only [List.length_drop]; omega⟩ (by simp only [List.length_drop]; omega)
        intro x hx
        rcases List.mem_append.1 hx with hx | hx
        · exact hacc x hx
        · exact hule x hx
    · simp only [if_neg h8]
      rw [rdS_short hlt (by omega)]
      refine AW.condT rfl ?_
      refine AW.go ?_
      refine AW.finE (.move rfl (.pv _ .nil)) rfl
  have hge : ¬ acc.length < n := by simpa using hc
  rw [rdS_end hge]
  simp only [ne_eq, not_true_eq_false, if_false]
  clear hK hc
  by_cases hgt : n < acc.length
  · have d1 : ((acc.length : Int) != (n : Int)) = true := by simp; omega
    rw [if_pos hgt]
    refine AW.gg ?_ (by simp only [go_sem, ↓reduceIte, d1] <;> rfl)
    refine AW.condT rfl ?_
    refine AW.go ?_
    refine AW.finE (.move rfl (.pv _ .nil)) rfl
  have d1 : ((acc.length : Int) != (n : Int)) = false := by simp; omega
  rw [if_neg hgt]
  by_cases hqe : q = []
  · subst hqe
    simp only [not_true_eq_false, if_false]
    refine AW.gg ?_ (by simp only [go_sem, ↓reduceIte, d1] <;> rfl)
    refine AW.condF rfl ?_
    have he : encSW acc = (encS acc, 0) := by unfold encSW; rw [if_neg (by rw [big60_false hacc]; exact Bool.noConfusion)]
    have hE := refSimpleEnc_fn acc (by omega) (fun x h => Nat.lt_trans (hacc x h) (by omega))
    rw [he] at hE
    have hel := encS_len acc.length acc (Nat.le_refl _)
    refine AW.go ?_
    refine AW.callE (fun _ => 0) hE (.lend rfl co_42 .nil) ?_
    refine AW.go ?_
    refine AW.callE (fun _ => 0) (ref01Same_fn (encS acc) l (by omega)) (.lend rfl co_5 (.pv _ .nil)) ?_
    by_cases hw : encS acc = l
    · rw [decide_eq_true hw, if_pos hw]
      refine AW.go ?_
      refine AW.condF rfl ?_
      refine AW.go ?_
      refine AW.finE (.move rfl (.pv _ .nil)) rfl
    · rw [decide_eq_false hw, if_neg hw]
      refine AW.go ?_
      refine AW.condT rfl ?_
      refine AW.go ?_
      refine AW.finE (.move rfl (.pv _ .nil)) rfl
  · have hq0 : 0 < q.length := by cases q with | nil => exact absurd rfl hqe | cons a r => simp
    have d2 : decide (0 < q.length) = true := decide_eq_true hq0
    have d2i : decide ((q.length : Int) > 0) = true := decide_eq_true (by omega)
    simp only [hqe, not_false_eq_true, if_true]
    refine AW.gg ?_ (by simp only [go_sem, ↓reduceIte, d1, d2, d2i] <;> rfl)
    refine AW.condT rfl ?_
    refine AW.go ?_
    refine AW.finE (.move rfl (.pv _ .nil)) rfl
end Go.Ck

set_option linter.unusedVariables false
/-! Runs. -/
namespace Go.Ck
def encRn (k : Nat) : List Nat → List Nat
  | [] => []
  | [x] => leb x ++ leb k
  | x :: y :: r => if y = x then encRn (k + 1) (y :: r) else leb x ++ leb k ++ encRn 0 (y :: r)
theorem encRn_nil (k : Nat) : encRn k [] = [] := rfl
theorem encRn_one (k x : Nat) : encRn k [x] = leb x ++ leb k := rfl
theorem encRn_same (k x : Nat) (r : List Nat) : encRn k (x :: x :: r) = encRn (k + 1) (x :: r) := by rw [encRn, if_pos rfl]
theorem encRn_diff {k x y : Nat} (h : y ≠ x) (r : List Nat) : encRn k (x :: y :: r) = leb x ++ leb k ++ encRn 0 (y :: r) := by rw [encRn, if_neg h]
/-- What stands at the end of a run. -/
theorem encRn_stop {k x : Nat} {r : List Nat} (h : r.head? ≠ some x) : encRn k (x :: r) = leb x ++ leb k ++ encRn 0 r := by
  cases r with
  | nil => rw [encRn_one, encRn_nil, List.append_nil]
  | cons y r => exact encRn_diff (fun e => h (by rw [e]; rfl)) r
theorem encRn_run {x : Nat} {r : List Nat} (h : r.head? ≠ some x) : ∀ (m k : Nat), encRn k (List.replicate (m + 1) x ++ r) = leb x ++ leb (k + m) ++ encRn 0 r
  | 0, k => by
    have e : List.replicate (0 + 1) x ++ r = x :: r := rfl
    rw [e, encRn_stop h, Nat.add_zero]
  | m + 1, k => by
    have e : List.replicate (m + 1 + 1) x ++ r = x :: x :: (List.replicate m x ++ r) := rfl
    have e2 : List.replicate (m + 1) x ++ r = x :: (List.replicate m x ++ r) := rfl
    rw [e, encRn_same, ← e2, encRn_run h m (k + 1)]
    congr 3
    omega
theorem encRn_len : ∀ (l : List Nat) (k : Nat), (∀ x ∈ l, x < 2 ^ 64) → k + l.length ≤ 65536 → (encRn k l).length ≤ 20 * l.length
  | [], k, _, _ => by simp [encRn]
  | [x], k, h, hk => by
    rw [encRn_one, List.length_append]
    have h1 := leb_len10 (h x (by simp))
    have h2 := leb_len10 (v := k) (by omega)
    simp only [List.length_singleton]
    omega
  | x :: y :: r, k, h, hk => by
    simp only [List.length_cons] at hk
    rw [encRn]
    split
    · have := encRn_len (y :: r) (k + 1) (fun z hz => h z (by simp [hz])) (by simp only [List.length_cons]; omega)
      simp only [List.length_cons] at this ⊢
      omega
    · have := encRn_len (y :: r) 0 (fun z hz => h z (by simp [hz])) (by simp only [List.length_cons]; omega)
      have h1 := leb_len10 (h x (by simp))
      have h2 := leb_len10 (v := k) (by omega)
      simp only [List.length_append, List.length_cons] at this ⊢
      omega
theorem encRn_byte : ∀ (l : List Nat) (k : Nat), ∀ x ∈ encRn k l, x < 256
  | [], k => by simp [encRn]
  | [x], k => by
    rw [encRn_one]
    intro z hz
    rcases List.mem_append.1 hz with hz | hz
    · exact leb_byte _ z hz
    · exact leb_byte _ z hz
  | x :: y :: r, k => by
    rw [encRn]
    split
    · exact encRn_byte (y :: r) (k + 1)
    · intro z hz
      rcases List.mem_append.1 hz with hz | hz
      · rcases List.mem_append.1 hz with hz | hz
        · exact leb_byte _ z hz
        · exact leb_byte _ z hz
      · exact encRn_byte (y :: r) 0 z hz
def badR (n : Nat) (acc : List Nat) (v k : Nat) : Bool := decide (n - acc.length ≤ k) || decide (acc.getLast? = some v)
def rdR (n : Nat) (acc l : List Nat) : List Nat × List Nat × Int :=
  if h : acc.length < n then
    if (readV l).2.2 ≠ 0 then ([], [], (readV l).2.2)
    else if (readV (l.drop (readV l).2.1)).2.2 ≠ 0 then ([], [], (readV (l.drop (readV l).2.1)).2.2)
    else if badR n acc (readV l).1 (readV (l.drop (readV l).2.1)).1 = true then ([], [], 3)
    else rdR n (acc ++ List.replicate ((readV (l.drop (readV l).2.1)).1 + 1) (readV l).1) ((l.drop (readV l).2.1).drop (readV (l.drop (readV l).2.1)).2.1)
  else (acc, l, 0)
termination_by n - acc.length
decreasing_by rw [List.length_append, List.length_replicate]; omega
theorem rdR_end {n : Nat} {acc l : List Nat} (h : ¬ acc.length < n) : rdR n acc l = (acc, l, 0) := by rw [rdR, dif_neg h]
theorem rdR_e1 {n : Nat} {acc l : List Nat} (h : acc.length < n) (h1 : (readV l).2.2 ≠ 0) : rdR n acc l = ([], [], (readV l).2.2) := by rw [rdR, dif_pos h, if_pos h1]
theorem rdR_e2 {n : Nat} {acc l : List Nat} (h : acc.length < n) (h1 : ¬ (readV l).2.2 ≠ 0) (h2 : (readV (l.drop (readV l).2.1)).2.2 ≠ 0) : rdR n acc l = ([], [], (readV (l.drop (readV l).2.1)).2.2) := by
  rw [rdR, dif_pos h, if_neg h1, if_pos h2]
theorem rdR_e3 {n : Nat} {acc l : List Nat} (h : acc.length < n) (h1 : ¬ (readV l).2.2 ≠ 0) (h2 : ¬ (readV (l.drop (readV l).2.1)).2.2 ≠ 0) (h3 : badR n acc (readV l).1 (readV (l.drop (readV l).2.1)).1 = true) : rdR n acc l = ([], [], 3) := by
  rw [rdR, dif_pos h, if_neg h1, if_neg h2, if_pos h3]
theorem rdR_step {n : Nat} {acc l : List Nat} (h : acc.length < n) (h1 : ¬ (readV l).2.2 ≠ 0) (h2 : ¬ (readV (l.drop (readV l).2.1)).2.2 ≠ 0) (h3 : ¬ badR n acc (readV l).1 (readV (l.drop (readV l).2.1)).1 = true) :
    rdR n acc l = rdR n (acc ++ List.replicate ((readV (l.drop (readV l).2.1)).1 + 1) (readV l).1) ((l.drop (readV l).2.1).drop (readV (l.drop (readV l).2.1)).2.1) := by
  rw [rdR, dif_pos h, if_neg h1, if_neg h2, if_neg h3]
def decR (l : List Nat) (n : Nat) : List Nat × Int :=
  let r := rdR n [] l
  if r.2.2 ≠ 0 then ([], r.2.2) else if r.2.1 ≠ [] then ([], 3) else (r.1, 0)
end Go.Ck

set_option linter.unusedVariables false
set_option maxRecDepth 10000
set_option maxHeartbeats 1000000
namespace Go.Ck
open Go.Proofs

theorem runsEnc_fn (xs : List Nat) (hl : xs.length ≤ 65536) (hx : ∀ x ∈ xs, x < 2 ^ 64) : Fn Try.prog 46 [] [.pv (.sl 1 (u64s xs))]
    (fun rs H' => rs = [.own 5 (bytes (encRn 0 xs)), .pv (.int .i64 0)] ∧ H' = []) := by
  refine Fn.of_body (fn := Try.f46) (n := 41) (res := [.tmp 2, .tmp 3]) (by kernel_rfl) rfl rfl rfl rfl rfl (fun C => ?_)
  have hr : room = 140737488355328 := rfl
  have hgt : decide (65536 < xs.length) = false := decide_eq_false (by omega)
  have hgi : decide ((xs.length : Int) > 65536) = false := decide_eq_false (by omega)
  have hel := encRn_len xs 0 hx (by omega)
  refine AW.go ?_ (by simp only [go_sem, ↓reduceIte, hgt, hgi] <;> rfl)
  refine AW.condF rfl ?_
  refine AW.go ?_
  refine AW.loopS (fun a : Nat × Nat × List Nat => ⟨41, [(13, .pv (.int .i64 a.1)), (12, .pv (.int .i64 xs.length)), (11, .pv (.sl 1 (u64s xs))), (5, .pv (.int .u64 a.2.1)), (4, .own 5 (bytes a.2.2)), (0, .pv (.sl 1 (u64s xs)))], []⟩) (fun a => a.1 ≤ xs.length ∧ a.2.1 ≤ a.1 ∧ a.2.2 ++ encRn a.2.1 (xs.drop a.1) = encRn 0 xs) (fun a => xs.length - a.1) [13, 12, 11, 5, 4, 0] [] (0, 0, []) ⟨Nat.zero_le _, Nat.le_refl _, by simp⟩ ?_
  rintro ⟨i, k, out⟩ ⟨hi, hk, he⟩ K hK
  simp only at hi hk he
  have hol : out.length ≤ (encRn 0 xs).length := by rw [← he]; simp
  refine AW.go ?_
  refine AW.cond rfl (fun hc => ?_) (fun hc => ?_)
  · have hlt : i < xs.length := by simpa using hc
    have hget := u64s_get hlt
    have hd := List.drop_eq_getElem_cons hlt
    have hxx := hx _ (List.getElem_mem hlt)
    have ei : IntKind.i64.wrap ((i : Int) + 1) = ((i + 1 : Nat) : Int) := wrap_i64_succ (by omega)
    have ek : IntKind.u64.wrap ((k : Int) + 1) = ((k + 1 : Nat) : Int) := wrap_u64_lt (n := k + 1) (by omega)
    have ha1 : (out ++ leb xs[i]).length ≤ out.length + 10 := by rw [List.length_append]; have := leb_len10 hxx; omega
    by_cases h1 : i + 1 < xs.length
    · have d1 : decide (i + 1 < xs.length) = true := decide_eq_true h1
      have hget1 := u64s_get h1
      have hd1 := List.drop_eq_getElem_cons h1
      rw [hd1] at hd
      generalize xs[i] = x at *
      generalize xs[i + 1] = y at *
      by_cases hxy : y = x
      · have e2 : ((y : Int) == (x : Int)) = true := by simp; omega
        subst hxy
        have e2 : ((y : Int) == (y : Int)) = true := by simp
        rw [hd, encRn_same, ← hd1] at he
        refine AW.gg ?_ (by simp only [go_sem, ↓reduceIte, hget, hget1, ei, d1, h1, e2] <;> rfl)
        refine AW.condT rfl ?_
        refine AW.go ?_ (by simp only [go_sem, ↓reduceIte, ei, ek] <;> rfl)
        refine AW.again hK (i + 1, k + 1, out) ⟨by simp only; omega, by simp only; omega, he⟩ (by simp only; omega)
      · have e2 : ((y : Int) == (x : Int)) = false := by simp; omega
        rw [hd, encRn_diff hxy, ← hd1] at he
        refine AW.gg ?_ (by simp only [go_sem, ↓reduceIte, hget, hget1, ei, d1, h1, e2] <;> rfl)
        refine AW.condF rfl ?_
        refine AW.go ?_
        refine AW.callE (fun _ => 0) (append_fn out x hxx (by omega)) (.lend rfl co_5 (.pv _ .nil)) ?_
        refine AW.go ?_
        refine AW.callE (fun _ => 0) (append_fn (out ++ leb x) k (by omega) (by omega)) (.lend rfl co_5 (.pv _ .nil)) ?_
        refine AW.go ?_ (by simp only [go_sem, ↓reduceIte, ei] <;> rfl)
        refine AW.again hK (i + 1, 0, out ++ leb x ++ leb k) ⟨by simp only; omega, by simp only; omega, by simp only; rw [← he]; simp⟩ (by simp only; omega)
    · have d1 : decide (i + 1 < xs.length) = false := decide_eq_false h1
      rw [show xs.drop (i + 1) = [] from List.drop_eq_nil_of_le (by omega)] at hd
      generalize xs[i] = x at *
      rw [hd, encRn_one] at he
      refine AW.gg ?_ (by simp only [go_sem, ↓reduceIte, hget, ei, d1] <;> rfl)
      refine AW.condF rfl ?_
      refine AW.go ?_
      refine AW.callE (fun _ => 0) (append_fn out x hxx (by omega)) (.lend rfl co_5 (.pv _ .nil)) ?_
      refine AW.go ?_
      refine AW.callE (fun _ => 0) (append_fn (out ++ leb x) k (by omega) (by omega)) (.lend rfl co_5 (.pv _ .nil)) ?_
      refine AW.go ?_ (by simp only [go_sem, ↓reduceIte, ei] <;> rfl)
      refine AW.again hK (i + 1, 0, out ++ leb x ++ leb k) ⟨by simp only; omega, by simp only; omega, by simp only; rw [show xs.drop (i + 1) = [] from List.drop_eq_nil_of_le (by omega), encRn_nil, List.append_nil, ← he]; simp⟩ (by simp only; omega)
  · have hge : xs.length ≤ i := by simp at hc; omega
    rw [List.drop_eq_nil_of_le hge, encRn_nil, List.append_nil] at he
    rw [he]
    refine AW.go ?_
    refine AW.finE (.move rfl (.pv _ .nil)) rfl

theorem refRunsEnc_fn (xs : List Nat) (hl : xs.length ≤ 65536) (hx : ∀ x ∈ xs, x < 2 ^ 64) : Fn Try.prog 50 [] [.pv (.sl 1 (u64s xs))]
    (fun rs H' => rs = [.own 5 (bytes (encRn 0 xs)), .pv (.int .i64 0)] ∧ H' = []) := by
  refine Fn.of_body (fn := Try.f50) (n := 46) (res := [.tmp 2, .tmp 3]) (by kernel_rfl) rfl rfl rfl rfl rfl (fun C => ?_)
  have hr : room = 140737488355328 := rfl
  have hgt : decide (65536 < xs.length) = false := decide_eq_false (by omega)
  have hgi : decide ((xs.length : Int) > 65536) = false := decide_eq_false (by omega)
  have hel := encRn_len xs 0 hx (by omega)
  refine AW.go ?_ (by simp only [go_sem, ↓reduceIte, hgt, hgi] <;> rfl)
  refine AW.condF rfl ?_
  refine AW.go ?_
  refine AW.loopS (fun a : Nat × List Nat => ⟨46, [(5, .pv (.int .i64 a.1)), (4, .own 5 (bytes a.2)), (0, .pv (.sl 1 (u64s xs)))], []⟩) (fun a => a.1 ≤ xs.length ∧ a.2 ++ encRn 0 (xs.drop a.1) = encRn 0 xs) (fun a => xs.length - a.1) [5, 4, 0] [] (0, []) ⟨Nat.zero_le _, by simp⟩ ?_
  rintro ⟨i, out⟩ ⟨hi, he⟩ K hK
  simp only at hi he
  have hol : out.length ≤ (encRn 0 xs).length := by rw [← he]; simp
  refine AW.go ?_
  refine AW.cond rfl (fun hc => ?_) (fun hc => ?_)
  · have hlt : i < xs.length := by simpa using hc
    have hget := u64s_get hlt
    have hxx := hx _ (List.getElem_mem hlt)
    have hxi : xs[i]? = some xs[i] := List.getElem?_eq_getElem hlt
    generalize xs[i] = x at *
    have ha1 : (out ++ leb x).length ≤ out.length + 10 := by rw [List.length_append]; have := leb_len10 hxx; omega
    refine AW.go ?_
    refine AW.loopS (fun j : Nat => ⟨46, [(6, .pv (.int .i64 j)), (5, .pv (.int .i64 i)), (4, .own 5 (bytes out)), (0, .pv (.sl 1 (u64s xs)))], []⟩) (fun j => i ≤ j ∧ j ≤ xs.length ∧ xs.drop i = List.replicate (j - i) x ++ xs.drop j) (fun j => xs.length - j) [6, 5, 4, 0] [] i ⟨Nat.le_refl _, hi, by simp⟩ ?_
    rintro j ⟨hij, hj, hdr⟩ K2 hK2
    have hfin : (xs.drop j).head? ≠ some x → i < j ∧ out ++ leb x ++ leb (j - i - 1) ++ encRn 0 (xs.drop j) = encRn 0 xs := by
      intro h
      have hlt2 : i < j := by
        rcases Nat.lt_or_ge i j with h2 | h2
        · exact h2
        · exfalso
          have : j = i := by omega
          subst this
          apply h
          rw [List.head?_drop, hxi]
      refine ⟨hlt2, ?_⟩
      obtain ⟨m, hm⟩ : ∃ m, j - i = m + 1 := ⟨j - i - 1, by omega⟩
      rw [hm] at hdr
      rw [hdr, encRn_run h m 0, Nat.zero_add] at he
      rw [hm, Nat.add_sub_cancel, ← he]; simp
    have ej : IntKind.i64.wrap ((j : Int) + 1) = ((j + 1 : Nat) : Int) := wrap_i64_succ (by omega)
    have fin : ∀ (h : (xs.drop j).head? ≠ some x), IntKind.u64.wrap (IntKind.i64.wrap (IntKind.i64.wrap ((j : Int) - (i : Int)) - 1)) = ((j - i - 1 : Nat) : Int) := by
      intro h
      have := (hfin h).1
      rw [wrap_i64_of (n := (j : Int) - (i : Int)) (by omega) (by omega), wrap_i64_of (by omega) (by omega), show (j : Int) - (i : Int) - 1 = ((j - i - 1 : Nat) : Int) by omega]
      exact wrap_u64_lt (by omega)
    refine AW.go ?_
    by_cases hjl : j < xs.length
    · have d1 : decide (j < xs.length) = true := decide_eq_true hjl
      have hgetj := u64s_get hjl
      have hdj := List.drop_eq_getElem_cons hjl
      generalize xs[j] = y at *
      by_cases hxy : y = x
      · subst hxy
        have e2 : ((y : Int) == (y : Int)) = true := by simp
        refine AW.sr mixed (by decide +kernel) ?_ (by simp only [go_sem, ↓reduceIte, hget, hgetj, d1, hjl, hlt, e2] <;> rfl)
        refine AW.condT rfl ?_
        refine AW.go ?_ (by simp only [go_sem, ↓reduceIte, ej] <;> rfl)
        refine AW.again hK2 (j + 1) ⟨by omega, by omega, ?_⟩ (by omega)
        rw [hdr, hdj, show j + 1 - i = (j - i) + 1 by omega, List.replicate_succ', List.append_assoc]; rfl
      · have e2 : ((y : Int) == (x : Int)) = false := by simp; omega
        have hh : (xs.drop j).head? ≠ some x := by rw [hdj]; simpa using hxy
        obtain ⟨h3, h4⟩ := hfin hh
        have h5 := fin hh
        clear hK2
        refine AW.sr mixed (by decide +kernel) ?_ (by simp only [go_sem, ↓reduceIte, hget, hgetj, d1, hjl, hlt, e2] <;> rfl)
        refine AW.condF rfl ?_
        refine AW.go ?_ (by simp only [go_sem, ↓reduceIte, hget, hlt] <;> rfl)
        refine AW.callE (fun _ => 0) (refAppend_fn out x hxx (by omega)) (.lend rfl co_5 (.pv _ .nil)) ?_
        refine AW.go ?_ (by simp only [go_sem, ↓reduceIte, h5] <;> rfl)
        refine AW.callE (fun _ => 0) (refAppend_fn (out ++ leb x) (j - i - 1) (by omega) (by omega)) (.lend rfl co_5 (.pv _ .nil)) ?_
        refine AW.go ?_
        refine AW.again hK (j, out ++ leb x ++ leb (j - i - 1)) ⟨hj, h4⟩ (by simp only; omega)
    · have d1 : decide (j < xs.length) = false := decide_eq_false hjl
      have hh : (xs.drop j).head? ≠ some x := by rw [List.drop_eq_nil_of_le (by omega)]; simp
      obtain ⟨h3, h4⟩ := hfin hh
      have h5 := fin hh
      clear hK2
      refine AW.sr mixed (by decide +kernel) ?_ (by simp only [go_sem, ↓reduceIte, d1] <;> rfl)
      refine AW.condF rfl ?_
      refine AW.go ?_ (by simp only [go_sem, ↓reduceIte, hget, hlt] <;> rfl)
      refine AW.callE (fun _ => 0) (refAppend_fn out x hxx (by omega)) (.lend rfl co_5 (.pv _ .nil)) ?_
      refine AW.go ?_ (by simp only [go_sem, ↓reduceIte, h5] <;> rfl)
      refine AW.callE (fun _ => 0) (refAppend_fn (out ++ leb x) (j - i - 1) (by omega) (by omega)) (.lend rfl co_5 (.pv _ .nil)) ?_
      refine AW.go ?_
      refine AW.again hK (j, out ++ leb x ++ leb (j - i - 1)) ⟨hj, h4⟩ (by simp only; omega)
  · have hge : xs.length ≤ i := by simp at hc; omega
    rw [List.drop_eq_nil_of_le hge, encRn_nil, List.append_nil] at he
    rw [he]
    refine AW.go ?_
    refine AW.finE (.move rfl (.pv _ .nil)) rfl
end Go.Ck

set_option linter.unusedVariables false
set_option maxRecDepth 10000
set_option maxHeartbeats 1000000
namespace Go.Ck
open Go.Proofs

theorem runsDec_fn (l : List Nat) (n : Nat) (hn : n ≤ 65536) (hl : l.length ≤ 2 ^ 40) (hb : ∀ x ∈ l, x < 256) : Fn Try.prog 78 [] [.pv (.sl 1 (bytes l)), .pv (.int .i64 n)]
    (fun rs H' => rs = [.own 42 (u64s (decR l n).1), .pv (.int .i64 (decR l n).2)] ∧ H' = []) := by
  refine Fn.of_body (fn := Try.f78) (n := 79) (res := [.tmp 4, .tmp 5]) (by kernel_rfl) rfl rfl rfl rfl rfl (fun C => ?_)
  have hr : room = 140737488355328 := rfl
  refine AW.go ?_
  refine AW.scopeS 0 (fun _ : Unit => ⟨0, [], []⟩) (fun _ => False) (fun _ => 0) [] [] rfl (fun KK hKK => ?_) (fun _ h => h.elim)
  clear hKK
  refine AW.gg ?_
  refine AW.condF (by simp only [go_sem, ↓reduceIte]; congr 3; simp; omega) ?_
  refine AW.go ?_
  refine AW.callE (fun o => if o = 7 then 19 else 0) (curNew_fn l (by omega)) (.pv _ .nil) ?_
  refine AW.go ?_
  unfold decR
  refine AW.loopS (fun a : List Nat × List Nat => ⟨79, [(7, .own 42 (u64s a.1)), (8, .pv (.int .i64 0)), (6, .ptr 19 0), (1, .pv (.int .i64 n))], [(19, .cells 66 [.pv (.sl 1 (bytes a.2))])]⟩) (fun a => rdR n a.1 a.2 = rdR n [] l ∧ (∀ x ∈ a.2, x < 256) ∧ a.1.length ≤ n ∧ a.2.length ≤ l.length) (fun a => n - a.1.length) [7, 8, 6, 1] [19] ([], l) ⟨rfl, hb, Nat.zero_le _, Nat.le_refl _⟩ ?_
  rintro ⟨acc, q⟩ ⟨hrd, hq, hal, hql⟩ K hK
  simp only at hrd hq hal hql
  rw [← hrd] at hK ⊢
  refine AW.go ?_
  refine AW.cond rfl (fun hc => ?_) (fun hc => ?_)
  · have hlt : acc.length < n := by simpa using hc
    have h1 := rdR_e1 hlt (l := q)
    have h2 := rdR_e2 hlt (l := q)
    have h3 := rdR_e3 hlt (l := q)
    have h4 := rdR_step hlt (l := q)
    have hv := readV_lt hq
    have hq2 : ∀ x ∈ q.drop (readV q).2.1, x < 256 := fun x hx => hq x (List.mem_of_mem_drop hx)
    have hl2 : (q.drop (readV q).2.1).length ≤ l.length := by rw [List.length_drop]; omega
    refine AW.go ?_
    refine AW.callE (fun _ => 19) (curVarint_fn q (by omega) hq) (.ptr rfl .nil) ?_
    generalize q.drop (readV q).2.1 = q2 at *
    generalize (readV q).1 = v at *
    generalize (readV q).2.2 = e at *
    refine AW.go ?_
    refine AW.cond rfl (fun hc1 => ?_) (fun hc1 => ?_)
    · have he : e ≠ 0 := by simpa using hc1
      have heb : (e == 0) = false := by simpa using he
      have hen : (e != 0) = true := by simpa using he
      rw [h1 he]
      simp only [if_pos he]
      refine AW.go ?_ (by simp only [go_sem, ↓reduceIte, heb] <;> rfl)
      refine AW.condF rfl ?_
      refine AW.go ?_ (by simp only [go_sem, ↓reduceIte, hen] <;> rfl)
      refine AW.condT rfl ?_
      refine AW.go ?_
      refine AW.finE (.move rfl (.pv _ .nil)) rfl
    have he : ¬ e ≠ 0 := by simpa using hc1
    have h2 := h2 he
    have h3 := h3 he
    have h4 := h4 he
    have hk := readV_lt hq2
    have hq3 : ∀ x ∈ q2.drop (readV q2).2.1, x < 256 := fun x hx => hq2 x (List.mem_of_mem_drop hx)
    have hl3 : (q2.drop (readV q2).2.1).length ≤ l.length := by rw [List.length_drop]; omega
    refine AW.go ?_
    refine AW.callE (fun _ => 19) (curVarint_fn q2 (by omega) hq2) (.ptr rfl .nil) ?_
    generalize q2.drop (readV q2).2.1 = q3 at *
    generalize (readV q2).1 = k at *
    generalize (readV q2).2.2 = e at *
    refine AW.go ?_
    refine AW.cond rfl (fun hc2 => ?_) (fun hc2 => ?_)
    · have he : e ≠ 0 := by simpa using hc2
      have heb : (e == 0) = false := by simpa using he
      have hen : (e != 0) = true := by simpa using he
      rw [h2 he]
      simp only [if_pos he]
      refine AW.go ?_ (by simp only [go_sem, ↓reduceIte, heb] <;> rfl)
      refine AW.condF rfl ?_
      refine AW.go ?_ (by simp only [go_sem, ↓reduceIte, hen] <;> rfl)
      refine AW.condT rfl ?_
      refine AW.go ?_
      refine AW.finE (.move rfl (.pv _ .nil)) rfl
    have he : ¬ e ≠ 0 := by simpa using hc2
    have h3 := h3 he
    have h4 := h4 he
    have em : IntKind.u64.wrap (IntKind.i64.wrap ((n : Int) - (acc.length : Int))) = ((n - acc.length : Nat) : Int) := by
      rw [wrap_i64_of (by omega) (by omega), show (n : Int) - (acc.length : Int) = ((n - acc.length : Nat) : Int) by omega]; exact wrap_u64_lt (by omega)
    unfold badR at h3 h4
    by_cases hm : n - acc.length ≤ k
    · rw [h3 (by rw [decide_eq_true hm]; rfl)]
      simp only [ne_eq, show ¬ (3 : Int) = 0 by omega, not_false_eq_true, if_true]
      generalize n - acc.length = m at *
      have dN : decide (m ≤ k) = true := decide_eq_true hm
      have dI : decide ((k : Int) ≥ (m : Int)) = true := decide_eq_true (by omega)
      have dJ : decide ((m : Int) ≤ (k : Int)) = true := decide_eq_true (by omega)
      refine AW.gg ?_ (by simp only [go_sem, ↓reduceIte, em, dN, dI, dJ] <;> rfl)
      refine AW.condT rfl ?_
      refine AW.go ?_
      refine AW.condF rfl ?_
      refine AW.go ?_
      refine AW.condT rfl ?_
      refine AW.go ?_
      refine AW.finE (.move rfl (.pv _ .nil)) rfl
    rw [decide_eq_false hm, Bool.false_or] at h3 h4
    have hkn : k < n - acc.length := by omega
    have ek1 : IntKind.u64.wrap ((k : Int) + 1) = ((k + 1 : Nat) : Int) := wrap_u64_lt (n := k + 1) (by omega)
    have dN : ∀ m, m = n - acc.length → decide (m ≤ k) = false := fun m h => decide_eq_false (by omega)
    have dI : ∀ m : Nat, m = n - acc.length → decide ((k : Int) ≥ (m : Int)) = false := fun m h => decide_eq_false (by omega)
    have dJ : ∀ m : Nat, m = n - acc.length → decide ((m : Int) ≤ (k : Int)) = false := fun m h => decide_eq_false (by omega)
    generalize hmm : n - acc.length = m at em hm hkn dN dI dJ
    have dN := dN m rfl
    have dI := dI m rfl
    have dJ := dJ m rfl
    by_cases hbad : acc.getLast? = some v
    · have hne : acc ≠ [] := by rintro rfl; simp at hbad
      have hpos : 0 < acc.length := by cases acc with | nil => exact absurd rfl hne | cons a r => simp
      have d0 : decide (0 < acc.length) = true := decide_eq_true hpos
      have d0i : decide ((acc.length : Int) > 0) = true := decide_eq_true (by omega)
      rw [List.getLast?_eq_getElem?] at hbad
      have hget : (u64s acc)[acc.length - 1]? = some (.int .u64 v) := by rw [u64s, List.getElem?_map, hbad]; rfl
      have e1 : IntKind.i64.wrap ((acc.length : Int) - 1) = ((acc.length - 1 : Nat) : Int) := by rw [wrap_i64_of (by omega) (by omega)]; omega
      have hltl : acc.length - 1 < acc.length := by omega
      have ee : ((v : Int) == (v : Int)) = true := by simp
      rw [h3 (by rw [List.getLast?_eq_getElem?, decide_eq_true hbad])]
      simp only [ne_eq, show ¬ (3 : Int) = 0 by omega, not_false_eq_true, if_true]
      refine AW.gg ?_ (by simp only [go_sem, ↓reduceIte, em, dN, dI, dJ, d0, d0i, e1, hltl, hget, ee] <;> rfl)
      refine AW.condT rfl ?_
      refine AW.go ?_
      refine AW.condF rfl ?_
      refine AW.go ?_
      refine AW.condT rfl ?_
      refine AW.go ?_
      refine AW.finE (.move rfl (.pv _ .nil)) rfl
    have h4 := h4 (by rw [decide_eq_false hbad]; exact Bool.noConfusion)
    refine via (T := ?T1) (fun hT => ?_) ?_
    rotate_left
    · by_cases hne : acc = []
      · have h0 : acc.length = 0 := by rw [hne]; rfl
        have d0 : decide (0 < acc.length) = false := decide_eq_false (by omega)
        have d0i : decide ((acc.length : Int) > 0) = false := decide_eq_false (by omega)
        refine AW.gg ?_ (by simp only [go_sem, ↓reduceIte, em, dN, dI, dJ, d0, d0i] <;> rfl)
        refine AW.condF rfl ?_
        refine AW.go ?_ (by simp only [go_sem, ↓reduceIte, ek1] <;> rfl)
        refine AW.keepB [64, 7, 8, 6, 1, 9, 63] [19] (by simp only [go_sem, ↓reduceIte]) (by simp only [go_sem, ↓reduceIte] <;> rfl) ?_
        exact hT ()
      · have hpos : 0 < acc.length := by cases acc with | nil => exact absurd rfl hne | cons a r => simp
        have d0 : decide (0 < acc.length) = true := decide_eq_true hpos
        have d0i : decide ((acc.length : Int) > 0) = true := decide_eq_true (by omega)
        have hltl : acc.length - 1 < acc.length := by omega
        rw [List.getLast?_eq_getElem?, List.getElem?_eq_getElem hltl] at hbad
        have hget := u64s_get hltl
        have e1 : IntKind.i64.wrap ((acc.length : Int) - 1) = ((acc.length - 1 : Nat) : Int) := by rw [wrap_i64_of (by omega) (by omega)]; omega
        generalize acc[acc.length - 1] = z at *
        have ee : ((z : Int) == (v : Int)) = false := by
          have : z ≠ v := fun h => hbad (by rw [h])
          simp; omega
        refine AW.gg ?_ (by simp only [go_sem, ↓reduceIte, em, dN, dI, dJ, d0, d0i, e1, hltl, hget, ee] <;> rfl)
        refine AW.condF rfl ?_
        refine AW.go ?_ (by simp only [go_sem, ↓reduceIte, ek1] <;> rfl)
        refine AW.keepB [64, 7, 8, 6, 1, 9, 63] [19] (by simp only [go_sem, ↓reduceIte]) (by simp only [go_sem, ↓reduceIte] <;> rfl) ?_
        exact hT ()
    refine AW.loopS (fun j : Nat => ⟨79, [(64, .pv (.int .u64 j)), (63, .pv (.int .u64 (k + 1 : Nat))), (9, .pv (.int .u64 v)), (7, .own 42 (u64s (acc ++ List.replicate j v))), (8, .pv (.int .i64 0)), (6, .ptr 19 0), (1, .pv (.int .i64 n))], [(19, .cells 66 [.pv (.sl 1 (bytes q3))])]⟩) (fun j => j ≤ k + 1) (fun j => k + 1 - j) [64, 63, 9, 7, 8, 6, 1] [19] 0 (Nat.zero_le _) ?_ (by simp only [go_sem, ↓reduceIte]) (by simp only [go_sem, ↓reduceIte, List.replicate_zero, List.append_nil] <;> rfl)
    rintro j hj K2 hK2
    have hrl : (acc ++ List.replicate j v).length = acc.length + j := by simp
    have hrs : acc ++ List.replicate j v ++ [v] = acc ++ List.replicate (j + 1) v := by rw [List.replicate_succ', List.append_assoc]
    generalize hA : acc ++ List.replicate j v = A at *
    refine AW.go ?_
    refine AW.cond rfl (fun hc3 => ?_) (fun hc3 => ?_)
    · have hjk : j < k + 1 := by simpa using hc3
      have ej : IntKind.u64.wrap ((j : Int) + 1) = ((j + 1 : Nat) : Int) := wrap_u64_lt (n := j + 1) (by omega)
      have r1 : (acc.length + j + 1) * 8 ≤ room := by omega
      have r2 : acc.length + j + 1 ≤ room := by omega
      generalize hB : acc ++ List.replicate (j + 1) v = B' at *
      refine AW.go ?_ (by simp only [go_sem, ↓reduceIte, hrl, u64s_one, r1, r2, hrs, ej] <;> rfl)
      refine AW.again hK2 (j + 1) hjk (by omega) (by simp only [go_sem, ↓reduceIte]) (by rw [hB]; simp only [go_sem, ↓reduceIte] <;> rfl)
    · have hjk : j = k + 1 := by simp at hc3; omega
      subst hjk
      refine AW.go ?_
      refine AW.again hK (A, q3) ⟨by rw [← hA, ← h4], hq3, by simp only [hrl]; omega, hl3⟩ (by simp only [hrl]; omega)
  have hge : ¬ acc.length < n := by simpa using hc
  rw [rdR_end hge]
  simp only [ne_eq, not_true_eq_false, if_false]
  clear hK hc
  refine AW.go ?_
  refine AW.condT rfl ?_
  refine AW.go ?_
  refine AW.callE (fun _ => 19) (curEnd_fn q) (.ptr rfl .nil) ?_
  by_cases hqe : q = []
  · subst hqe
    simp only [not_true_eq_false, if_false, if_true]
    refine AW.go ?_
    refine AW.condF rfl ?_
    refine AW.go ?_
    refine AW.finE (.move rfl (.pv _ .nil)) rfl
  · simp only [if_neg hqe, hqe, not_false_eq_true, if_true]
    refine AW.go ?_
    refine AW.condT rfl ?_
    refine AW.go ?_
    refine AW.finE (.move rfl (.pv _ .nil)) rfl

theorem refRunsDec_fn (l : List Nat) (n : Nat) (hn : n ≤ 65536) (hl : l.length ≤ 2 ^ 40) (hb : ∀ x ∈ l, x < 256) : Fn Try.prog 61 [] [.pv (.sl 1 (bytes l)), .pv (.int .i64 n)]
    (fun rs H' => rs = [.own 42 (u64s (decR l n).1), .pv (.int .i64 (decR l n).2)] ∧ H' = []) := by
  refine Fn.of_body (fn := Try.f61) (n := 78) (res := [.tmp 4, .tmp 5]) (by kernel_rfl) rfl rfl rfl rfl rfl (fun C => ?_)
  have hr : room = 140737488355328 := rfl
  refine AW.gg ?_
  refine AW.condF (by simp only [go_sem, ↓reduceIte]; congr 3; simp; omega) ?_
  refine AW.go ?_
  unfold decR
  refine AW.loopS (fun a : List Nat × List Nat => ⟨78, [(6, .own 42 (u64s a.1)), (0, .pv (.sl 1 (bytes a.2))), (1, .pv (.int .i64 n))], []⟩) (fun a => rdR n a.1 a.2 = rdR n [] l ∧ (∀ x ∈ a.2, x < 256) ∧ a.1.length ≤ n ∧ a.2.length ≤ l.length) (fun a => n - a.1.length) [6, 0, 1] [] ([], l) ⟨rfl, hb, Nat.zero_le _, Nat.le_refl _⟩ ?_
  rintro ⟨acc, q⟩ ⟨hrd, hq, hal, hql⟩ K hK
  simp only at hrd hq hal hql
  rw [← hrd] at hK ⊢
  refine AW.go ?_
  refine AW.cond rfl (fun hc => ?_) (fun hc => ?_)
  · have hlt : acc.length < n := by simpa using hc
    have h1 := rdR_e1 hlt (l := q)
    have h2 := rdR_e2 hlt (l := q)
    have h3 := rdR_e3 hlt (l := q)
    have h4 := rdR_step hlt (l := q)
    have hv := readV_lt hq
    have hq2 : ∀ x ∈ q.drop (readV q).2.1, x < 256 := fun x hx => hq x (List.mem_of_mem_drop hx)
    have hl2 : (q.drop (readV q).2.1).length ≤ l.length := by rw [List.length_drop]; omega
    refine AW.go ?_
    refine AW.callE (fun _ => 0) (refVarint_fn q (by omega) hq) (.pv _ .nil) ?_
    generalize q.drop (readV q).2.1 = q2 at *
    generalize (readV q).1 = v at *
    generalize (readV q).2.2 = e at *
    refine AW.go ?_
    refine AW.cond rfl (fun hc1 => ?_) (fun hc1 => ?_)
    · have he : e ≠ 0 := by simpa using hc1
      rw [h1 he]
      simp only [if_pos he]
      refine AW.go ?_
      refine AW.finE (.move rfl (.pv _ .nil)) rfl
    have he : ¬ e ≠ 0 := by simpa using hc1
    have h2 := h2 he
    have h3 := h3 he
    have h4 := h4 he
    have hk := readV_lt hq2
    have hq3 : ∀ x ∈ q2.drop (readV q2).2.1, x < 256 := fun x hx => hq2 x (List.mem_of_mem_drop hx)
    have hl3 : (q2.drop (readV q2).2.1).length ≤ l.length := by rw [List.length_drop]; omega
    refine AW.go ?_
    refine AW.callE (fun _ => 0) (refVarint_fn q2 (by omega) hq2) (.pv _ .nil) ?_
    generalize q2.drop (readV q2).2.1 = q3 at *
    generalize (readV q2).1 = k at *
    generalize (readV q2).2.2 = e at *
    refine AW.go ?_
    refine AW.cond rfl (fun hc2 => ?_) (fun hc2 => ?_)
    · have he : e ≠ 0 := by simpa using hc2
      rw [h2 he]
      simp only [if_pos he]
      refine AW.go ?_
      refine AW.finE (.move rfl (.pv _ .nil)) rfl
    have he : ¬ e ≠ 0 := by simpa using hc2
    have h3 := h3 he
    have h4 := h4 he
    have em : IntKind.u64.wrap (IntKind.i64.wrap ((n : Int) - (acc.length : Int))) = ((n - acc.length : Nat) : Int) := by
      rw [wrap_i64_of (by omega) (by omega), show (n : Int) - (acc.length : Int) = ((n - acc.length : Nat) : Int) by omega]; exact wrap_u64_lt (by omega)
    unfold badR at h3 h4
    by_cases hm : n - acc.length ≤ k
    · rw [h3 (by rw [decide_eq_true hm]; rfl)]
      simp only [ne_eq, show ¬ (3 : Int) = 0 by omega, not_false_eq_true, if_true]
      generalize n - acc.length = m at *
      have dN : decide (m ≤ k) = true := decide_eq_true hm
      have dI : decide ((k : Int) ≥ (m : Int)) = true := decide_eq_true (by omega)
      have dJ : decide ((m : Int) ≤ (k : Int)) = true := decide_eq_true (by omega)
      refine AW.gg ?_ (by simp only [go_sem, ↓reduceIte, em, dN, dI, dJ] <;> rfl)
      refine AW.condT rfl ?_
      refine AW.go ?_
      refine AW.finE (.move rfl (.pv _ .nil)) rfl
    rw [decide_eq_false hm, Bool.false_or] at h3 h4
    have hkn : k < n - acc.length := by omega
    have dN : ∀ m, m = n - acc.length → decide (m ≤ k) = false := fun m h => decide_eq_false (by omega)
    have dI : ∀ m : Nat, m = n - acc.length → decide ((k : Int) ≥ (m : Int)) = false := fun m h => decide_eq_false (by omega)
    have dJ : ∀ m : Nat, m = n - acc.length → decide ((m : Int) ≤ (k : Int)) = false := fun m h => decide_eq_false (by omega)
    generalize hmm : n - acc.length = m at em hm hkn dN dI dJ
    have dN := dN m rfl
    have dI := dI m rfl
    have dJ := dJ m rfl
    by_cases hbad : acc.getLast? = some v
    · have hne : acc ≠ [] := by rintro rfl; simp at hbad
      have hpos : 0 < acc.length := by cases acc with | nil => exact absurd rfl hne | cons a r => simp
      have d0 : decide (0 < acc.length) = true := decide_eq_true hpos
      have d0i : decide ((acc.length : Int) > 0) = true := decide_eq_true (by omega)
      rw [List.getLast?_eq_getElem?] at hbad
      have hget : (u64s acc)[acc.length - 1]? = some (.int .u64 v) := by rw [u64s, List.getElem?_map, hbad]; rfl
      have e1 : IntKind.i64.wrap ((acc.length : Int) - 1) = ((acc.length - 1 : Nat) : Int) := by rw [wrap_i64_of (by omega) (by omega)]; omega
      have hltl : acc.length - 1 < acc.length := by omega
      have ee : ((v : Int) == (v : Int)) = true := by simp
      rw [h3 (by rw [List.getLast?_eq_getElem?, decide_eq_true hbad])]
      simp only [ne_eq, show ¬ (3 : Int) = 0 by omega, not_false_eq_true, if_true]
      refine AW.gg ?_ (by simp only [go_sem, ↓reduceIte, em, dN, dI, dJ, d0, d0i, e1, hltl, hget, ee] <;> rfl)
      refine AW.condT rfl ?_
      refine AW.go ?_
      refine AW.finE (.move rfl (.pv _ .nil)) rfl
    have h4 := h4 (by rw [decide_eq_false hbad]; exact Bool.noConfusion)
    refine via (T := ?T1) (fun hT => ?_) ?_
    rotate_left
    · by_cases hne : acc = []
      · have h0 : acc.length = 0 := by rw [hne]; rfl
        have d0 : decide (0 < acc.length) = false := decide_eq_false (by omega)
        have d0i : decide ((acc.length : Int) > 0) = false := decide_eq_false (by omega)
        refine AW.gg ?_ (by simp only [go_sem, ↓reduceIte, em, dN, dI, dJ, d0, d0i] <;> rfl)
        refine AW.condF rfl ?_
        refine AW.go ?_
        refine AW.keepB [13, 10, 7, 6, 0, 1] [] (by simp only [go_sem, ↓reduceIte]) (by simp only [go_sem, ↓reduceIte] <;> rfl) ?_
        exact hT ()
      · have hpos : 0 < acc.length := by cases acc with | nil => exact absurd rfl hne | cons a r => simp
        have d0 : decide (0 < acc.length) = true := decide_eq_true hpos
        have d0i : decide ((acc.length : Int) > 0) = true := decide_eq_true (by omega)
        have hltl : acc.length - 1 < acc.length := by omega
        rw [List.getLast?_eq_getElem?, List.getElem?_eq_getElem hltl] at hbad
        have hget := u64s_get hltl
        have e1 : IntKind.i64.wrap ((acc.length : Int) - 1) = ((acc.length - 1 : Nat) : Int) := by rw [wrap_i64_of (by omega) (by omega)]; omega
        generalize acc[acc.length - 1] = z at *
        have ee : ((z : Int) == (v : Int)) = false := by
          have : z ≠ v := fun h => hbad (by rw [h])
          simp; omega
        refine AW.gg ?_ (by simp only [go_sem, ↓reduceIte, em, dN, dI, dJ, d0, d0i, e1, hltl, hget, ee] <;> rfl)
        refine AW.condF rfl ?_
        refine AW.go ?_
        refine AW.keepB [13, 10, 7, 6, 0, 1] [] (by simp only [go_sem, ↓reduceIte]) (by simp only [go_sem, ↓reduceIte] <;> rfl) ?_
        exact hT ()
    refine AW.loopS (fun j : Nat => ⟨78, [(13, .pv (.int .u64 j)), (10, .pv (.int .u64 k)), (7, .pv (.int .u64 v)), (6, .own 42 (u64s (acc ++ List.replicate j v))), (0, .pv (.sl 1 (bytes q3))), (1, .pv (.int .i64 n))], []⟩) (fun j => j ≤ k + 1) (fun j => k + 1 - j) [13, 10, 7, 6, 0, 1] [] 0 (Nat.zero_le _) ?_ (by simp only [go_sem, ↓reduceIte]) (by simp only [go_sem, ↓reduceIte, List.replicate_zero, List.append_nil] <;> rfl)
    rintro j hj K2 hK2
    have hrl : (acc ++ List.replicate j v).length = acc.length + j := by simp
    have hrs : acc ++ List.replicate j v ++ [v] = acc ++ List.replicate (j + 1) v := by rw [List.replicate_succ', List.append_assoc]
    generalize hA : acc ++ List.replicate j v = A at *
    refine AW.go ?_
    refine AW.cond rfl (fun hc3 => ?_) (fun hc3 => ?_)
    · have hjk : j < k + 1 := by simp at hc3; omega
      have ej : IntKind.u64.wrap ((j : Int) + 1) = ((j + 1 : Nat) : Int) := wrap_u64_lt (n := j + 1) (by omega)
      have r1 : (acc.length + j + 1) * 8 ≤ room := by omega
      have r2 : acc.length + j + 1 ≤ room := by omega
      generalize hB : acc ++ List.replicate (j + 1) v = B' at *
      refine AW.go ?_ (by simp only [go_sem, ↓reduceIte, hrl, u64s_one, r1, r2, hrs, ej] <;> rfl)
      refine AW.again hK2 (j + 1) hjk (by omega) (by simp only [go_sem, ↓reduceIte]) (by rw [hB]; simp only [go_sem, ↓reduceIte] <;> rfl)
    · have hjk : j = k + 1 := by simp at hc3; omega
      subst hjk
      refine AW.go ?_
      refine AW.again hK (A, q3) ⟨by rw [← hA, ← h4], hq3, by simp only [hrl]; omega, hl3⟩ (by simp only [hrl]; omega)
  have hge : ¬ acc.length < n := by simpa using hc
  rw [rdR_end hge]
  simp only [ne_eq, not_true_eq_false, if_false]
  clear hK hc
  by_cases hqe : q = []
  · subst hqe
    simp only [not_true_eq_false, if_false]
    refine AW.go ?_
    refine AW.condF rfl ?_
    refine AW.go ?_
    refine AW.finE (.move rfl (.pv _ .nil)) rfl
  · have hq0 : 0 < q.length := by cases q with | nil => exact absurd rfl hqe | cons a r => simp
    have d2 : decide (0 < q.length) = true := decide_eq_true hq0
    have d2i : decide ((q.length : Int) > 0) = true := decide_eq_true (by omega)
    simp only [hqe, not_false_eq_true, if_true]
    refine AW.go ?_ (by simp only [go_sem, ↓reduceIte, d2, d2i] <;> rfl)
    refine AW.condT rfl ?_
    refine AW.go ?_
    refine AW.finE (.move rfl (.pv _ .nil)) rfl
end Go.Ck

set_option linter.unusedVariables false
/-! Ints, packed. -/
namespace Go.Ck
def u64of (n : Int) : Nat := (n % 2 ^ 64).toNat
def i64of (v : Nat) : Int := IntKind.i64.wrap (v : Int)
theorem u64of_wrap (n : Int) : IntKind.u64.wrap n = (u64of n : Int) := by rw [IntKind.wrap_u64]; unfold u64of; omega
theorem u64of_lt (n : Int) : u64of n < 2 ^ 64 := by unfold u64of; omega
theorem i64of_r (v : Nat) : i64r (i64of v) := wrap_i64_r _
theorem i64of_u64of {n : Int} (h : i64r n) : i64of (u64of n) = n := by
  unfold i64r at h
  unfold i64of u64of
  rw [IntKind.wrap_i64]
  omega
theorem u64of_i64of {v : Nat} (h : v < 2 ^ 64) : u64of (i64of v) = v := by
  unfold i64of u64of
  rw [IntKind.wrap_i64]
  omega
def raw8 (xs : List Int) : List Nat := xs.flatMap fun x => beB (u64of x) 8
theorem raw8_len (xs : List Int) : (raw8 xs).length = 8 * xs.length := by
  induction xs with
  | nil => rfl
  | cons a r ih => rw [raw8, List.flatMap_cons, List.length_append, beB_len, ← raw8, ih, List.length_cons]; omega
theorem raw8_snoc (xs : List Int) (x : Int) : raw8 (xs ++ [x]) = raw8 xs ++ beB (u64of x) 8 := by simp [raw8]
def lebs (z : List Nat) : List Nat := z.flatMap leb
theorem lebs_snoc (z : List Nat) (x : Nat) : lebs (z ++ [x]) = lebs z ++ leb x := by simp [lebs]
theorem lebs_cons (x : Nat) (z : List Nat) : lebs (x :: z) = leb x ++ lebs z := by simp [lebs]
theorem lebs_len {z : List Nat} (h : ∀ x ∈ z, x < 2 ^ 64) : (lebs z).length ≤ 10 * z.length := by
  induction z with
  | nil => simp [lebs]
  | cons a r ih =>
    rw [lebs_cons, List.length_append, List.length_cons]
    have := leb_len10 (h a (by simp))
    have := ih (fun x hx => h x (by simp [hx]))
    omega
theorem lebs_byte (z : List Nat) : ∀ x ∈ lebs z, x < 256 := by
  intro x hx
  simp only [lebs, List.mem_flatMap] at hx
  obtain ⟨y, _, hx⟩ := hx
  exact leb_byte y x hx
theorem packF_len {l : List Nat} (h : ∀ x ∈ l, x < 2 ^ 64) (hl : l.length ≤ 65536) : (packF l).length ≤ 2 ^ 20 := by
  have h10 := leb_len10 (lo_lt (by omega) h)
  have hw := wF_le h
  have hm : l.length * wF l ≤ 65536 * 64 := Nat.mul_le_mul hl hw
  unfold packF
  rw [List.length_append, List.length_cons, pk_len, bitsF_len]
  omega
theorem packF_byte {l : List Nat} (h : ∀ x ∈ l, x < 2 ^ 64) : ∀ x ∈ packF l, x < 256 := by
  intro x hx
  unfold packF at hx
  have hw := wF_le h
  rcases List.mem_append.1 hx with hx | hx
  · exact leb_byte _ x hx
  · rcases List.mem_cons.1 hx with rfl | hx
    · omega
    · exact pk_byte _ (bitsF_bit _ _ _) x hx
def tailI (z : List Nat) (t : Nat) : List Nat × Int := if t = 2 then (packF z, 0) else if t = 3 then encSW z else if t = 4 then (encRn 0 z, 0) else (lebs z, 0)
theorem tailI_len {z : List Nat} (t : Nat) (h : ∀ x ∈ z, x < 2 ^ 64) (hl : z.length ≤ 65536) : (tailI z t).1.length ≤ 2 ^ 21 := by
  unfold tailI
  split
  · have := packF_len h hl; simp only; omega
  · split
    · unfold encSW
      split
      · simp
      · have := encS_len z.length z (Nat.le_refl _); simp only; omega
    · split
      · have := encRn_len z 0 h (by omega); simp only; omega
      · have := lebs_len h; simp only; omega
theorem tailI_byte {z : List Nat} (t : Nat) (h : ∀ x ∈ z, x < 2 ^ 64) : ∀ x ∈ (tailI z t).1, x < 256 := by
  unfold tailI
  split
  · exact packF_byte h
  · split
    · unfold encSW
      split
      · simp
      · exact encS_byte z.length z (Nat.le_refl _)
    · split
      · exact encRn_byte z 0
      · exact lebs_byte z
def zdI (xs : List Int) (t : Nat) : List Nat := (diffS xs (oft t)).map zig
theorem zdI_len (xs : List Int) (t : Nat) : (zdI xs t).length = xs.length := by rw [zdI, List.length_map, diffS_len]
theorem zdI_lt {xs : List Int} (h : ∀ x ∈ xs, i64r x) (t : Nat) : ∀ x ∈ zdI xs t, x < 2 ^ 64 := by
  intro x hx
  simp only [zdI, List.mem_map] at hx
  obtain ⟨y, hy, rfl⟩ := hx
  exact zig_lt (diffS_r h _ y hy)
def wayZ (z : List Nat) (t : Nat) : List Nat × Int := if (tailI z.tail t).2 ≠ 0 then ([], (tailI z.tail t).2) else (leb (z.headD 0) ++ (tailI z.tail t).1, 0)
def wayT (xs : List Int) (t : Nat) : List Nat × Int := if t = 0 then (raw8 xs, 0) else wayZ (zdI xs t) t
def wayI (xs : List Int) (w : Int) : List Nat × Int := if w < 0 ∨ 5 ≤ w then ([], 1) else if 65536 < xs.length then ([], 4) else if xs = [] then ([], 0) else wayT xs w.toNat
theorem wayT_len {xs : List Int} (t : Nat) (h : ∀ x ∈ xs, i64r x) (hl : xs.length ≤ 65536) : (wayT xs t).1.length ≤ 2 ^ 22 := by
  unfold wayT
  split
  · simp only [raw8_len]; omega
  · unfold wayZ
    split
    · simp
    · have hz := zdI_lt h t
      have hzl := zdI_len xs t
      have h0 : (zdI xs t).headD 0 < 2 ^ 64 := by
        cases hq : zdI xs t with
        | nil => simp
        | cons a r => exact hz a (by rw [hq]; simp)
      have h1 := leb_len10 h0
      have h2 := tailI_len (z := (zdI xs t).tail) t (fun x hx => hz x (List.mem_of_mem_tail hx)) (by rw [List.length_tail]; omega)
      simp only [List.length_append]; omega
theorem raw8_byte (xs : List Int) : ∀ x ∈ raw8 xs, x < 256 := by
  intro x hx
  simp only [raw8, List.mem_flatMap] at hx
  obtain ⟨y, _, hx⟩ := hx
  exact beB_byte _ _ x hx
theorem wayT_byte {xs : List Int} (t : Nat) (h : ∀ x ∈ xs, i64r x) : ∀ x ∈ (wayT xs t).1, x < 256 := by
  unfold wayT
  split
  · exact raw8_byte xs
  · unfold wayZ
    split
    · simp
    · intro x hx
      rcases List.mem_append.1 hx with hx | hx
      · exact leb_byte _ x hx
      · exact tailI_byte t (fun y hy => zdI_lt h t y (List.mem_of_mem_tail hy)) x hx
theorem wayI_len {xs : List Int} (w : Int) (h : ∀ x ∈ xs, i64r x) : (wayI xs w).1.length ≤ 2 ^ 22 := by
  unfold wayI
  split
  · simp
  · split
    · simp
    · split
      · simp
      · exact wayT_len _ h (by omega)
theorem wayI_byte {xs : List Int} (w : Int) (h : ∀ x ∈ xs, i64r x) : ∀ x ∈ (wayI xs w).1, x < 256 := by
  unfold wayI
  split
  · simp
  · split
    · simp
    · split
      · simp
      · exact wayT_byte _ h
def stepI (xs : List Int) (b : Nat × List Nat) (w : Nat) : Nat × List Nat := if (wayI xs w).2 = 0 ∧ (wayI xs w).1.length < b.2.length then (w, (wayI xs w).1) else b
def bestI (xs : List Int) (n : Nat) : Nat × List Nat := (List.range n).foldl (stepI xs) (0, (wayI xs 0).1)
theorem bestI_zero (xs : List Int) : bestI xs 0 = (0, (wayI xs 0).1) := rfl
theorem bestI_succ (xs : List Int) (n : Nat) : bestI xs (n + 1) = stepI xs (bestI xs n) n := by simp [bestI, List.range_succ]
theorem bestI_one (xs : List Int) : bestI xs 1 = (0, (wayI xs 0).1) := by
  rw [bestI_succ, bestI_zero, stepI]
  split
  · rename_i h; have := h.2; simp at this
  · rfl
theorem bestI_inv {xs : List Int} (h : ∀ x ∈ xs, i64r x) : ∀ n, n ≤ 5 → (bestI xs n).1 ≤ 4 ∧ (bestI xs n).2.length ≤ 2 ^ 22 ∧ ∀ x ∈ (bestI xs n).2, x < 256
  | 0, _ => ⟨Nat.zero_le _, wayI_len _ h, wayI_byte _ h⟩
  | n + 1, hn => by
    rw [bestI_succ, stepI]
    split
    · exact ⟨by simp only; omega, wayI_len _ h, wayI_byte _ h⟩
    · exact bestI_inv h n (by omega)
def encI (xs : List Int) : List Nat × Int := if 65536 < xs.length then ([], 4) else ((bestI xs 5).1 :: (bestI xs 5).2, 0)
/-! reading -/
def rvN : Nat → List Nat → List Nat → List Nat × Int
  | 0, acc, l => (acc, if l = [] then 0 else 3)
  | n + 1, acc, l => if (readV l).2.2 ≠ 0 then ([], (readV l).2.2) else rvN n (acc ++ [(readV l).1]) (l.drop (readV l).2.1)
def rwN : Nat → List Nat → List Nat → List Nat × Int
  | 0, acc, l => (acc, if l = [] then 0 else 3)
  | n + 1, acc, l => if l.length < 8 then ([], 2) else rwN n (acc ++ [beN (l.take 8)]) (l.drop 8)
def underI (l : List Nat) (n t : Nat) : List Nat × Int := if t = 2 then unF l n else if t = 3 then decS l n else decR l n
def numI (l : List Nat) (n t : Nat) : List Nat × Int :=
  if n = 0 then ([], if l = [] then 0 else 3)
  else if (readV l).2.2 ≠ 0 then ([], (readV l).2.2)
  else if t = 1 then rvN (n - 1) [(readV l).1] (l.drop (readV l).2.1)
  else ((readV l).1 :: (underI (l.drop (readV l).2.1) (n - 1) t).1, (underI (l.drop (readV l).2.1) (n - 1) t).2)
def rdI (l : List Nat) (n t : Nat) : List Nat × Int := if t = 0 then rwN n [] l else numI l n t
def valI (z : List Nat) (t : Nat) : List Int := if t = 0 then z.map i64of else sumS (z.map zag) (oft t)
def decI0 (b l : List Nat) (n t : Nat) : List Int × Int := if (rdI l n t).2 ≠ 0 then ([], (rdI l n t).2) else if (encI (valI (rdI l n t).1 t)).1 = b then (valI (rdI l n t).1 t, 0) else ([], 3)
def decI1 (b : List Nat) (n : Nat) : List Int × Int := match b with
  | [] => ([], 2)
  | t :: l => if 5 ≤ t then ([], 3) else decI0 b l n t
def decI (b : List Nat) (n : Int) : List Int × Int := if n < 0 ∨ 65536 < n then ([], 1) else decI1 b n.toNat
theorem rdS_len (n : Nat) : ∀ (k : Nat) (acc l : List Nat), l.length ≤ k → (∀ x ∈ l, x < 256) → acc.length ≤ n + 240 → (rdS n acc l).1.length ≤ n + 240 := by
  intro k
  induction k with
  | zero =>
    intro acc l hk hl ha
    by_cases h : acc.length < n
    · rw [rdS_short h (by omega)]; simp
    · rw [rdS_end h]; exact ha
  | succ k ih =>
    intro acc l hk hl ha
    by_cases h : acc.length < n
    · by_cases h8 : l.length < 8
      · rw [rdS_short h h8]; simp
      · rw [rdS_step h h8]
        have hwl := be8_lt l hl
        have hul : (unS (beN (l.take 8))).length ≤ 240 := by unfold unS; rw [valsS_len]; exact (cw _ (by omega)).2.1
        exact ih _ _ (by rw [List.length_drop]; omega) (fun x hx => hl x (List.mem_of_mem_drop hx)) (by rw [List.length_append]; omega)
    · rw [rdS_end h]; exact ha
theorem rdR_inv (n : Nat) : ∀ (k : Nat) (acc l : List Nat), n - acc.length ≤ k → (∀ x ∈ l, x < 256) → (∀ x ∈ acc, x < 2 ^ 64) → acc.length ≤ n → (rdR n acc l).1.length ≤ n ∧ ∀ x ∈ (rdR n acc l).1, x < 2 ^ 64 := by
  intro k
  induction k with
  | zero =>
    intro acc l hk hl hx ha
    rw [rdR_end (by omega)]
    exact ⟨ha, hx⟩
  | succ k ih =>
    intro acc l hk hl hx ha
    by_cases h : acc.length < n
    · by_cases h1 : (readV l).2.2 ≠ 0
      · rw [rdR_e1 h h1]; simp
      · by_cases h2 : (readV (l.drop (readV l).2.1)).2.2 ≠ 0
        · rw [rdR_e2 h h1 h2]; simp
        · by_cases h3 : badR n acc (readV l).1 (readV (l.drop (readV l).2.1)).1 = true
          · rw [rdR_e3 h h1 h2 h3]; simp
          · rw [rdR_step h h1 h2 h3]
            simp only [badR, Bool.or_eq_true, decide_eq_true_eq, not_or] at h3
            refine ih _ _ ?_ (fun x hx => hl x (List.mem_of_mem_drop (List.mem_of_mem_drop hx))) ?_ ?_
            · rw [List.length_append, List.length_replicate]; omega
            · intro x hx'
              rcases List.mem_append.1 hx' with hx' | hx'
              · exact hx x hx'
              · rw [List.eq_of_mem_replicate hx']; exact readV_lt hl
            · rw [List.length_append, List.length_replicate]; omega
    · rw [rdR_end h]; exact ⟨ha, hx⟩
theorem unF_inv (l : List Nat) (n : Nat) : (unF l n).1.length ≤ n ∧ ∀ x ∈ (unF l n).1, x < 2 ^ 64 := by
  unfold unF
  split
  · simp
  · unfold unF1
    split
    · simp
    · split
      · simp
      · split
        · simp
        · unfold unF2
          split
          · simp
          · rename_i hok
            split
            · simp
            · split
              · refine ⟨by simp only [valsF_len]; omega, okF_lt (by simpa using hok)⟩
              · simp
theorem underI_inv {l : List Nat} (n t : Nat) (hb : ∀ x ∈ l, x < 256) : (underI l n t).1.length ≤ n + 240 ∧ ∀ x ∈ (underI l n t).1, x < 2 ^ 64 := by
  unfold underI
  split
  · have := unF_inv l n; exact ⟨by omega, this.2⟩
  · split
    · unfold decS
      have h1 := rdS_len n l.length [] l (Nat.le_refl _) hb (by simp)
      have h2 := rdS_inv n l.length [] l (Nat.le_refl _) (by simp) hb
      simp only
      split
      · simp
      · split
        · simp
        · split
          · simp
          · split
            · exact ⟨h1, fun x hx => Nat.lt_trans (h2 x hx) (by omega)⟩
            · simp
    · unfold decR
      have h1 := rdR_inv n n [] l (by simp) hb (by simp) (by simp)
      simp only
      split
      · simp
      · split
        · simp
        · exact ⟨by have := h1.1; simp only; omega, h1.2⟩
theorem rvN_inv : ∀ (n : Nat) (acc l : List Nat), (∀ x ∈ l, x < 256) → (∀ x ∈ acc, x < 2 ^ 64) → (rvN n acc l).1.length ≤ acc.length + n ∧ ∀ x ∈ (rvN n acc l).1, x < 2 ^ 64
  | 0, acc, l, _, h => ⟨Nat.le_refl _, h⟩
  | n + 1, acc, l, hb, h => by
    rw [rvN]
    split
    · simp
    · have := rvN_inv n (acc ++ [(readV l).1]) (l.drop (readV l).2.1) (fun x hx => hb x (List.mem_of_mem_drop hx)) (by
        intro x hx
        rcases List.mem_append.1 hx with hx | hx
        · exact h x hx
        · rw [List.mem_singleton.1 hx]; exact readV_lt hb)
      rw [List.length_append, List.length_singleton] at this
      exact ⟨by omega, this.2⟩
theorem rwN_inv : ∀ (n : Nat) (acc l : List Nat), (∀ x ∈ l, x < 256) → (∀ x ∈ acc, x < 2 ^ 64) → (rwN n acc l).1.length ≤ acc.length + n ∧ ∀ x ∈ (rwN n acc l).1, x < 2 ^ 64
  | 0, acc, l, _, h => ⟨Nat.le_refl _, h⟩
  | n + 1, acc, l, hb, h => by
    rw [rwN]
    split
    · simp
    · have := rwN_inv n (acc ++ [beN (l.take 8)]) (l.drop 8) (fun x hx => hb x (List.mem_of_mem_drop hx)) (by
        intro x hx
        rcases List.mem_append.1 hx with hx | hx
        · exact h x hx
        · rw [List.mem_singleton.1 hx]; exact be8_lt l hb)
      rw [List.length_append, List.length_singleton] at this
      exact ⟨by omega, this.2⟩
theorem rdI_inv {l : List Nat} (n t : Nat) (hb : ∀ x ∈ l, x < 256) : (rdI l n t).1.length ≤ n + 240 ∧ ∀ x ∈ (rdI l n t).1, x < 2 ^ 64 := by
  unfold rdI
  split
  · have := rwN_inv n [] l hb (by simp)
    rw [List.length_nil] at this
    exact ⟨by omega, this.2⟩
  · unfold numI
    split
    · simp
    · split
      · simp
      · have hv := readV_lt hb
        have hd : ∀ x ∈ l.drop (readV l).2.1, x < 256 := fun x hx => hb x (List.mem_of_mem_drop hx)
        split
        · have := rvN_inv (n - 1) [(readV l).1] _ hd (by simpa using hv)
          rw [List.length_singleton] at this
          exact ⟨by omega, this.2⟩
        · have := underI_inv (n - 1) t hd
          refine ⟨by simp only [List.length_cons]; omega, ?_⟩
          intro x hx
          rcases List.mem_cons.1 hx with rfl | hx
          · exact hv
          · exact this.2 x hx
end Go.Ck
namespace Go.Ck
theorem u64s_rep (n : Nat) : List.replicate n (PV.int .u64 0) = u64s (List.replicate n 0) := by simp [u64s]
theorem fill_step {d : List Int} {i : Nat} (h : i < d.length) : ((d.map zig).take i ++ List.replicate (d.length - i) 0).set i (zig d[i]) = (d.map zig).take (i + 1) ++ List.replicate (d.length - (i + 1)) 0 := by
  obtain ⟨m, hm⟩ : ∃ m, d.length - i = m + 1 := ⟨d.length - i - 1, by omega⟩
  have hm2 : d.length - (i + 1) = m := by omega
  have hl : ((d.map zig).take i).length = i := by simp; omega
  have ht : (d.map zig).take (i + 1) = (d.map zig).take i ++ [zig d[i]] := by rw [List.take_add_one]; simp [h]
  rw [hm, hm2, ht, List.replicate_succ, List.set_append_right _ _ (by omega), hl, Nat.sub_self, List.set_cons_zero, List.append_assoc]
  rfl
end Go.Ck
namespace Go.Ck
theorem encI_byte {xs : List Int} (h : ∀ x ∈ xs, i64r x) : ∀ x ∈ (encI xs).1, x < 256 := by
  obtain ⟨h1, h2, h3⟩ := bestI_inv h 5 (Nat.le_refl _)
  unfold encI
  split
  · simp
  · intro x hx
    rcases List.mem_cons.1 hx with rfl | hx
    · omega
    · exact h3 x hx
theorem encI_room {xs : List Int} (h : ∀ x ∈ xs, i64r x) : (encI xs).1.length ≤ 2 ^ 23 := by
  obtain ⟨h1, h2, h3⟩ := bestI_inv h 5 (Nat.le_refl _)
  unfold encI
  split
  · simp
  · simp only [List.length_cons]; omega
end Go.Ck

set_option linter.unusedVariables false
set_option maxRecDepth 10000
set_option maxHeartbeats 1000000
namespace Go.Ck
open Go.Proofs

theorem tail_fn (z : List Nat) (t : Nat) (hl : z.length ≤ 65536) (hx : ∀ x ∈ z, x < 2 ^ 64) : Fn Try.prog 24 [] [.pv (.sl 1 (u64s z)), .pv (.int .i64 t)]
    (fun rs H' => rs = [.own 5 (bytes (tailI z t).1), .pv (.int .i64 (tailI z t).2)] ∧ H' = []) := by
  refine Fn.of_body (fn := Try.f24) (n := 40) (res := [.tmp 4, .tmp 5]) (by kernel_rfl) rfl rfl rfl rfl rfl (fun C => ?_)
  have hr : room = 140737488355328 := rfl
  unfold tailI
  refine AW.go ?_
  refine AW.cond rfl (fun hc => ?_) (fun hc => ?_)
  · have h2 : t = 2 := by simp at hc; omega
    simp only [if_pos h2]
    refine AW.go ?_
    refine AW.callE (fun _ => 0) (pack_fn z hl hx) (.pv _ .nil) ?_
    refine AW.go ?_
    refine AW.finE (.move rfl (.pv _ .nil)) rfl
  have h2 : ¬ t = 2 := by simp at hc; omega
  simp only [if_neg h2]
  refine AW.go ?_
  refine AW.cond rfl (fun hc => ?_) (fun hc => ?_)
  · have h3 : t = 3 := by simp at hc; omega
    simp only [if_pos h3]
    refine AW.go ?_
    refine AW.callE (fun _ => 0) (simpleEnc_fn z hl hx) (.pv _ .nil) ?_
    refine AW.go ?_
    refine AW.finE (.move rfl (.pv _ .nil)) rfl
  have h3 : ¬ t = 3 := by simp at hc; omega
  simp only [if_neg h3]
  refine AW.go ?_
  refine AW.cond rfl (fun hc => ?_) (fun hc => ?_)
  · have h4 : t = 4 := by simp at hc; omega
    simp only [if_pos h4]
    refine AW.go ?_
    refine AW.callE (fun _ => 0) (runsEnc_fn z hl hx) (.pv _ .nil) ?_
    refine AW.go ?_
    refine AW.finE (.move rfl (.pv _ .nil)) rfl
  have h4 : ¬ t = 4 := by simp at hc; omega
  simp only [if_neg h4]
  refine AW.go ?_
  refine AW.loopS (fun i : Nat => ⟨40, [(30, .pv (.int .i64 i)), (29, .pv (.int .i64 z.length)), (28, .pv (.sl 1 (u64s z))), (6, .own 5 (bytes (lebs (z.take i))))], []⟩) (fun i => i ≤ z.length) (fun i => z.length - i) [30, 29, 28, 6] [] 0 (Nat.zero_le _) ?_
  rintro i hi K hK
  refine AW.go ?_
  refine AW.cond rfl (fun hc => ?_) (fun hc => ?_)
  · have hlt : i < z.length := by simpa using hc
    have hget := u64s_get hlt
    have hti : z.take (i + 1) = z.take i ++ [z[i]] := by simp
    have hxx := hx _ (List.getElem_mem hlt)
    have hll := lebs_len (z := z.take i) (fun x hx' => hx x (List.mem_of_mem_take hx'))
    have hls := lebs_snoc (z.take i) z[i]
    rw [List.length_take] at hll
    rw [← hti] at hls
    generalize z[i] = x at *
    have h10 := leb_len10 hxx
    have ei : IntKind.i64.wrap ((i : Int) + 1) = ((i + 1 : Nat) : Int) := wrap_i64_succ (by omega)
    have h1 : (lebs (z.take i)).length + (leb x).length ≤ room := by omega
    refine AW.go ?_ (by simp only [go_sem, ↓reduceIte, hget] <;> rfl)
    refine AW.callE (fun _ => 0) (append_fn [] x hxx (by simp; omega)) (.nilsP 1 (.pv _ .nil)) ?_
    refine AW.go ?_ (by simp only [go_sem, ↓reduceIte, List.nil_append, h1, ← hls, ei] <;> rfl)
    refine AW.again hK (i + 1) hlt (by omega)
  · have hge : ¬ i < z.length := by simpa using hc
    rw [List.take_of_length_le (by omega)]
    refine AW.go ?_
    refine AW.finE (.move rfl (.pv _ .nil)) rfl

theorem other_fn (z : List Nat) (t : Nat) (ht : 2 ≤ t) (ht4 : t ≤ 4) (hl : z.length ≤ 65536) (hx : ∀ x ∈ z, x < 2 ^ 64) : Fn Try.prog 29 [] [.pv (.sl 1 (u64s z)), .pv (.int .i64 t)]
    (fun rs H' => rs = [.own 5 (bytes (tailI z t).1), .pv (.int .i64 (tailI z t).2)] ∧ H' = []) := by
  refine Fn.of_body (fn := Try.f29) (n := 23) (res := [.tmp 4, .tmp 5]) (by kernel_rfl) rfl rfl rfl rfl rfl (fun C => ?_)
  have hr : room = 140737488355328 := rfl
  unfold tailI
  refine AW.go ?_
  refine AW.cond rfl (fun hc => ?_) (fun hc => ?_)
  · have h2 : t = 2 := by simp at hc; omega
    simp only [if_pos h2]
    refine AW.go ?_
    refine AW.callE (fun _ => 0) (refPack_fn z hl hx) (.pv _ .nil) ?_
    refine AW.go ?_
    refine AW.finE (.move rfl (.pv _ .nil)) rfl
  have h2 : ¬ t = 2 := by simp at hc; omega
  simp only [if_neg h2]
  refine AW.go ?_
  refine AW.cond rfl (fun hc => ?_) (fun hc => ?_)
  · have h3 : t = 3 := by simp at hc; omega
    simp only [if_pos h3]
    refine AW.go ?_
    refine AW.callE (fun _ => 0) (refSimpleEnc_fn z hl hx) (.pv _ .nil) ?_
    refine AW.go ?_
    refine AW.finE (.move rfl (.pv _ .nil)) rfl
  have h3 : ¬ t = 3 := by simp at hc; omega
  have h4 : t = 4 := by omega
  simp only [if_neg h3, if_pos h4]
  refine AW.go ?_
  refine AW.callE (fun _ => 0) (refRunsEnc_fn z hl hx) (.pv _ .nil) ?_
  refine AW.go ?_
  refine AW.finE (.move rfl (.pv _ .nil)) rfl

theorem zigs_fn (l : List Int) (hl : l.length ≤ 2 ^ 40) (hr64 : ∀ x ∈ l, i64r x) : Fn Try.prog 27 [] [.pv (.sl 1 (ints l))]
    (fun rs H' => rs = [.own 42 (u64s (l.map zig))] ∧ H' = []) := by
  refine Fn.of_body (fn := Try.f27) (n := 20) (res := [.tmp 2]) (by kernel_rfl) rfl rfl rfl rfl rfl (fun C => ?_)
  have hr : room = 140737488355328 := rfl
  refine AW.go ?_
  refine AW.loopS (fun i : Nat => ⟨20, [(4, .pv (.int .i64 i)), (3, .own 42 (u64s ((l.take i).map zig))), (0, .pv (.sl 1 (ints l)))], []⟩) (fun i => i ≤ l.length) (fun i => l.length - i) [4, 3, 0] [] 0 (Nat.zero_le _) ?_
  rintro i hi K hK
  refine AW.go ?_
  refine AW.cond rfl (fun hc => ?_) (fun hc => ?_)
  · have hlt : i < l.length := by simpa using hc
    have hget := ints_get hlt
    have hti : (l.take (i + 1)).map zig = (l.take i).map zig ++ [zig l[i]] := by rw [← List.map_singleton, ← List.map_append]; congr 1; simp
    have hxx := hr64 _ (List.getElem_mem hlt)
    generalize l[i] = x at *
    have ei : IntKind.i64.wrap ((i : Int) + 1) = ((i + 1 : Nat) : Int) := wrap_i64_succ (by omega)
    have hml : ((l.take i).map zig).length = i := by simp; omega
    have h1 : (i + 1) * 8 ≤ room := by omega
    have h2 : i + 1 ≤ room := by omega
    generalize (l.take i).map zig = m at *
    refine AW.go ?_ (by simp only [go_sem, ↓reduceIte, hget] <;> rfl)
    refine AW.callE (fun _ => 0) (refZig_fn x hxx) (.pv _ .nil) ?_
    refine AW.go ?_ (by simp only [go_sem, ↓reduceIte, hml, u64s_one, h1, h2, ← hti, ei] <;> rfl)
    refine AW.again hK (i + 1) hlt (by omega)
  · have hge : ¬ i < l.length := by simpa using hc
    rw [List.take_of_length_le (by omega)]
    refine AW.go ?_
    refine AW.finE (.move rfl .nil) rfl

theorem wayIn_fn (xs : List Int) (w : Int) (hr64 : ∀ x ∈ xs, i64r x) : Fn Try.prog 11 [] [.pv (.sl 1 (ints xs)), .pv (.int .i64 w)]
    (fun rs H' => rs = [.own 5 (bytes (wayI xs w).1), .pv (.int .i64 (wayI xs w).2)] ∧ H' = []) := by
  refine Fn.of_body (fn := Try.f11) (n := 87) (res := [.tmp 4, .tmp 5]) (by kernel_rfl) rfl rfl rfl rfl rfl (fun C => ?_)
  have hr : room = 140737488355328 := rfl
  unfold wayI
  by_cases hw : w < 0 ∨ 5 ≤ w
  · rw [if_pos hw]
    by_cases h0 : w < 0
    · have d0 : decide (w < 0) = true := decide_eq_true h0
      refine AW.gg ?_ (by simp only [go_sem, ↓reduceIte, d0] <;> rfl)
      refine AW.condT rfl ?_
      refine AW.go ?_
      refine AW.finE (.move rfl (.pv _ .nil)) rfl
    · have d0 : decide (w < 0) = false := decide_eq_false h0
      have d5 : decide (w ≥ 5) = true := decide_eq_true (by omega)
      have d5' : decide (5 ≤ w) = true := decide_eq_true (by omega)
      refine AW.gg ?_ (by simp only [go_sem, ↓reduceIte, d0, d5, d5'] <;> rfl)
      refine AW.condT rfl ?_
      refine AW.go ?_
      refine AW.finE (.move rfl (.pv _ .nil)) rfl
  rw [if_neg hw]
  obtain ⟨t, rfl⟩ : ∃ t : Nat, w = t := ⟨w.toNat, by omega⟩
  have ht : t < 5 := by omega
  rw [Int.toNat_natCast]
  have d5 : decide ((t : Int) ≥ 5) = false := decide_eq_false (by omega)
  have d5' : decide ((5 : Int) ≤ (t : Int)) = false := decide_eq_false (by omega)
  have d5'' : decide (5 ≤ t) = false := decide_eq_false (by omega)
  refine AW.gg ?_ (by simp only [go_sem, ↓reduceIte, d5, d5', d5''] <;> rfl)
  refine AW.condF rfl ?_
  refine AW.go ?_
  refine AW.cond rfl (fun hc => ?_) (fun hc => ?_)
  · have hl : 65536 < xs.length := by simp at hc; omega
    rw [if_pos hl]
    refine AW.go ?_
    refine AW.finE (.move rfl (.pv _ .nil)) rfl
  have hl : ¬ 65536 < xs.length := by simp at hc; omega
  rw [if_neg hl]
  refine AW.go ?_
  refine AW.cond rfl (fun hc => ?_) (fun hc => ?_)
  · have h0 : xs = [] := by
      have : xs.length = 0 := by simpa using hc
      exact List.length_eq_zero_iff.1 this
    rw [if_pos h0]
    refine AW.go ?_
    refine AW.finE (.move rfl (.pv _ .nil)) rfl
  have h0 : ¬ xs = [] := by rintro rfl; simp at hc
  rw [if_neg h0]
  have hpos : 0 < xs.length := by cases xs with | nil => exact absurd rfl h0 | cons a r => simp
  refine AW.go ?_
  refine AW.callE (fun _ => 0) (often_fn t) (.pv _ .nil) ?_
  refine AW.go ?_
  refine AW.callE (fun _ => 0) (diff_fn xs (oft t) (oft_le t) (by omega)) (.pv _ (.pv _ .nil)) ?_
  refine AW.freeze (p := .part 36 0) (by simp only [go_sem, ↓reduceIte, freeze, freezeO] <;> rfl) ?_
  have hdl := diffS_len xs (oft t)
  have hdr := diffS_r hr64 (oft t)
  unfold wayT
  refine AW.go ?_
  refine AW.cond rfl (fun hc => ?_) (fun hc => ?_)
  · have ht0 : t = 0 := by simpa using hc
    have hd0 : diffS xs (oft t) = xs := by rw [ht0]; rfl
    rw [if_pos ht0, hd0]
    refine AW.go ?_
    refine AW.loopS (fun i : Nat => ⟨87, [(43, .pv (.int .i64 i)), (42, .pv (.int .i64 xs.length)), (41, .pv (.sl 1 (ints xs))), (8, .own 5 (bytes (raw8 (xs.take i))))], []⟩) (fun i => i ≤ xs.length) (fun i => xs.length - i) [43, 42, 41, 8] [] 0 (Nat.zero_le _) ?_
    rintro i hi K hK
    refine AW.go ?_
    refine AW.cond rfl (fun hc2 => ?_) (fun hc2 => ?_)
    · have hlt : i < xs.length := by simpa using hc2
      have hget := ints_get hlt
      have hti : xs.take (i + 1) = xs.take i ++ [xs[i]] := by simp
      have hll := raw8_len (xs.take i)
      have hls := raw8_snoc (xs.take i) xs[i]
      rw [List.length_take] at hll
      rw [← hti] at hls
      generalize xs[i] = x at *
      have eu := u64of_wrap x
      have hu := u64of_lt x
      generalize u64of x = u at *
      have hb8 := beB_len u 8
      have ei : IntKind.i64.wrap ((i : Int) + 1) = ((i + 1 : Nat) : Int) := wrap_i64_succ (by omega)
      have h1 : (raw8 (xs.take i)).length + (beB u 8).length ≤ room := by omega
      refine AW.go ?_ (by simp only [go_sem, ↓reduceIte, hget, eu] <;> rfl)
      refine AW.callE (fun _ => 0) (fix_fn u 8 hu (by omega)) (.pv _ (.pv _ .nil)) ?_
      refine AW.go ?_ (by simp only [go_sem, ↓reduceIte, h1, ← hls, ei] <;> rfl)
      refine AW.again hK (i + 1) hlt (by omega)
    · have hge : ¬ i < xs.length := by simpa using hc2
      rw [List.take_of_length_le (by omega)]
      refine AW.go ?_
      refine AW.finE (.move rfl (.pv _ .nil)) rfl
  have ht0 : ¬ t = 0 := by simpa using hc
  rw [if_neg ht0]
  unfold zdI
  generalize diffS xs (oft t) = d at *
  have r1 : 8 * d.length ≤ room := by omega
  have r2 : d.length ≤ room := by omega
  refine AW.go ?_ (by simp only [go_sem, ↓reduceIte, r1, r2] <;> rfl)
  have hml : (d.map zig).length = d.length := by simp
  refine AW.loopS (fun i : Nat => ⟨87, [(59, .pv (.int .i64 i)), (58, .pv (.int .i64 d.length)), (57, .pv (.sl 1 (ints d))), (11, .own 42 (u64s ((d.map zig).take i ++ List.replicate (d.length - i) 0))), (1, .pv (.int .i64 t))], []⟩) (fun i => i ≤ d.length) (fun i => d.length - i) [59, 58, 57, 11, 1] [] 0 (Nat.zero_le _) ?_ (by simp only [go_sem, ↓reduceIte]) (by simp only [go_sem, ↓reduceIte, u64s_rep] <;> rfl)
  rintro i hi K hK
  have hal : ((d.map zig).take i ++ List.replicate (d.length - i) 0).length = d.length := by simp; omega
  refine AW.go ?_
  refine AW.cond rfl (fun hc2 => ?_) (fun hc2 => ?_)
  · have hlt : i < d.length := by simpa using hc2
    have hget := ints_get hlt
    have hxx := hdr _ (List.getElem_mem hlt)
    have hset : ((d.map zig).take i ++ List.replicate (d.length - i) 0).set i (zig d[i]) = (d.map zig).take (i + 1) ++ List.replicate (d.length - (i + 1)) 0 := fill_step hlt
    generalize (d.map zig).take i ++ List.replicate (d.length - i) 0 = A at *
    generalize d[i] = x at *
    have ei : IntKind.i64.wrap ((i : Int) + 1) = ((i + 1 : Nat) : Int) := wrap_i64_succ (by omega)
    refine AW.go ?_ (by simp only [go_sem, ↓reduceIte, hget] <;> rfl)
    refine AW.callE (fun _ => 0) (zig_fn x hxx) (.pv _ .nil) ?_
    have hgA := u64s_get (l := A) (i := i) (by omega)
    refine AW.go ?_ (by simp only [go_sem, ↓reduceIte, hal, hlt, hgA, u64s_set, hset, ei] <;> rfl)
    refine AW.again hK (i + 1) hlt (by omega)
  · have hge : i = d.length := by simp at hc2; omega
    subst hge
    rw [List.take_of_length_le (by omega), Nat.sub_self, List.replicate_zero, List.append_nil]
    have hzx : ∀ x ∈ d.map zig, x < 2 ^ 64 := by
      intro x hx
      simp only [List.mem_map] at hx
      obtain ⟨y, hy, rfl⟩ := hx
      exact zig_lt (hdr y hy)
    clear hal hK
    generalize d.map zig = z at *
    cases z with
    | nil => simp at hml; omega
    | cons z0 z =>
      have hz0 := hzx z0 (by simp)
      have hzt : ∀ x ∈ z, x < 2 ^ 64 := fun x hx => hzx x (by simp [hx])
      simp only [List.length_cons] at hml
      have hg0 := u64s_get0 z0 z
      have h10 := leb_len10 hz0
      refine AW.go ?_ (by simp only [go_sem, ↓reduceIte, hg0] <;> rfl)
      refine AW.callE (fun _ => 0) (append_fn [] z0 hz0 (by simp; omega)) (.nilsP 1 (.pv _ .nil)) ?_
      have v1 : (1 : Int) ≤ ((z.length + 1 : Nat) : Int) := by omega
      have v2 : (((z.length + 1 : Nat) : Int) - 1).toNat = z.length := by omega
      refine AW.go ?_ (by simp only [go_sem, ↓reduceIte, List.nil_append, List.length_cons, v1, v2] <;> rfl)
      have v3 : u64s z = ((u64s (z0 :: z)).drop 1).take z.length := by
        show u64s z = (u64s z).take z.length
        rw [List.take_of_length_le (by rw [u64s_length]; exact Nat.le_refl _)]
      refine AW.callE (fun _ => 0) (tail_fn z t (by omega) hzt) (.lendV rfl rfl v3 (.pv _ .nil)) ?_
      have hzd : (z0 :: z).tail = z := rfl
      have hzh : (z0 :: z).headD 0 = z0 := rfl
      unfold wayZ
      rw [hzd, hzh]
      have htl := tailI_len t hzt (by omega)
      generalize tailI z t = r at *
      obtain ⟨rb, re⟩ := r
      simp only at htl ⊢
      refine AW.go ?_
      refine AW.cond rfl (fun hc3 => ?_) (fun hc3 => ?_)
      · have he : re ≠ 0 := by simpa using hc3
        simp only [if_pos he]
        refine AW.go ?_
        refine AW.finE (.move rfl (.pv _ .nil)) rfl
      · have he : ¬ re ≠ 0 := by simpa using hc3
        simp only [if_neg he]
        have h1 : (leb z0).length + rb.length ≤ room := by omega
        refine AW.go ?_ (by simp only [go_sem, ↓reduceIte, h1] <;> rfl)
        refine AW.finE (.move rfl (.pv _ .nil)) rfl
end Go.Ck
