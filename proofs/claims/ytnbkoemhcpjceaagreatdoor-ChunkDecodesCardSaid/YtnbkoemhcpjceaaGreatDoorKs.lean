/- What is proved here: parts of the proofs of this seat's statements (a verified evaluator for calls over pure values, its laws, and contracts of functions). No condition. -/
import Derived.Test.YtnbkoemhcpjceaaGreatDoorKq
import Derived.Test.YtnbkoemhcpjceaaGreatDoorKn
import Derived.Test.YtnbkoemhcpjceaaGreatDoorKr
import Derived.Test.YtnbkoemhcpjceaaGreatDoorKm
import Derived.Test.YtnbkoemhcpjceaaGreatDoorKj
set_option linter.all false
set_option linter.unusedVariables false
namespace Go.Ck
end Go.Ck
namespace Go.Ck
theorem valI_len (z : List Nat) (t : Nat) : (valI z t).length = z.length := by
  unfold valI
  split
  · simp
  · rw [sumS_len, List.length_map]
end Go.Ck

set_option linter.unusedVariables false
namespace Go.Ck
end Go.Ck

set_option linter.unusedVariables false
namespace Go.Ck
theorem encI_ok {xs : List Int} (hl : xs.length ≤ 65536) : encI xs = ((bestI xs 5).1 :: (bestI xs 5).2, 0) := by unfold encI; rw [if_neg (by omega)]
theorem decI_ok {b : List Nat} {n : Int} (h : (decI b n).2 = 0) : 0 ≤ n ∧ n ≤ 65536 ∧ ∃ t l, b = t :: l ∧ t ≤ 4 ∧ (rdI l n.toNat t).2 = 0 ∧ (decI b n).1 = valI (rdI l n.toNat t).1 t ∧ (encI (decI b n).1).1 = b := by
  unfold decI at h ⊢
  split at h
  · cases h
  · rename_i h0
    rw [if_neg h0]
    refine ⟨by omega, by omega, ?_⟩
    cases b with
    | nil => cases h
    | cons t l =>
      simp only [decI1] at h ⊢
      split at h
      · cases h
      · rename_i h5
        rw [if_neg h5]
        unfold decI0 at h ⊢
        split at h
        · rename_i h6; exact absurd h h6
        · rename_i h6
          rw [if_neg h6]
          split at h
          · rename_i h7
            rw [if_pos h7]
            exact ⟨t, l, rfl, by omega, by simpa using h6, rfl, h7⟩
          · cases h
theorem unF_val {l : List Nat} {n : Nat} (h : (unF l n).2 = 0) : ∃ w r, l.drop (readV l).2.1 = w :: r ∧ (readV l).2.2 = 0 ∧ ¬ 8 * r.length < n * w ∧ (unF l n).1 = valsF r w n (readV l).1 := by
  unfold unF at h ⊢
  split at h
  · rename_i he; exact absurd h he
  · rename_i he
    rw [if_neg he]
    generalize l.drop (readV l).2.1 = q at *
    cases q with
    | nil => cases h
    | cons w r =>
      simp only [unF1] at h ⊢
      split at h
      · cases h
      · rename_i h1
        split at h
        · cases h
        · rename_i h2
          rw [if_neg h1, if_neg h2]
          unfold unF2 at h ⊢
          split at h
          · cases h
          · rename_i h3
            split at h
            · cases h
            · rename_i h4
              split at h
              · rename_i h5
                rw [if_neg h3, if_neg h4, if_pos h5]
                exact ⟨w, r, rfl, by simpa using he, h2, rfl⟩
              · cases h
theorem decS_val {l : List Nat} {n : Nat} (h : (decS l n).2 = 0) : (rdS n [] l).2.2 = 0 ∧ (decS l n).1 = (rdS n [] l).1 := by
  unfold decS at h ⊢
  simp only at h ⊢
  split at h
  · rename_i he; exact absurd h he
  · rename_i he
    split at h
    · cases h
    · rename_i h1
      split at h
      · cases h
      · rename_i h2
        split at h
        · rename_i h3
          rw [if_neg he, if_neg h1, if_neg h2, if_pos h3]
          exact ⟨by simpa using he, rfl⟩
        · cases h
theorem decR_val {l : List Nat} {n : Nat} (h : (decR l n).2 = 0) : (rdR n [] l).2.2 = 0 ∧ (decR l n).1 = (rdR n [] l).1 := by
  unfold decR at h ⊢
  simp only at h ⊢
  split at h
  · rename_i he; exact absurd h he
  · rename_i he
    split at h
    · cases h
    · rename_i h1
      rw [if_neg he, if_neg h1]
      exact ⟨by simpa using he, rfl⟩
theorem bestI_min {xs : List Int} (n : Nat) : ∀ w, w < n → (wayI xs (w : Nat)).2 = 0 → (bestI xs n).2.length ≤ (wayI xs (w : Nat)).1.length := by
  induction n with
  | zero => intro w h; omega
  | succ n ih =>
    intro w hw he
    rw [bestI_succ, stepI]
    by_cases hwn : w = n
    · subst hwn
      split
      · exact Nat.le_refl _
      · rename_i h
        have : ¬ (wayI xs (w : Nat)).1.length < (bestI xs w).2.length := fun h2 => h ⟨he, h2⟩
        omega
    · have := ih w (by omega) he
      split
      · rename_i h; simp only; omega
      · exact this
theorem encI_min {xs : List Int} (hl : xs.length ≤ 65536) (w : Int) (h : (wayI xs w).2 = 0) : (encI xs).1.length ≤ (wayI xs w).1.length + 1 := by
  rw [encI_ok hl]
  simp only [List.length_cons]
  by_cases hw : w < 0 ∨ 5 ≤ w
  · rw [wayI, if_pos hw] at h; cases h
  · obtain ⟨k, rfl⟩ : ∃ k : Nat, w = k := ⟨w.toNat, by omega⟩
    have := bestI_min (xs := xs) 5 k (by omega) h
    omega
theorem encI_short {xs : List Int} (hl : xs.length ≤ 65536) : (encI xs).1.length ≤ 8 * xs.length + 1 := by
  have h0 : (wayI xs 0).2 = 0 ∧ (wayI xs 0).1.length ≤ 8 * xs.length := by
    unfold wayI
    rw [if_neg (by omega), if_neg (by omega)]
    by_cases he : xs = []
    · rw [if_pos he]; simp
    · rw [if_neg he]
      refine ⟨rfl, ?_⟩
      show (raw8 xs).length ≤ _
      rw [raw8_len]; omega
  have := encI_min hl 0 h0.1
  omega
end Go.Ck
namespace Go.Ck
theorem rwN_n : ∀ (n : Nat) (acc l : List Nat), (rwN n acc l).2 = 0 → (rwN n acc l).1.length = acc.length + n
  | 0, acc, l, _ => rfl
  | n + 1, acc, l, h => by
    rw [rwN] at h ⊢
    split at h
    · cases h
    · rename_i h8
      rw [if_neg h8, rwN_n n _ _ h, List.length_append, List.length_singleton]; omega
theorem rvN_n : ∀ (n : Nat) (acc l : List Nat), (rvN n acc l).2 = 0 → (rvN n acc l).1.length = acc.length + n
  | 0, acc, l, _ => rfl
  | n + 1, acc, l, h => by
    rw [rvN] at h ⊢
    split at h
    · rename_i he; exact absurd h he
    · rename_i he
      rw [if_neg he, rvN_n n _ _ h, List.length_append, List.length_singleton]; omega
theorem rdS_n (n : Nat) : ∀ (k : Nat) (acc l : List Nat), l.length ≤ k → (rdS n acc l).2.2 = 0 → n ≤ (rdS n acc l).1.length := by
  intro k
  induction k with
  | zero =>
    intro acc l hk h
    by_cases hn : acc.length < n
    · rw [rdS_short hn (by omega)] at h; cases h
    · rw [rdS_end hn]; simp only; omega
  | succ k ih =>
    intro acc l hk h
    by_cases hn : acc.length < n
    · by_cases h8 : l.length < 8
      · rw [rdS_short hn h8] at h; cases h
      · rw [rdS_step hn h8] at h ⊢
        exact ih _ _ (by rw [List.length_drop]; omega) h
    · rw [rdS_end hn]; simp only; omega
theorem rdR_n (n : Nat) : ∀ (k : Nat) (acc l : List Nat), n - acc.length ≤ k → acc.length ≤ n → (rdR n acc l).2.2 = 0 → (rdR n acc l).1.length = n := by
  intro k
  induction k with
  | zero =>
    intro acc l hk ha h
    rw [rdR_end (by omega)]; simp only; omega
  | succ k ih =>
    intro acc l hk ha h
    by_cases hn : acc.length < n
    · by_cases h1 : (readV l).2.2 ≠ 0
      · rw [rdR_e1 hn h1] at h; exact absurd h h1
      · by_cases h2 : (readV (l.drop (readV l).2.1)).2.2 ≠ 0
        · rw [rdR_e2 hn h1 h2] at h; exact absurd h h2
        · by_cases h3 : badR n acc (readV l).1 (readV (l.drop (readV l).2.1)).1 = true
          · rw [rdR_e3 hn h1 h2 h3] at h; cases h
          · rw [rdR_step hn h1 h2 h3] at h ⊢
            simp only [badR, Bool.or_eq_true, decide_eq_true_eq, not_or] at h3
            exact ih _ _ (by rw [List.length_append, List.length_replicate]; omega) (by rw [List.length_append, List.length_replicate]; omega) h
    · rw [rdR_end hn]; simp only; omega
theorem underI_n {l : List Nat} {n t : Nat} (h : (underI l n t).2 = 0) : (underI l n t).1.length = n := by
  unfold underI at h ⊢
  split
  · rename_i ht
    rw [if_pos ht] at h
    obtain ⟨w, r, _, _, _, e⟩ := unF_val h
    rw [e, valsF_len]
  · rename_i ht
    rw [if_neg ht] at h
    split
    · rename_i h3
      rw [if_pos h3] at h
      have h' := h
      obtain ⟨a1, a2⟩ := decS_val h
      have h1 := rdS_n n l.length [] l (Nat.le_refl _) a1
      unfold decS at h'
      simp only at h'
      rw [if_neg (by simpa using a1)] at h'
      split at h'
      · cases h'
      · rw [a2]; omega
    · rename_i h3
      rw [if_neg h3] at h
      obtain ⟨a1, a2⟩ := decR_val h
      rw [a2]
      exact rdR_n n n [] l (by simp) (by simp) a1
theorem rdI_n {l : List Nat} {n t : Nat} (h : (rdI l n t).2 = 0) : (rdI l n t).1.length = n := by
  unfold rdI at h ⊢
  split
  · rename_i ht
    rw [if_pos ht] at h
    rw [rwN_n n [] l h, List.length_nil, Nat.zero_add]
  · rename_i ht
    rw [if_neg ht] at h
    unfold numI at h ⊢
    split
    · rename_i h0; rw [h0]; rfl
    · rename_i h0
      rw [if_neg h0] at h
      split at h
      · rename_i he; exact absurd h he
      · rename_i he
        rw [if_neg he]
        split at h
        · rename_i h1
          rw [if_pos h1, rvN_n _ _ _ h, List.length_singleton]; omega
        · rename_i h1
          rw [if_neg h1]
          simp only at h ⊢
          rw [List.length_cons, underI_n h]; omega
theorem decI_n {b : List Nat} {n : Int} (h : (decI b n).2 = 0) : (decI b n).1.length = n.toNat := by
  obtain ⟨_, _, t, l, _, _, a1, a2, _⟩ := decI_ok h
  rw [a2, valI_len, rdI_n a1]
end Go.Ck

set_option linter.unusedVariables false
namespace Go.Ck
end Go.Ck

set_option linter.unusedVariables false
namespace Go.Ck
theorem rdv_canon2 : ∀ (l : List Nat) (k acc : Nat), (∀ x ∈ l, x < 256) → (rdv k acc l).2.2 = 0 → ∃ v r, (k = 0 ∨ v ≠ 0) ∧ l = leb v ++ r ∧ rdv k acc l = (acc + v * 128 ^ k, k + (leb v).length, 0)
  | [], k, acc, _, h => by simp [rdv] at h
  | x :: r, k, acc, hb, h => by
    have hx := hb x (by simp)
    rw [rdv] at h ⊢
    split at h
    · simp at h
    · rename_i h1
      rw [if_neg h1]
      split at h
      · rename_i h2
        rw [if_pos h2]
        obtain ⟨v, r', h3, h4, h5⟩ := rdv_canon2 r (k + 1) _ (fun y hy => hb y (by simp [hy])) h
        have hv : v ≠ 0 := h3.resolve_left (by omega)
        have e1 : (v * 128 + x % 128) % 128 + 128 = x := by omega
        have e2 : (v * 128 + x % 128) / 128 = v := by omega
        refine ⟨v * 128 + x % 128, r', .inr (by omega), ?_, ?_⟩
        · rw [leb_ge (by omega), e1, e2, List.cons_append, ← h4]
        · have hp : 128 ^ (k + 1) = 128 ^ k * 128 := Nat.pow_succ ..
          have e3 : (v * 128 + x % 128) * 128 ^ k = v * 128 ^ (k + 1) + x % 128 * 128 ^ k := by rw [hp, Nat.add_mul, Nat.mul_assoc, Nat.mul_comm 128]
          rw [h5, leb_ge (v := v * 128 + x % 128) (by omega), e2, e3, List.length_cons]
          refine Prod.ext ?_ (Prod.ext ?_ rfl) <;> simp only <;> omega
      · rename_i h2
        rw [if_neg h2]
        split at h
        · simp at h
        · rename_i h3
          rw [if_neg h3]
          refine ⟨x, r, by omega, ?_, ?_⟩
          · rw [leb_lt (by omega)]; rfl
          · rw [leb_lt (by omega)]; rfl
theorem readV_canon2 {l : List Nat} (hb : ∀ x ∈ l, x < 256) (h : (readV l).2.2 = 0) : l = leb (readV l).1 ++ l.drop (readV l).2.1 ∧ (readV l).2.1 = (leb (readV l).1).length := by
  rw [readV_eq] at h ⊢
  obtain ⟨v, r, _, h1, h2⟩ := rdv_canon2 l 0 0 hb h
  rw [h2]
  simp only [Nat.zero_add, Nat.pow_zero, Nat.mul_one]
  refine ⟨?_, trivial⟩
  conv => rhs; rw [h1]
  rw [List.drop_left]
  exact h1
theorem blk_canon {l : List Nat} {m : Nat} (hb : ∀ x ∈ l, x < 256) (h : (blk l m).2.1 = 0) : l = leb (blk l m).1.length ++ (blk l m).1 ++ (blk l m).2.2 ∧ (blk l m).1.length ≤ m := by
  unfold blk at h ⊢
  split at h
  · rename_i h1; exact absurd h h1
  · rename_i h1
    rw [if_neg h1]
    split at h
    · simp at h
    · rename_i h2
      rw [if_neg h2]
      split at h
      · simp at h
      · rename_i h3
        rw [if_neg h3]
        simp only
        obtain ⟨h4, h5⟩ := readV_canon2 hb (by simpa using h1)
        have hlen : ((l.drop (readV l).2.1).take (readV l).1).length = (readV l).1 := by rw [List.length_take, List.length_drop]; omega
        rw [hlen]
        refine ⟨?_, by omega⟩
        conv => lhs; rw [h4]
        rw [List.append_assoc]
        congr 1
        rw [← List.drop_drop, List.take_append_drop]
theorem blk_byte {l : List Nat} {m : Nat} (hb : ∀ x ∈ l, x < 256) : (∀ x ∈ (blk l m).1, x < 256) ∧ (∀ x ∈ (blk l m).2.2, x < 256) ∧ (blk l m).1.length ≤ l.length ∧ (blk l m).2.2.length ≤ l.length := by
  unfold blk
  split
  · exact ⟨by simp, hb, by simp, Nat.le_refl _⟩
  · split
    · exact ⟨by simp, hb, by simp, Nat.le_refl _⟩
    · split
      · exact ⟨by simp, hb, by simp, Nat.le_refl _⟩
      · exact ⟨fun x hx => hb x (List.mem_of_mem_drop (List.mem_of_mem_take hx)), fun x hx => hb x (List.mem_of_mem_drop hx), by simp; omega, by simp⟩
end Go.Ck

set_option linter.unusedVariables false
namespace Go.Ck
def nb (s : List UInt8) : List Nat := s.map UInt8.toNat
def ub (l : List Nat) : List UInt8 := l.map UInt8.ofNat
theorem nb_len (s : List UInt8) : (nb s).length = s.length := by simp [nb]
theorem ub_len (l : List Nat) : (ub l).length = l.length := by simp [ub]
theorem nb_ub {l : List Nat} (h : ∀ x ∈ l, x < 256) : nb (ub l) = l := by
  unfold ub nb
  rw [List.map_map]
  conv => rhs; rw [← List.map_id l]
  refine List.map_congr_left (fun x hx => ?_)
  have := h x hx
  simp only [Function.comp, id]
  show (UInt8.ofNat x).toNat = x
  simp only [UInt8.toNat_ofNat']
  omega
def blkd (l : List Nat) : List Nat := leb l.length ++ l
theorem blkd_len (l : List Nat) : (blkd l).length = (leb l.length).length + l.length := by rw [blkd, List.length_append]
abbrev Sm := Int × Nat
def tmsC (xs : List Sm) : List Nat := (encI (xs.map Prod.fst)).1
def vlsC (xs : List Sm) : List Nat := (encV (xs.map Prod.snd)).1
def bodyC (xs : List Sm) : List Nat := leb xs.length ++ (blkd (tmsC xs) ++ blkd (vlsC xs))
def encC (t : List UInt8) (xs : List Sm) : List Nat × Int := if 64 < t.length ∨ 65536 < xs.length then ([], 4) else (1 :: (blkd (nb t) ++ bodyC xs), 0)
def mostC (n : Nat) : Nat := 1 + 8 * min n 65536
def noC (e : Int) : (List UInt8 × List Sm) × Int := (([], []), e)
def decC4 (t : List UInt8) (n : Nat) (ts vs : List Nat) : (List UInt8 × List Sm) × Int :=
  if (decI ts n).2 ≠ 0 then noC (decI ts n).2 else if (dec11 vs n).2 ≠ 0 then noC (dec11 vs n).2 else ((t, (decI ts n).1.zip (dec11 vs n).1), 0)
def decC3 (t : List UInt8) (n : Nat) (b : List Nat) : (List UInt8 × List Sm) × Int :=
  if (blk b (mostC n)).2.1 ≠ 0 then noC (blk b (mostC n)).2.1
  else if (blk (blk b (mostC n)).2.2 (mostC n)).2.1 ≠ 0 then noC (blk (blk b (mostC n)).2.2 (mostC n)).2.1
  else if (blk (blk b (mostC n)).2.2 (mostC n)).2.2 ≠ [] then noC 3
  else decC4 t n (blk b (mostC n)).1 (blk (blk b (mostC n)).2.2 (mostC n)).1
def decC2 (t : List UInt8) (b : List Nat) : (List UInt8 × List Sm) × Int :=
  if (readV b).2.2 ≠ 0 then noC (readV b).2.2 else if 65536 < (readV b).1 then noC 4 else decC3 t (readV b).1 (b.drop (readV b).2.1)
def decC1 (b : List Nat) : (List UInt8 × List Sm) × Int := if (blk b 64).2.1 ≠ 0 then noC (blk b 64).2.1 else decC2 (ub (blk b 64).1) (blk b 64).2.2
def decC (b : List Nat) : (List UInt8 × List Sm) × Int := match b with
  | [] => noC 2
  | h :: b => if h ≠ 1 then noC 3 else decC1 b
theorem awakeC_enc : encC [97] [(5, 7)] = ([1, 1, 97, 1, 2, 1, 10, 9, 0, 0, 0, 0, 0, 0, 0, 0, 7], 0) := by decide +kernel
theorem awakeC_dec : decC [1, 1, 97, 1, 2, 1, 10, 9, 0, 0, 0, 0, 0, 0, 0, 0, 7] = (([97], [(5, 7)]), 0) := by decide +kernel
def smOK (xs : List Sm) : Prop := ∀ x ∈ xs, i64r x.1 ∧ x.2 < 2 ^ 64
theorem smOK.t {xs : List Sm} (h : smOK xs) : ∀ x ∈ xs.map Prod.fst, i64r x := by
  intro x hx
  obtain ⟨y, hy, rfl⟩ := List.mem_map.1 hx
  exact (h y hy).1
theorem smOK.v {xs : List Sm} (h : smOK xs) : ∀ x ∈ xs.map Prod.snd, x < 2 ^ 64 := by
  intro x hx
  obtain ⟨y, hy, rfl⟩ := List.mem_map.1 hx
  exact (h y hy).2
theorem tmsC_len {xs : List Sm} (hl : xs.length ≤ 65536) : (tmsC xs).length ≤ mostC xs.length := by
  have := encI_short (xs := xs.map Prod.fst) (by simpa using hl)
  rw [List.length_map] at this
  unfold tmsC mostC; omega
theorem vlsC_len {xs : List Sm} (hl : xs.length ≤ 65536) : (vlsC xs).length ≤ mostC xs.length := by
  have := encV_len (xs.map Prod.snd)
  rw [List.length_map] at this
  unfold vlsC mostC; omega
theorem mostC_le (n : Nat) : mostC n ≤ 524289 := by unfold mostC; omega
theorem leb3 {n : Nat} (h : n ≤ 524289) : (leb n).length ≤ 3 := leb_len 2 n (by omega)
theorem bodyC_len {xs : List Sm} (hl : xs.length ≤ 65536) : (bodyC xs).length ≤ 3 + 2 * (3 + mostC xs.length) := by
  have h1 := tmsC_len hl
  have h2 := vlsC_len hl
  have h3 := mostC_le xs.length
  have h4 : (leb xs.length).length ≤ 3 := leb3 (by omega)
  have h5 : (leb (tmsC xs).length).length ≤ 3 := leb3 (by omega)
  have h6 : (leb (vlsC xs).length).length ≤ 3 := leb3 (by omega)
  unfold bodyC
  rw [List.length_append, List.length_append, blkd_len, blkd_len]
  omega
theorem leb_64 {n : Nat} (h : n ≤ 64) : (leb n).length = 1 := by rw [leb_lt (by omega)]; rfl
theorem encC_room {t : List UInt8} {xs : List Sm} : (encC t xs).1.length ≤ 2 ^ 21 := by
  unfold encC
  split
  · simp
  · rename_i h
    have h1 := bodyC_len (xs := xs) (by omega)
    have h2 := leb_64 (n := t.length) (by omega)
    have h3 := mostC_le xs.length
    simp only [List.length_cons, List.length_append, blkd_len, nb_len]
    omega
theorem encC_ok {t : List UInt8} {xs : List Sm} (ht : t.length ≤ 64) (hl : xs.length ≤ 65536) : encC t xs = (1 :: (blkd (nb t) ++ bodyC xs), 0) := by
  rw [encC, if_neg (by omega)]
theorem decC4_inv {t : List UInt8} {n : Nat} {ts vs : List Nat} (hn : n ≤ 65536) (h : (decC4 t n ts vs).2 = 0) : ∃ xs : List Sm, decC4 t n ts vs = ((t, xs), 0) ∧ xs.length = n ∧ tmsC xs = ts ∧ vlsC xs = vs := by
  unfold decC4 at h ⊢
  split at h
  · rename_i h1; exact absurd h h1
  · rename_i h1
    rw [if_neg h1]
    split at h
    · rename_i h2; exact absurd h h2
    · rename_i h2
      rw [if_neg h2]
      have h1 : (decI ts n).2 = 0 := by simpa using h1
      have h2 : (dec11 vs n).2 = 0 := by simpa using h2
      have l1 := decI_n h1
      have l2 := dec11_n h2
      rw [Int.toNat_natCast] at l1 l2
      obtain ⟨_, _, t1, r1, e1, _, _, _, a1⟩ := decI_ok h1
      obtain ⟨_, _, t2, r2, e2, _, _, _, a2⟩ := dec11_ok h2
      refine ⟨_, rfl, by rw [List.length_zip, l1, l2, Nat.min_self], ?_, ?_⟩
      · rw [tmsC, List.map_fst_zip (by omega), a1, e1]
      · rw [vlsC, List.map_snd_zip (by omega), a2]
theorem decC_inv {b : List Nat} (hb : ∀ x ∈ b, x < 256) (h : (decC b).2 = 0) : ∃ (t : List UInt8) (xs : List Sm), decC b = ((t, xs), 0) ∧ t.length ≤ 64 ∧ xs.length ≤ 65536 ∧ (encC t xs).1 = b := by
  cases b with
  | nil => cases h
  | cons x b =>
    unfold decC at h ⊢
    simp only at h ⊢
    split at h
    · cases h
    · rename_i hx
      rw [if_neg hx]
      have hx1 : x = 1 := by simpa using hx
      subst hx1
      have hb1 : ∀ x ∈ b, x < 256 := fun x hx => hb x (by simp [hx])
      unfold decC1 at h ⊢
      split at h
      · rename_i c1; exact absurd h c1
      · rename_i c1
        rw [if_neg c1]
        obtain ⟨p1, p2⟩ := blk_canon hb1 (m := 64) (by simpa using c1)
        obtain ⟨y1, y2, _, _⟩ := blk_byte (m := 64) hb1
        generalize blk b 64 = q at *
        obtain ⟨l1, e1, r1⟩ := q
        simp only at *
        unfold decC2 at h ⊢
        split at h
        · rename_i c2; exact absurd h c2
        · rename_i c2
          rw [if_neg c2]
          split at h
          · cases h
          · rename_i c3
            rw [if_neg c3]
            obtain ⟨v1, v2⟩ := readV_canon2 y2 (by simpa using c2)
            generalize readV r1 = u at *
            obtain ⟨n, m, e2⟩ := u
            simp only at *
            have y3 : ∀ x ∈ r1.drop m, x < 256 := fun x hx => y2 x (List.mem_of_mem_drop hx)
            generalize r1.drop m = r2 at *
            unfold decC3 at h ⊢
            split at h
            · rename_i c4; exact absurd h c4
            · rename_i c4
              rw [if_neg c4]
              obtain ⟨p3, _⟩ := blk_canon y3 (m := mostC n) (by simpa using c4)
              obtain ⟨_, y4, _, _⟩ := blk_byte (m := mostC n) y3
              generalize blk r2 (mostC n) = q2 at *
              obtain ⟨l2, e3, r3⟩ := q2
              simp only at *
              split at h
              · rename_i c5; exact absurd h c5
              · rename_i c5
                rw [if_neg c5]
                obtain ⟨p4, _⟩ := blk_canon y4 (m := mostC n) (by simpa using c5)
                generalize blk r3 (mostC n) = q3 at *
                obtain ⟨l3, e4, r4⟩ := q3
                simp only at *
                split at h
                · cases h
                · rename_i c6
                  rw [if_neg c6]
                  have c6 : r4 = [] := by simpa using c6
                  subst c6
                  obtain ⟨xs, z1, z2, z3, z4⟩ := decC4_inv (by omega) h
                  refine ⟨_, xs, z1, by rw [ub_len]; exact p2, by omega, ?_⟩
                  rw [encC_ok (by rw [ub_len]; exact p2) (by omega)]
                  simp only
                  congr 1
                  rw [nb_ub y1, bodyC, z2, z3, z4, p1, v1, p3, p4]
                  simp [blkd]
theorem decC_bad {b : List Nat} (h : (decC b).2 ≠ 0) : (decC b).1 = ([], []) := by
  cases b with
  | nil => rfl
  | cons x b =>
    unfold decC at h ⊢
    simp only at h ⊢
    split
    · rfl
    · rename_i hx
      rw [if_neg hx] at h
      unfold decC1 at h ⊢
      split
      · rfl
      · rename_i c1
        rw [if_neg c1] at h
        unfold decC2 at h ⊢
        split
        · rfl
        · rename_i c2
          rw [if_neg c2] at h
          split
          · rfl
          · rename_i c3
            rw [if_neg c3] at h
            unfold decC3 at h ⊢
            split
            · rfl
            · rename_i c4
              rw [if_neg c4] at h
              split
              · rfl
              · rename_i c5
                rw [if_neg c5] at h
                split
                · rfl
                · rename_i c6
                  rw [if_neg c6] at h
                  unfold decC4 at h ⊢
                  split
                  · rfl
                  · rename_i c7
                    rw [if_neg c7] at h
                    split
                    · rfl
                    · rename_i c8
                      rw [if_neg c8] at h
                      exact absurd rfl h
end Go.Ck
namespace Go.Ck
def sms (xs : List Sm) : List PV := xs.map fun x => .agg [.int .i64 x.1, .int .u64 (x.2 : Nat)]
def chP (c : List UInt8 × List Sm) : PV := .agg [.str c.1, .sl 2 (sms c.2)]
theorem sms_len (xs : List Sm) : (sms xs).length = xs.length := by simp [sms]
theorem numsOf_byt (l : List Nat) : numsOf (bytes l) = some (l.map fun n : Nat => (n : Int)) := by
  induction l with
  | nil => rfl
  | cons a r ih => 
    show numsOf (.int .u8 (a : Int) :: bytes r) = _
    rw [numsOf, ih]; rfl
theorem ofNums_ub (l : List Nat) : ofNums (l.map fun n : Nat => (n : Int)) = ub l := by
  unfold ofNums ub
  rw [List.map_map]
  exact List.map_congr_left (fun x _ => by simp)
theorem strBytes_nb (s : List UInt8) : strBytes s = bytes (nb s) := by
  unfold strBytes nb bytes
  rw [List.map_map]; rfl
end Go.Ck

set_option linter.unusedVariables false
set_option maxRecDepth 10000
set_option maxHeartbeats 1000000
namespace Go.Ck
open Go.Proofs
def wrongE (e : Int) : PV := .iface 53 (.agg [.int .i64 e])
theorem need_fn (e : Int) : FnP Tryz.prog 28 [] [.pv (.int .i64 e)] (fun rs H' => e = 0 ∧ rs = [] ∧ H' = []) (fun p H' => e ≠ 0 ∧ p = wrongE e ∧ H' = []) := by
  refine FnP.of_body (fn := Tryz.f28) (n := 7) (res := []) (by kernel_rfl) rfl rfl rfl rfl rfl (fun C => ?_)
  refine AW.go ?_
  refine AW.cond rfl (fun hc => ?_) (fun hc => ?_)
  · have he : e ≠ 0 := by simpa using hc
    refine AW.go ?_
    refine AW.panicO (fun ch hch => ?_)
    exact AW.endP hch ⟨he, rfl, rfl⟩
  · have he : e = 0 := by simpa using hc
    refine AW.go ?_
    refine AW.finP .nil ⟨he, rfl, rfl⟩

theorem chunkBlock_fn (l : List Nat) (m : Nat) (hm : m < 2 ^ 63) (hl : l.length ≤ room) (hb : ∀ x ∈ l, x < 256) : FnP Tryz.prog 29 (curO l) [.ptr 1000 0, .pv (.int .i64 m)]
    (fun rs H' => (blk l m).2.1 = 0 ∧ rs = [.own 5 (bytes (blk l m).1)] ∧ H' = curO (blk l m).2.2) (fun p H' => (blk l m).2.1 ≠ 0 ∧ p = wrongE (blk l m).2.1 ∧ H' = curO (blk l m).2.2) := by
  refine FnP.of_body (fn := Tryz.f29) (n := 16) (res := [.tmp 4]) (by kernel_rfl) rfl rfl rfl rfl rfl (fun C => ?_)
  refine AW.go ?_
  refine AW.callE id (curBlock_fn l m hm hl hb) (.ptr rfl (.pv _ .nil)) ?_
  generalize blk l m = q
  obtain ⟨b, e, r⟩ := q
  refine AW.go ?_
  refine AW.callPE (fun _ => 0) (need_fn e) (.pv _ .nil) (fun he ch hch => ?_) (fun he => ?_)
  · exact AW.endP hch ⟨he, rfl, rfl⟩
  refine AW.go ?_
  refine AW.finP (.move rfl .nil) ⟨he, rfl, rfl⟩

theorem most_fn (n : Int) (h : n < 2 ^ 63) : Fn Tryz.prog 9 [] [.pv (.int .i64 n)] (fun rs H' => rs = [.pv (.int .i64 (mostC n.toNat : Nat))] ∧ H' = []) := by
  refine Fn.of_body (fn := Tryz.f9) (n := 8) (res := [.tmp 2]) (by kernel_rfl) rfl rfl rfl rfl rfl (fun C => ?_)
  have e1 : (if (0 : Int) > n then 0 else n) = (n.toNat : Int) := by split <;> omega
  have e2 : (if (65536 : Int) < (n.toNat : Int) then (65536 : Int) else (n.toNat : Int)) = ((min n.toNat 65536 : Nat) : Int) := by split <;> omega
  have e3 : IntKind.i64.wrap (8 * ((min n.toNat 65536 : Nat) : Int)) = ((8 * min n.toNat 65536 : Nat) : Int) := (wrap_i64_of (by omega) (by omega)).trans (by simp)
  have e4 : IntKind.i64.wrap (1 + ((8 * min n.toNat 65536 : Nat) : Int)) = ((mostC n.toNat : Nat) : Int) := (wrap_i64_of (by omega) (by omega)).trans (by simp [mostC])
  refine AW.go ?_ (by simp only [go_sem, ↓reduceIte, e1, e2, e3, e4] <;> rfl)
  refine AW.finE (.pv _ .nil) rfl

def decO (x y : SV) (e : Int) : List (Nat × HO) := [(1002, .cells 24 [x, y]), (1003, .cells 27 [.pv (.int .i64 e)])]
attribute [go_sem] decO
theorem decRet_fn (x y : PV) (e : Int) : FnD Tryz.prog 25 (decO (.pv x) (.pv y) e) (ptrS [1002, 1003]) .returning .returning (fun H' => H' = decO (.pv x) (.pv y) e) := by
  refine FnD.of_rec (fn := Tryz.f25) (n := 14) (d := 5) (p := .nili) (by kernel_rfl) rfl rfl rfl rfl rfl rfl rfl rfl rfl (.inl ⟨rfl, rfl, rfl⟩) (fun C => ?_)
  refine AW.go ?_
  refine AW.eqNilI tk_20 ?_
  refine AW.condT (by simp only [go_sem, ↓reduceIte]) ?_
  refine AW.go ?_
  refine AW.finE .nil rfl
theorem decRec_fn (x : PV) (e0 e : Int) {ch : List PanicEntry} (hch : Pan ch (wrongE e)) : FnD Tryz.prog 25 (decO (.pv x) .nils e0) (ptrS [1002, 1003]) (.panicking ch) (recd ch) (fun H' => H' = decO (.pv (.str [])) (.pv (.sl 2 [])) e) := by
  refine FnD.of_rec (fn := Tryz.f25) (n := 14) (d := 5) (p := wrongE e) (by kernel_rfl) rfl rfl rfl rfl rfl rfl rfl rfl rfl (.inr ⟨ch, rfl, hch, rfl⟩) (fun C => ?_)
  refine AW.go ?_
  refine AW.eqNilI tk_20 ?_
  refine AW.condF (by simp only [go_sem, ↓reduceIte]) ?_
  refine AW.go ?_
  refine AW.assertT tk_53 ?_
  refine AW.go ?_
  refine AW.condT rfl ?_
  refine AW.go ?_
  refine AW.any0 mixed ?_
  refine AW.takes (fuel := 4) [1] ?_ (by simp only [go_sem, ↓reduceIte] <;> rfl) Ends.noPanic (listed' := #[false, true, false, false, false]) (by decide +kernel) (by decide +kernel)
  refine AW.branch (fuel := 3) (rs := [0, 2]) ?_ (by decide +kernel) (by simp)
  intro j hj
  simp only [List.mem_cons, List.not_mem_nil, or_false] at hj
  rcases hj with rfl | rfl
  · skip
    refine AW.gg ?_
    refine AW.branch (fuel := 2) (rs := [2, 3]) ?_ (by decide +kernel) (by simp)
    intro j hj
    simp only [List.mem_cons, List.not_mem_nil, or_false] at hj
    rcases hj with rfl | rfl
    · skip
      refine AW.gg ?_
      refine AW.seqs (fuel := 0) (listed' := #[true, true, true, true, true]) [3, 4] ?_ (by decide +kernel)
      refine AW.gg ?_
      refine AW.anyDone (by decide +kernel) ?_
      refine AW.go ?_
      refine AW.nilsOwnAt (.cell 1002 1) 41 ?_
      refine AW.freeze (p := .cell 1002 1) (by simp only [go_sem, ↓reduceIte, freeze, freezeO] <;> rfl) ?_
      refine AW.finE .nil rfl
    · skip
      refine AW.gg ?_
      refine AW.seqs (fuel := 0) (listed' := #[true, true, true, true, true]) [2, 4] ?_ (by decide +kernel)
      refine AW.gg ?_
      refine AW.anyDone (by decide +kernel) ?_
      refine AW.go ?_
      refine AW.nilsOwnAt (.cell 1002 1) 41 ?_
      refine AW.freeze (p := .cell 1002 1) (by simp only [go_sem, ↓reduceIte, freeze, freezeO] <;> rfl) ?_
      refine AW.finE .nil rfl
  · skip
    refine AW.gg ?_
    refine AW.seqs (fuel := 0) (listed' := #[true, true, true, true, true]) [0, 3, 4] ?_ (by decide +kernel)
    refine AW.gg ?_
    refine AW.anyDone (by decide +kernel) ?_
    refine AW.go ?_
    refine AW.nilsOwnAt (.cell 1002 1) 41 ?_
    refine AW.freeze (p := .cell 1002 1) (by simp only [go_sem, ↓reduceIte, freeze, freezeO] <;> rfl) ?_
    refine AW.finE .nil rfl
end Go.Ck

set_option linter.unusedVariables false
set_option maxRecDepth 10000
set_option maxHeartbeats 1000000
namespace Go.Ck
open Go.Proofs
theorem chunkDec_fn (b : List Nat) (hl : b.length ≤ 2 ^ 40) (hb : ∀ x ∈ b, x < 256) : Fn Tryz.prog 12 [] [.pv (.sl 1 (bytes b))]
    (fun rs H' => rs = [.pv (chP (decC b).1), .pv (.int .i64 (decC b).2)] ∧ H' = []) := by
  refine Fn.of_bodyD 25 [1002, 1003] (fn := Tryz.f12) (n := 91) (res := [.cell 2 24, .cell 3 27]) (by kernel_rfl) rfl rfl rfl rfl rfl (fun C => ?_)
  have hr : room = 140737488355328 := rfl
  have hbad : ∀ e, decC b = noC e → [SV.pv (.agg [.str [], .sl 2 []]), .pv (.int .i64 e)] = [SV.pv (chP (decC b).1), .pv (.int .i64 (decC b).2)] := fun e h => by rw [h]; rfl
  refine AW.seq ?_
  refine AW.region ?_
  refine AW.allocAt 1002 ?_
  refine AW.allocAt 1003 ?_
  refine AW.go ?_
  refine AW.defer [1002, 1003] ?_
  refine AW.go ?_
  refine AW.callE (fun _ => 4) (curNew_fn b (by omega)) (.pv _ .nil) ?_
  refine AW.go ?_
  refine AW.callE (fun _ => 4) (curByte_fn b (by omega)) (.ptr rfl .nil) ?_
  refine AW.go ?_
  refine AW.callPE (fun _ => 0) (need_fn _) (.pv _ .nil) (fun he ch hch => ?_) (fun he => ?_)
  · have hn : b = [] := Classical.byContradiction fun h => he (if_neg h)
    subst hn
    exact AW.finDP hch (decRec_fn _ _ _ hch) (.pv _ (.pv _ .nil)) ⟨hbad 2 rfl, rfl⟩
  obtain ⟨x, r, rfl⟩ : ∃ x r, b = x :: r := by
    cases b with
    | nil => simp at he
    | cons x r => exact ⟨x, r, rfl⟩
  simp only [List.tail_cons, List.headD_cons]
  have hx := hb x (by simp)
  have hb1 : ∀ y ∈ r, y < 256 := fun y hy => hb y (by simp [hy])
  have hl1 : r.length ≤ 2 ^ 40 := by simp at hl; omega
  refine AW.go ?_
  refine AW.cond rfl (fun hc => ?_) (fun hc => ?_)
  · have hx1 : x ≠ 1 := by simp at hc; omega
    refine AW.go ?_
    refine AW.callPE (fun _ => 0) (need_fn 3) (.pv _ .nil) (fun he ch hch => ?_) (fun he => absurd he (by decide))
    exact AW.finDP hch (decRec_fn _ _ _ hch) (.pv _ (.pv _ .nil)) ⟨hbad _ (by rw [decC]; exact if_pos hx1), rfl⟩
  have hx1 : x = 1 := by simp at hc; omega
  subst hx1
  have e1 : decC (1 :: r) = decC1 r := by show (if (1 : Nat) ≠ 1 then noC 3 else decC1 r) = _; exact if_neg (by simp)
  rw [e1] at hbad ⊢
  clear e1 hb hx hl hc he
  refine AW.go ?_
  refine AW.callPE (fun _ => 4) (chunkBlock_fn r 64 (by decide) (by omega) hb1) (.ptr rfl (.pv _ .nil)) (fun he ch hch => ?_) (fun he => ?_)
  · exact AW.finDP hch (decRec_fn _ _ _ hch) (.pv _ (.pv _ .nil)) ⟨hbad _ (by rw [decC1, if_pos he]), rfl⟩
  have e2 : decC1 r = decC2 (ub (blk r 64).1) (blk r 64).2.2 := by rw [decC1, if_neg (by simpa using he)]
  rw [e2] at hbad ⊢
  obtain ⟨hbt, hb2, hlt, hl2⟩ := blk_byte (m := 64) hb1
  generalize blk r 64 = q at *
  obtain ⟨tb, te, r2⟩ := q
  simp only at *
  have hl2 : r2.length ≤ 2 ^ 40 := by omega
  clear e2 he
  refine AW.go ?_ (by simp only [go_sem, ↓reduceIte, numsOf_byt, ofNums_ub] <;> rfl)
  generalize ub tb = t at *
  refine AW.callE (fun _ => 4) (curVarint_fn r2 (by omega) hb2) (.ptr rfl .nil) ?_
  refine AW.go ?_
  refine AW.callPE (fun _ => 0) (need_fn _) (.pv _ .nil) (fun he ch hch => ?_) (fun he => ?_)
  · exact AW.finDP hch (decRec_fn _ _ _ hch) (.pv _ (.pv _ .nil)) ⟨hbad _ (by rw [decC2, if_pos he]), rfl⟩
  have e3 : decC2 t r2 = if 65536 < (readV r2).1 then noC 4 else decC3 t (readV r2).1 (r2.drop (readV r2).2.1) := by rw [decC2, if_neg (by simpa using he)]
  rw [e3] at hbad ⊢
  have hb3 : ∀ y ∈ r2.drop (readV r2).2.1, y < 256 := fun y hy => hb2 y (List.mem_of_mem_drop hy)
  have hl3 : (r2.drop (readV r2).2.1).length ≤ 2 ^ 40 := by rw [List.length_drop]; omega
  clear e3 he
  generalize r2.drop (readV r2).2.1 = r3 at *
  generalize (readV r2).1 = n at *
  refine AW.go ?_
  refine AW.cond rfl (fun hc => ?_) (fun hc => ?_)
  · have hn : 65536 < n := by simp at hc; omega
    refine AW.go ?_
    refine AW.callPE (fun _ => 0) (need_fn 4) (.pv _ .nil) (fun he ch hch => ?_) (fun he => absurd he (by decide))
    exact AW.finDP hch (decRec_fn _ _ _ hch) (.pv _ (.pv _ .nil)) ⟨hbad _ (by rw [if_pos hn]), rfl⟩
  have hn : n ≤ 65536 := by simp at hc; omega
  rw [if_neg (by omega)] at hbad ⊢
  have en : IntKind.i64.wrap (n : Int) = (n : Int) := wrap_i64_nat (by omega)
  have hm := mostC_le n
  refine AW.go ?_ (by simp only [go_sem, ↓reduceIte, en] <;> rfl)
  refine AW.callE (fun _ => 0) (most_fn n (by omega)) (.pv _ .nil) ?_
  refine AW.go ?_
  refine AW.callPE (fun _ => 4) (chunkBlock_fn r3 (mostC n) (by omega) (by omega) hb3) (.ptr rfl (.pv _ .nil)) (fun he ch hch => ?_) (fun he => ?_)
  · exact AW.finDP hch (decRec_fn _ _ _ hch) (.pv _ (.pv _ .nil)) ⟨hbad _ (by rw [decC3, if_pos he]), rfl⟩
  rw [decC3, if_neg (by simpa using he)] at hbad ⊢
  obtain ⟨hbts, hb4, hlts, hl4⟩ := blk_byte (m := mostC n) hb3
  generalize blk r3 (mostC n) = q at *
  obtain ⟨ts, te2, r4⟩ := q
  simp only at *
  have hl4 : r4.length ≤ 2 ^ 40 := by omega
  refine AW.go ?_ (by simp only [go_sem, ↓reduceIte, en] <;> rfl)
  refine AW.callE (fun _ => 0) (most_fn n (by omega)) (.pv _ .nil) ?_
  refine AW.go ?_
  refine AW.callPE (fun _ => 4) (chunkBlock_fn r4 (mostC n) (by omega) (by omega) hb4) (.ptr rfl (.pv _ .nil)) (fun he ch hch => ?_) (fun he => ?_)
  · exact AW.finDP hch (decRec_fn _ _ _ hch) (.pv _ (.pv _ .nil)) ⟨hbad _ (by rw [if_pos he]), rfl⟩
  rw [if_neg (by simpa using he)] at hbad ⊢
  obtain ⟨hbvs, hb5, hlvs, hl5⟩ := blk_byte (m := mostC n) hb4
  generalize blk r4 (mostC n) = q at *
  obtain ⟨vs, te3, r5⟩ := q
  simp only at *
  refine AW.go ?_
  refine AW.callE (fun _ => 4) (curEnd_fn r5) (.ptr rfl .nil) ?_
  refine AW.go ?_
  refine AW.callPE (fun _ => 0) (need_fn _) (.pv _ .nil) (fun he ch hch => ?_) (fun he => ?_)
  · have h5 : r5 ≠ [] := fun h => he (if_pos h)
    rw [if_neg h5] at hch
    exact AW.finDP hch (decRec_fn _ _ _ hch) (.pv _ (.pv _ .nil)) ⟨hbad _ (by rw [if_pos h5]), rfl⟩
  have h5 : r5 = [] := Classical.byContradiction fun h => by rw [if_neg h] at he; exact absurd he (by decide)
  rw [if_neg (by simpa using h5)] at hbad ⊢
  refine AW.go ?_ (by simp only [go_sem, ↓reduceIte, en] <;> rfl)
  refine AW.callE (fun _ => 0) (decI_fn ts n (by omega) hbts) (.lend rfl co_5 (.pv _ .nil)) ?_
  refine AW.go ?_
  refine AW.callPE (fun _ => 0) (need_fn _) (.pv _ .nil) (fun he ch hch => ?_) (fun he => ?_)
  · exact AW.finDP hch (decRec_fn _ _ _ hch) (.pv _ (.pv _ .nil)) ⟨hbad _ (by rw [decC4, if_pos he]), rfl⟩
  rw [decC4, if_neg (by simpa using he)] at hbad ⊢
  have ha := decI_n he
  rw [Int.toNat_natCast] at ha
  generalize (decI ts n).1 = a at *
  refine AW.go ?_ (by simp only [go_sem, ↓reduceIte, en] <;> rfl)
  refine AW.callE (fun _ => 0) (vdec_fn vs n (by omega) hbvs) (.lend rfl co_5 (.pv _ .nil)) ?_
  refine AW.go ?_
  refine AW.callPE (fun _ => 0) (need_fn _) (.pv _ .nil) (fun he ch hch => ?_) (fun he => ?_)
  · exact AW.finDP hch (decRec_fn _ _ _ hch) (.pv _ (.pv _ .nil)) ⟨hbad _ (by rw [if_pos he]), rfl⟩
  rw [if_neg (by simpa using he)] at hbad ⊢
  have hv := dec11_n he
  rw [Int.toNat_natCast] at hv
  rw [he]
  generalize (dec11 vs n).1 = v at *
  refine AW.go ?_
  refine AW.nilsOwnAt (.cell 1002 1) 41 ?_
  refine AW.loopS (fun p : Nat × List Sm => ⟨91, [(72, .pv (.int .i64 p.1)), (71, .pv (.int .i64 a.length)), (2, .ptr 1002 0), (3, .ptr 1003 0), (9, .own 3 (ints a)), (10, .own 39 (u64s v))], [(1002, .cells 24 [.pv (.str t), .own 41 (sms p.2)]), (1003, .cells 27 [.pv (.int .i64 0)])]⟩) (fun p => p.1 ≤ a.length ∧ p.2 = (a.zip v).take p.1) (fun p => a.length - p.1) [72, 71, 2, 3, 9, 10] [1002, 1003] (0, []) ⟨Nat.zero_le _, rfl⟩ ?_
  rintro ⟨i, Z⟩ ⟨hi, hZ⟩ K hK
  simp only at hi hZ
  have hzl : (a.zip v).length = n := by rw [List.length_zip, ha, hv, Nat.min_self]
  have hZl : Z.length = i := by rw [hZ, List.length_take]; omega
  refine AW.go ?_
  refine AW.cond rfl (fun hc => ?_) (fun hc => ?_)
  · have hlt : i < a.length := by simpa using hc
    have hlv : i < v.length := by omega
    have h1 := ints_at (getDi hlt)
    have h2 := u64s_at (getDn hlv)
    have hz : (a.zip v)[i]? = some (a.getD i 0, v.getD i 0) := List.getElem?_zip_eq_some.2 ⟨getDi hlt, getDn hlv⟩
    have hZ1 : Z ++ [(a.getD i 0, v.getD i 0)] = (a.zip v).take (i + 1) := by rw [List.take_add_one, hz, hZ]; rfl
    generalize a.getD i 0 = x at *
    generalize v.getD i 0 = y at *
    have h3 : sms Z ++ [.agg [.int .i64 x, .int .u64 (y : Nat)]] = sms (Z ++ [(x, y)]) := by simp [sms]
    have h4 : (Z.length + 1) * 16 ≤ room := by omega
    have h5 : Z.length + 1 ≤ room := by omega
    have ei : IntKind.i64.wrap ((i : Int) + 1) = ((i + 1 : Nat) : Int) := wrap_i64_succ (by omega)
    refine AW.go ?_
    refine AW.apart ?_
    refine AW.any0 mixed ?_
    refine AW.takes (fuel := 8) [0, 2, 3, 6, 7, 4, 8] ?_ (by simp only [go_sem, ↓reduceIte, hlt, hlv, h1, h2, sms_len, h3, h4, h5, ei] <;> rfl) Nowhere.noPanic (listed' := #[true, false, true, true, true, false, true, true, true, false, false, false, false, false, false]) (by decide +kernel) (by decide +kernel)
    refine AW.branch (fuel := 7) (rs := [1, 5, 9]) ?_ (by decide +kernel) (by simp)
    intro j hj
    simp only [List.mem_cons, List.not_mem_nil, or_false] at hj
    rcases hj with rfl | rfl | rfl
    · skip
      refine AW.gg ?_ (by simp only [go_sem, ↓reduceIte, hlt, hlv, h1, h2, sms_len, h3, h4, h5, ei] <;> rfl)
      refine AW.branch (fuel := 6) (rs := [5, 9]) ?_ (by decide +kernel) (by simp)
      intro j hj
      simp only [List.mem_cons, List.not_mem_nil, or_false] at hj
      rcases hj with rfl | rfl
      · skip
        refine AW.gg ?_ (by simp only [go_sem, ↓reduceIte, hlt, hlv, h1, h2, sms_len, h3, h4, h5, ei] <;> rfl)
        refine AW.seqs (fuel := 0) (listed' := #[true, true, true, true, true, true, true, true, true, true, true, true, true, true, true]) [9, 10, 11, 12, 13, 14] ?_ (by decide +kernel)
        refine AW.gg ?_ (by simp only [go_sem, ↓reduceIte, hlt, hlv, h1, h2, sms_len, h3, h4, h5, ei] <;> rfl)
        refine AW.anyDone (by decide +kernel) ?_
        refine AW.stop ?_
        refine AW.go ?_ (by simp only [go_sem, ↓reduceIte, ei] <;> rfl)
        exact AW.again hK (i + 1, Z ++ [(x, y)]) ⟨by simp only; omega, hZ1⟩ (by simp only; omega)
      · skip
        refine AW.gg ?_ (by simp only [go_sem, ↓reduceIte, hlt, hlv, h1, h2, sms_len, h3, h4, h5, ei] <;> rfl)
        refine AW.seqs (fuel := 0) (listed' := #[true, true, true, true, true, true, true, true, true, true, true, true, true, true, true]) [5, 10, 11, 12, 13, 14] ?_ (by decide +kernel)
        refine AW.gg ?_ (by simp only [go_sem, ↓reduceIte, hlt, hlv, h1, h2, sms_len, h3, h4, h5, ei] <;> rfl)
        refine AW.anyDone (by decide +kernel) ?_
        refine AW.stop ?_
        refine AW.go ?_ (by simp only [go_sem, ↓reduceIte, ei] <;> rfl)
        exact AW.again hK (i + 1, Z ++ [(x, y)]) ⟨by simp only; omega, hZ1⟩ (by simp only; omega)
    · skip
      refine AW.gg ?_ (by simp only [go_sem, ↓reduceIte, hlt, hlv, h1, h2, sms_len, h3, h4, h5, ei] <;> rfl)
      refine AW.branch (fuel := 6) (rs := [1, 9]) ?_ (by decide +kernel) (by simp)
      intro j hj
      simp only [List.mem_cons, List.not_mem_nil, or_false] at hj
      rcases hj with rfl | rfl
      · skip
        refine AW.gg ?_ (by simp only [go_sem, ↓reduceIte, hlt, hlv, h1, h2, sms_len, h3, h4, h5, ei] <;> rfl)
        refine AW.seqs (fuel := 0) (listed' := #[true, true, true, true, true, true, true, true, true, true, true, true, true, true, true]) [9, 10, 11, 12, 13, 14] ?_ (by decide +kernel)
        refine AW.gg ?_ (by simp only [go_sem, ↓reduceIte, hlt, hlv, h1, h2, sms_len, h3, h4, h5, ei] <;> rfl)
        refine AW.anyDone (by decide +kernel) ?_
        refine AW.stop ?_
        refine AW.go ?_ (by simp only [go_sem, ↓reduceIte, ei] <;> rfl)
        exact AW.again hK (i + 1, Z ++ [(x, y)]) ⟨by simp only; omega, hZ1⟩ (by simp only; omega)
      · skip
        refine AW.gg ?_ (by simp only [go_sem, ↓reduceIte, hlt, hlv, h1, h2, sms_len, h3, h4, h5, ei] <;> rfl)
        refine AW.branch (fuel := 5) (rs := [1, 10]) ?_ (by decide +kernel) (by simp)
        intro j hj
        simp only [List.mem_cons, List.not_mem_nil, or_false] at hj
        rcases hj with rfl | rfl
        · skip
          refine AW.gg ?_ (by simp only [go_sem, ↓reduceIte, hlt, hlv, h1, h2, sms_len, h3, h4, h5, ei] <;> rfl)
          refine AW.seqs (fuel := 0) (listed' := #[true, true, true, true, true, true, true, true, true, true, true, true, true, true, true]) [10, 11, 12, 13, 14] ?_ (by decide +kernel)
          refine AW.gg ?_ (by simp only [go_sem, ↓reduceIte, hlt, hlv, h1, h2, sms_len, h3, h4, h5, ei] <;> rfl)
          refine AW.anyDone (by decide +kernel) ?_
          refine AW.stop ?_
          refine AW.go ?_ (by simp only [go_sem, ↓reduceIte, ei] <;> rfl)
          exact AW.again hK (i + 1, Z ++ [(x, y)]) ⟨by simp only; omega, hZ1⟩ (by simp only; omega)
        · skip
          refine AW.gg ?_ (by simp only [go_sem, ↓reduceIte, hlt, hlv, h1, h2, sms_len, h3, h4, h5, ei] <;> rfl)
          refine AW.branch (fuel := 4) (rs := [1, 11]) ?_ (by decide +kernel) (by simp)
          intro j hj
          simp only [List.mem_cons, List.not_mem_nil, or_false] at hj
          rcases hj with rfl | rfl
          · skip
            refine AW.gg ?_ (by simp only [go_sem, ↓reduceIte, hlt, hlv, h1, h2, sms_len, h3, h4, h5, ei] <;> rfl)
            refine AW.seqs (fuel := 0) (listed' := #[true, true, true, true, true, true, true, true, true, true, true, true, true, true, true]) [11, 12, 13, 14] ?_ (by decide +kernel)
            refine AW.gg ?_ (by simp only [go_sem, ↓reduceIte, hlt, hlv, h1, h2, sms_len, h3, h4, h5, ei] <;> rfl)
            refine AW.anyDone (by decide +kernel) ?_
            refine AW.stop ?_
            refine AW.go ?_ (by simp only [go_sem, ↓reduceIte, ei] <;> rfl)
            exact AW.again hK (i + 1, Z ++ [(x, y)]) ⟨by simp only; omega, hZ1⟩ (by simp only; omega)
          · skip
            refine AW.gg ?_ (by simp only [go_sem, ↓reduceIte, hlt, hlv, h1, h2, sms_len, h3, h4, h5, ei] <;> rfl)
            refine AW.seqs (fuel := 0) (listed' := #[true, true, true, true, true, true, true, true, true, true, true, true, true, true, true]) [1, 12, 13, 14] ?_ (by decide +kernel)
            refine AW.gg ?_ (by simp only [go_sem, ↓reduceIte, hlt, hlv, h1, h2, sms_len, h3, h4, h5, ei] <;> rfl)
            refine AW.anyDone (by decide +kernel) ?_
            refine AW.stop ?_
            refine AW.go ?_ (by simp only [go_sem, ↓reduceIte, ei] <;> rfl)
            exact AW.again hK (i + 1, Z ++ [(x, y)]) ⟨by simp only; omega, hZ1⟩ (by simp only; omega)
    · skip
      refine AW.gg ?_ (by simp only [go_sem, ↓reduceIte, hlt, hlv, h1, h2, sms_len, h3, h4, h5, ei] <;> rfl)
      refine AW.branch (fuel := 6) (rs := [1, 5]) ?_ (by decide +kernel) (by simp)
      intro j hj
      simp only [List.mem_cons, List.not_mem_nil, or_false] at hj
      rcases hj with rfl | rfl
      · skip
        refine AW.gg ?_ (by simp only [go_sem, ↓reduceIte, hlt, hlv, h1, h2, sms_len, h3, h4, h5, ei] <;> rfl)
        refine AW.seqs (fuel := 0) (listed' := #[true, true, true, true, true, true, true, true, true, true, true, true, true, true, true]) [5, 10, 11, 12, 13, 14] ?_ (by decide +kernel)
        refine AW.gg ?_ (by simp only [go_sem, ↓reduceIte, hlt, hlv, h1, h2, sms_len, h3, h4, h5, ei] <;> rfl)
        refine AW.anyDone (by decide +kernel) ?_
        refine AW.stop ?_
        refine AW.go ?_ (by simp only [go_sem, ↓reduceIte, ei] <;> rfl)
        exact AW.again hK (i + 1, Z ++ [(x, y)]) ⟨by simp only; omega, hZ1⟩ (by simp only; omega)
      · skip
        refine AW.gg ?_ (by simp only [go_sem, ↓reduceIte, hlt, hlv, h1, h2, sms_len, h3, h4, h5, ei] <;> rfl)
        refine AW.branch (fuel := 5) (rs := [1, 10]) ?_ (by decide +kernel) (by simp)
        intro j hj
        simp only [List.mem_cons, List.not_mem_nil, or_false] at hj
        rcases hj with rfl | rfl
        · skip
          refine AW.gg ?_ (by simp only [go_sem, ↓reduceIte, hlt, hlv, h1, h2, sms_len, h3, h4, h5, ei] <;> rfl)
          refine AW.seqs (fuel := 0) (listed' := #[true, true, true, true, true, true, true, true, true, true, true, true, true, true, true]) [10, 11, 12, 13, 14] ?_ (by decide +kernel)
          refine AW.gg ?_ (by simp only [go_sem, ↓reduceIte, hlt, hlv, h1, h2, sms_len, h3, h4, h5, ei] <;> rfl)
          refine AW.anyDone (by decide +kernel) ?_
          refine AW.stop ?_
          refine AW.go ?_ (by simp only [go_sem, ↓reduceIte, ei] <;> rfl)
          exact AW.again hK (i + 1, Z ++ [(x, y)]) ⟨by simp only; omega, hZ1⟩ (by simp only; omega)
        · skip
          refine AW.gg ?_ (by simp only [go_sem, ↓reduceIte, hlt, hlv, h1, h2, sms_len, h3, h4, h5, ei] <;> rfl)
          refine AW.branch (fuel := 4) (rs := [1, 11]) ?_ (by decide +kernel) (by simp)
          intro j hj
          simp only [List.mem_cons, List.not_mem_nil, or_false] at hj
          rcases hj with rfl | rfl
          · skip
            refine AW.gg ?_ (by simp only [go_sem, ↓reduceIte, hlt, hlv, h1, h2, sms_len, h3, h4, h5, ei] <;> rfl)
            refine AW.seqs (fuel := 0) (listed' := #[true, true, true, true, true, true, true, true, true, true, true, true, true, true, true]) [11, 12, 13, 14] ?_ (by decide +kernel)
            refine AW.gg ?_ (by simp only [go_sem, ↓reduceIte, hlt, hlv, h1, h2, sms_len, h3, h4, h5, ei] <;> rfl)
            refine AW.anyDone (by decide +kernel) ?_
            refine AW.stop ?_
            refine AW.go ?_ (by simp only [go_sem, ↓reduceIte, ei] <;> rfl)
            exact AW.again hK (i + 1, Z ++ [(x, y)]) ⟨by simp only; omega, hZ1⟩ (by simp only; omega)
          · skip
            refine AW.gg ?_ (by simp only [go_sem, ↓reduceIte, hlt, hlv, h1, h2, sms_len, h3, h4, h5, ei] <;> rfl)
            refine AW.seqs (fuel := 0) (listed' := #[true, true, true, true, true, true, true, true, true, true, true, true, true, true, true]) [1, 12, 13, 14] ?_ (by decide +kernel)
            refine AW.gg ?_ (by simp only [go_sem, ↓reduceIte, hlt, hlv, h1, h2, sms_len, h3, h4, h5, ei] <;> rfl)
            refine AW.anyDone (by decide +kernel) ?_
            refine AW.stop ?_
            refine AW.go ?_ (by simp only [go_sem, ↓reduceIte, ei] <;> rfl)
            exact AW.again hK (i + 1, Z ++ [(x, y)]) ⟨by simp only; omega, hZ1⟩ (by simp only; omega)
  have hge : i = a.length := by simp at hc; omega
  subst hge
  have hZ2 : Z = a.zip v := by rw [hZ, List.take_of_length_le (by omega)]
  subst hZ2
  refine AW.go ?_
  refine AW.freeze (p := .cell 1002 1) (by simp only [go_sem, ↓reduceIte, freeze, freezeO] <;> rfl) ?_
  refine AW.go ?_
  exact AW.finD (decRet_fn _ _ _) (.pv _ (.pv _ .nil)) ⟨rfl, rfl⟩
end Go.Ck

set_option linter.unusedVariables false
set_option maxRecDepth 10000
set_option maxHeartbeats 1000000
namespace Go.Ck
open Go.Proofs
theorem chunkEnc_fn (t : List UInt8) (xs : List Sm) (ht : t.length ≤ maxLen) (hx : smOK xs) : Fn Tryz.prog 6 [] [.pv (chP (t, xs))]
    (fun rs H' => rs = [.own 5 (bytes (encC t xs).1), .pv (.int .i64 (encC t xs).2)] ∧ H' = []) := by
  refine Fn.of_body (fn := Tryz.f6) (n := 71) (res := [.tmp 2, .tmp 3]) (by kernel_rfl) rfl rfl rfl rfl rfl (fun C => ?_)
  have hr : room = 140737488355328 := rfl
  have hc : chP (t, xs) = .agg [.str t, .sl 2 (sms xs)] := rfl
  rw [hc]
  unfold encC
  by_cases h1 : 64 < t.length
  · have d1 : decide ((t.length : Int) > 64) = true := decide_eq_true (by omega)
    refine AW.gg ?_ (by simp only [go_sem, ↓reduceIte, d1] <;> rfl)
    refine AW.condT rfl ?_
    rw [if_pos (.inl h1)]
    refine AW.go ?_
    refine AW.finE (.move rfl (.pv _ .nil)) rfl
  have d1 : decide ((t.length : Int) > 64) = false := decide_eq_false (by omega)
  by_cases h2 : 65536 < xs.length
  · have d2 : decide ((xs.length : Int) > 65536) = true := decide_eq_true (by omega)
    refine AW.gg ?_ (by simp only [go_sem, ↓reduceIte, d1, d2, sms_len] <;> rfl)
    refine AW.condT rfl ?_
    rw [if_pos (.inr h2)]
    refine AW.go ?_
    refine AW.finE (.move rfl (.pv _ .nil)) rfl
  have d2 : decide ((xs.length : Int) > 65536) = false := decide_eq_false (by omega)
  refine AW.gg ?_ (by simp only [go_sem, ↓reduceIte, d1, d2, sms_len] <;> rfl)
  refine AW.condF rfl ?_
  rw [if_neg (by omega)]
  refine AW.go ?_ (by simp only [go_sem, ↓reduceIte, sms_len] <;> rfl)
  refine AW.loopS (fun p : Nat × List Int × List Nat => ⟨71, [(26, .pv (.int .i64 p.1)), (25, .pv (.int .i64 xs.length)), (24, .pv (.sl 2 (sms xs))), (1, .ptr 1 0), (4, .own 3 (ints p.2.1)), (5, .own 39 (u64s p.2.2))], [(1, .cells 24 [.pv (.str t), .pv (.sl 2 (sms xs))])]⟩) (fun p => p.1 ≤ xs.length ∧ p.2.1 = (xs.map Prod.fst).take p.1 ∧ p.2.2 = (xs.map Prod.snd).take p.1) (fun p => xs.length - p.1) [26, 25, 24, 1, 4, 5] [1] (0, [], []) ⟨Nat.zero_le _, rfl, rfl⟩ ?_
  rintro ⟨i, A, B⟩ ⟨hi, hA, hB⟩ K hK
  simp only at hi hA hB
  refine AW.go ?_
  refine AW.cond rfl (fun hc => ?_) (fun hc => ?_)
  · have hlt : i < xs.length := by simpa using hc
    have hg : (sms xs)[i]? = some (.agg [.int .i64 xs[i].1, .int .u64 (xs[i].2 : Nat)]) := by unfold sms; rw [List.getElem?_map, List.getElem?_eq_getElem hlt]; rfl
    have hAl : A.length = i := by rw [hA]; simp; omega
    have hBl : B.length = i := by rw [hB]; simp; omega
    have hA1 : A ++ [xs[i].1] = (xs.map Prod.fst).take (i + 1) := by rw [List.take_add_one, hA]; simp [hlt]
    have hB1 : B ++ [xs[i].2] = (xs.map Prod.snd).take (i + 1) := by rw [List.take_add_one, hB]; simp [hlt]
    generalize xs[i].1 = x at *
    generalize xs[i].2 = y at *
    have h1 : (A.length + 1) * 8 ≤ room := by omega
    have h2 : A.length + 1 ≤ room := by omega
    have h3 : (B.length + 1) * 8 ≤ room := by omega
    have h4 : B.length + 1 ≤ room := by omega
    have e1 : ints A ++ [PV.int .i64 x] = ints (A ++ [x]) := by simp [ints]
    have e2 : u64s B ++ [PV.int .u64 (y : Nat)] = u64s (B ++ [y]) := by simp [u64s]
    have ei : IntKind.i64.wrap ((i : Int) + 1) = ((i + 1 : Nat) : Int) := wrap_i64_succ (by omega)
    refine AW.go ?_ (by simp only [go_sem, ↓reduceIte, hlt, hg, sms_len] <;> rfl)
    refine AW.any0 mixed ?_
    refine AW.takes (fuel := 8) [0, 1, 5, 6] ?_ (by simp only [go_sem, ↓reduceIte, h1, h2, h3, h4, ei, e1, e2] <;> rfl) Ends.noPanic (listed' := #[true, true, false, false, false, true, true, false, false, false, false, false]) (by decide +kernel) (by decide +kernel)
    refine AW.branch (fuel := 7) (rs := [2, 7]) ?_ (by decide +kernel) (by simp)
    intro j hj
    simp only [List.mem_cons, List.not_mem_nil, or_false] at hj
    rcases hj with rfl | rfl
    · skip
      refine AW.gg ?_ (by simp only [go_sem, ↓reduceIte, h1, h2, h3, h4, ei, e1, e2] <;> rfl)
      refine AW.branch (fuel := 6) (rs := [3, 7]) ?_ (by decide +kernel) (by simp)
      intro j hj
      simp only [List.mem_cons, List.not_mem_nil, or_false] at hj
      rcases hj with rfl | rfl
      · skip
        refine AW.gg ?_ (by simp only [go_sem, ↓reduceIte, h1, h2, h3, h4, ei, e1, e2] <;> rfl)
        refine AW.branch (fuel := 5) (rs := [4, 7]) ?_ (by decide +kernel) (by simp)
        intro j hj
        simp only [List.mem_cons, List.not_mem_nil, or_false] at hj
        rcases hj with rfl | rfl
        · skip
          refine AW.gg ?_ (by simp only [go_sem, ↓reduceIte, h1, h2, h3, h4, ei, e1, e2] <;> rfl)
          refine AW.seqs (fuel := 0) (listed' := #[true, true, true, true, true, true, true, true, true, true, true, true]) [7, 8, 9, 10, 11] ?_ (by decide +kernel)
          refine AW.gg ?_ (by simp only [go_sem, ↓reduceIte, h1, h2, h3, h4, ei, e1, e2] <;> rfl)
          refine AW.anyDone (by decide +kernel) ?_
          refine AW.go ?_ (by simp only [go_sem, ↓reduceIte, ei] <;> rfl)
          exact AW.again hK (i + 1, A ++ [x], B ++ [y]) ⟨by simp only; omega, hA1, hB1⟩ (by simp only; omega)
        · skip
          refine AW.gg ?_ (by simp only [go_sem, ↓reduceIte, h1, h2, h3, h4, ei, e1, e2] <;> rfl)
          refine AW.branch (fuel := 4) (rs := [4, 8]) ?_ (by decide +kernel) (by simp)
          intro j hj
          simp only [List.mem_cons, List.not_mem_nil, or_false] at hj
          rcases hj with rfl | rfl
          · skip
            refine AW.gg ?_ (by simp only [go_sem, ↓reduceIte, h1, h2, h3, h4, ei, e1, e2] <;> rfl)
            refine AW.seqs (fuel := 0) (listed' := #[true, true, true, true, true, true, true, true, true, true, true, true]) [8, 9, 10, 11] ?_ (by decide +kernel)
            refine AW.gg ?_ (by simp only [go_sem, ↓reduceIte, h1, h2, h3, h4, ei, e1, e2] <;> rfl)
            refine AW.anyDone (by decide +kernel) ?_
            refine AW.go ?_ (by simp only [go_sem, ↓reduceIte, ei] <;> rfl)
            exact AW.again hK (i + 1, A ++ [x], B ++ [y]) ⟨by simp only; omega, hA1, hB1⟩ (by simp only; omega)
          · skip
            refine AW.gg ?_ (by simp only [go_sem, ↓reduceIte, h1, h2, h3, h4, ei, e1, e2] <;> rfl)
            refine AW.seqs (fuel := 0) (listed' := #[true, true, true, true, true, true, true, true, true, true, true, true]) [4, 9, 10, 11] ?_ (by decide +kernel)
            refine AW.gg ?_ (by simp only [go_sem, ↓reduceIte, h1, h2, h3, h4, ei, e1, e2] <;> rfl)
            refine AW.anyDone (by decide +kernel) ?_
            refine AW.go ?_ (by simp only [go_sem, ↓reduceIte, ei] <;> rfl)
            exact AW.again hK (i + 1, A ++ [x], B ++ [y]) ⟨by simp only; omega, hA1, hB1⟩ (by simp only; omega)
      · skip
        refine AW.gg ?_ (by simp only [go_sem, ↓reduceIte, h1, h2, h3, h4, ei, e1, e2] <;> rfl)
        refine AW.branch (fuel := 5) (rs := [3, 8]) ?_ (by decide +kernel) (by simp)
        intro j hj
        simp only [List.mem_cons, List.not_mem_nil, or_false] at hj
        rcases hj with rfl | rfl
        · skip
          refine AW.gg ?_ (by simp only [go_sem, ↓reduceIte, h1, h2, h3, h4, ei, e1, e2] <;> rfl)
          refine AW.branch (fuel := 4) (rs := [4, 8]) ?_ (by decide +kernel) (by simp)
          intro j hj
          simp only [List.mem_cons, List.not_mem_nil, or_false] at hj
          rcases hj with rfl | rfl
          · skip
            refine AW.gg ?_ (by simp only [go_sem, ↓reduceIte, h1, h2, h3, h4, ei, e1, e2] <;> rfl)
            refine AW.seqs (fuel := 0) (listed' := #[true, true, true, true, true, true, true, true, true, true, true, true]) [8, 9, 10, 11] ?_ (by decide +kernel)
            refine AW.gg ?_ (by simp only [go_sem, ↓reduceIte, h1, h2, h3, h4, ei, e1, e2] <;> rfl)
            refine AW.anyDone (by decide +kernel) ?_
            refine AW.go ?_ (by simp only [go_sem, ↓reduceIte, ei] <;> rfl)
            exact AW.again hK (i + 1, A ++ [x], B ++ [y]) ⟨by simp only; omega, hA1, hB1⟩ (by simp only; omega)
          · skip
            refine AW.gg ?_ (by simp only [go_sem, ↓reduceIte, h1, h2, h3, h4, ei, e1, e2] <;> rfl)
            refine AW.seqs (fuel := 0) (listed' := #[true, true, true, true, true, true, true, true, true, true, true, true]) [4, 9, 10, 11] ?_ (by decide +kernel)
            refine AW.gg ?_ (by simp only [go_sem, ↓reduceIte, h1, h2, h3, h4, ei, e1, e2] <;> rfl)
            refine AW.anyDone (by decide +kernel) ?_
            refine AW.go ?_ (by simp only [go_sem, ↓reduceIte, ei] <;> rfl)
            exact AW.again hK (i + 1, A ++ [x], B ++ [y]) ⟨by simp only; omega, hA1, hB1⟩ (by simp only; omega)
        · skip
          refine AW.gg ?_ (by simp only [go_sem, ↓reduceIte, h1, h2, h3, h4, ei, e1, e2] <;> rfl)
          refine AW.seqs (fuel := 0) (listed' := #[true, true, true, true, true, true, true, true, true, true, true, true]) [3, 4, 9, 10, 11] ?_ (by decide +kernel)
          refine AW.gg ?_ (by simp only [go_sem, ↓reduceIte, h1, h2, h3, h4, ei, e1, e2] <;> rfl)
          refine AW.anyDone (by decide +kernel) ?_
          refine AW.go ?_ (by simp only [go_sem, ↓reduceIte, ei] <;> rfl)
          exact AW.again hK (i + 1, A ++ [x], B ++ [y]) ⟨by simp only; omega, hA1, hB1⟩ (by simp only; omega)
    · skip
      refine AW.gg ?_ (by simp only [go_sem, ↓reduceIte, h1, h2, h3, h4, ei, e1, e2] <;> rfl)
      refine AW.branch (fuel := 6) (rs := [2, 8]) ?_ (by decide +kernel) (by simp)
      intro j hj
      simp only [List.mem_cons, List.not_mem_nil, or_false] at hj
      rcases hj with rfl | rfl
      · skip
        refine AW.gg ?_ (by simp only [go_sem, ↓reduceIte, h1, h2, h3, h4, ei, e1, e2] <;> rfl)
        refine AW.branch (fuel := 5) (rs := [3, 8]) ?_ (by decide +kernel) (by simp)
        intro j hj
        simp only [List.mem_cons, List.not_mem_nil, or_false] at hj
        rcases hj with rfl | rfl
        · skip
          refine AW.gg ?_ (by simp only [go_sem, ↓reduceIte, h1, h2, h3, h4, ei, e1, e2] <;> rfl)
          refine AW.branch (fuel := 4) (rs := [4, 8]) ?_ (by decide +kernel) (by simp)
          intro j hj
          simp only [List.mem_cons, List.not_mem_nil, or_false] at hj
          rcases hj with rfl | rfl
          · skip
            refine AW.gg ?_ (by simp only [go_sem, ↓reduceIte, h1, h2, h3, h4, ei, e1, e2] <;> rfl)
            refine AW.seqs (fuel := 0) (listed' := #[true, true, true, true, true, true, true, true, true, true, true, true]) [8, 9, 10, 11] ?_ (by decide +kernel)
            refine AW.gg ?_ (by simp only [go_sem, ↓reduceIte, h1, h2, h3, h4, ei, e1, e2] <;> rfl)
            refine AW.anyDone (by decide +kernel) ?_
            refine AW.go ?_ (by simp only [go_sem, ↓reduceIte, ei] <;> rfl)
            exact AW.again hK (i + 1, A ++ [x], B ++ [y]) ⟨by simp only; omega, hA1, hB1⟩ (by simp only; omega)
          · skip
            refine AW.gg ?_ (by simp only [go_sem, ↓reduceIte, h1, h2, h3, h4, ei, e1, e2] <;> rfl)
            refine AW.seqs (fuel := 0) (listed' := #[true, true, true, true, true, true, true, true, true, true, true, true]) [4, 9, 10, 11] ?_ (by decide +kernel)
            refine AW.gg ?_ (by simp only [go_sem, ↓reduceIte, h1, h2, h3, h4, ei, e1, e2] <;> rfl)
            refine AW.anyDone (by decide +kernel) ?_
            refine AW.go ?_ (by simp only [go_sem, ↓reduceIte, ei] <;> rfl)
            exact AW.again hK (i + 1, A ++ [x], B ++ [y]) ⟨by simp only; omega, hA1, hB1⟩ (by simp only; omega)
        · skip
          refine AW.gg ?_ (by simp only [go_sem, ↓reduceIte, h1, h2, h3, h4, ei, e1, e2] <;> rfl)
          refine AW.seqs (fuel := 0) (listed' := #[true, true, true, true, true, true, true, true, true, true, true, true]) [3, 4, 9, 10, 11] ?_ (by decide +kernel)
          refine AW.gg ?_ (by simp only [go_sem, ↓reduceIte, h1, h2, h3, h4, ei, e1, e2] <;> rfl)
          refine AW.anyDone (by decide +kernel) ?_
          refine AW.go ?_ (by simp only [go_sem, ↓reduceIte, ei] <;> rfl)
          exact AW.again hK (i + 1, A ++ [x], B ++ [y]) ⟨by simp only; omega, hA1, hB1⟩ (by simp only; omega)
      · skip
        refine AW.gg ?_ (by simp only [go_sem, ↓reduceIte, h1, h2, h3, h4, ei, e1, e2] <;> rfl)
        refine AW.seqs (fuel := 0) (listed' := #[true, true, true, true, true, true, true, true, true, true, true, true]) [2, 3, 4, 9, 10, 11] ?_ (by decide +kernel)
        refine AW.gg ?_ (by simp only [go_sem, ↓reduceIte, h1, h2, h3, h4, ei, e1, e2] <;> rfl)
        refine AW.anyDone (by decide +kernel) ?_
        refine AW.go ?_ (by simp only [go_sem, ↓reduceIte, ei] <;> rfl)
        exact AW.again hK (i + 1, A ++ [x], B ++ [y]) ⟨by simp only; omega, hA1, hB1⟩ (by simp only; omega)
  have hge : i = xs.length := by simp at hc; omega
  subst hge
  have hA2 : A = xs.map Prod.fst := by rw [hA, List.take_of_length_le (by simp)]
  have hB2 : B = xs.map Prod.snd := by rw [hB, List.take_of_length_le (by simp)]
  subst hA2
  subst hB2
  have hx1 := hx.t
  have hx2 := hx.v
  have ln : (nb t).length = t.length := nb_len t
  have l1 : (encI (xs.map Prod.fst)).1.length ≤ 2 ^ 23 := encI_room hx1
  have l2 : (encV (xs.map Prod.snd)).1.length ≤ 8 * xs.length + 1 := by have := encV_len (xs.map Prod.snd); rw [List.length_map] at this; exact this
  have hfin : encI (xs.map Prod.fst) = (tmsC xs, (encI (xs.map Prod.fst)).2) := rfl
  have hfin2 : encV (xs.map Prod.snd) = (vlsC xs, (encV (xs.map Prod.snd)).2) := rfl
  refine AW.go ?_
  refine AW.callE (fun _ => 0) (encI_fn _ hx1) (.lend rfl co_3 .nil) ?_
  rw [hfin] at l1 ⊢
  simp only at l1 ⊢
  generalize (encI (xs.map Prod.fst)).2 = e1
  refine AW.go ?_
  refine AW.callE (fun _ => 0) (encV_fn _ hx2) (.lend rfl co_39 .nil) ?_
  rw [hfin2] at l2 ⊢
  simp only at l2 ⊢
  generalize (encV (xs.map Prod.snd)).2 = e2
  unfold bodyC
  generalize tmsC xs = ts at *
  generalize vlsC xs = vs at *
  refine AW.go ?_
  refine AW.ofStr ht tk_9 tk_26 tk_5 ?_
  rw [strBytes_nb]
  refine AW.go ?_
  have wl : IntKind.u64.wrap (xs.length : Int) = (xs.length : Int) := wrap_u64_lt (by omega)
  have l3 := leb_len10 (v := (nb t).length) (by omega)
  have l4 := leb_len10 (v := xs.length) (by omega)
  have l5 := leb_len10 (v := ts.length) (by omega)
  have l6 := leb_len10 (v := vs.length) (by omega)
  refine AW.callE (fun _ => 0) (block_fn (nb t) (by omega)) (.pv _ .nil) ?_
  have eb : leb (nb t).length ++ nb t = blkd (nb t) := rfl
  have ebl := blkd_len (nb t)
  rw [eb]
  generalize blkd (nb t) = bt at *
  have g1 : 1 + bt.length ≤ room := by omega
  refine AW.go ?_ (by simp only [go_sem, ↓reduceIte, bytes_one, wl, sms_len, g1, List.length_cons, List.length_nil, Nat.zero_add, List.cons_append, List.nil_append] <;> rfl)
  refine AW.callE (fun _ => 0) (append_fn (1 :: bt) xs.length (by omega) (by simp; omega)) (.lend rfl co_5 (.pv _ .nil)) ?_
  try rw [List.cons_append]
  generalize hL : 1 :: (bt ++ leb xs.length) = L
  have hLl : L.length ≤ bt.length + 11 := by rw [← hL]; simp; omega
  refine AW.go ?_
  refine AW.callE (fun _ => 0) (block_fn ts (by omega)) (.lend rfl co_5 .nil) ?_
  have eb : leb ts.length ++ ts = blkd ts := rfl
  have ebl2 := blkd_len ts
  rw [eb]
  generalize blkd ts = bts at *
  have g2 : L.length + bts.length ≤ room := by omega
  refine AW.go ?_ (by simp only [go_sem, ↓reduceIte, g2] <;> rfl)
  refine AW.callE (fun _ => 0) (block_fn vs (by omega)) (.lend rfl co_5 .nil) ?_
  have eb : leb vs.length ++ vs = blkd vs := rfl
  have ebl3 := blkd_len vs
  rw [eb]
  generalize blkd vs = bvs at *
  have g3 : L.length + bts.length + bvs.length ≤ room := by omega
  have g4 : L.length + (bts.length + bvs.length) ≤ room := by omega
  have g5 : (L ++ bts).length + bvs.length ≤ room := by simp; omega
  have hfin3 : 1 :: (bt ++ (leb xs.length ++ (bts ++ bvs))) = L ++ bts ++ bvs := by rw [← hL]; simp
  rw [hfin3]
  refine AW.go ?_ (by simp only [go_sem, ↓reduceIte, g3, g4, g5, List.length_append] <;> rfl)
  refine AW.finE (.move rfl (.pv _ .nil)) rfl
end Go.Ck

set_option linter.unusedVariables false
set_option maxRecDepth 10000
set_option maxHeartbeats 1000000
namespace Go.Ck
open Go.Proofs
theorem refCSame_fn (t u : List UInt8) (xs ys : List Sm) (hl : xs.length ≤ 2 ^ 40) : Fn Tryz.prog 37 [] [.pv (chP (t, xs)), .pv (chP (u, ys))]
    (fun rs H' => rs = [.pv (.bool (decide (t = u ∧ xs = ys)))] ∧ H' = []) := by
  refine Fn.of_body (fn := Tryz.f37) (n := 55) (res := [.tmp 4]) (by kernel_rfl) rfl rfl rfl rfl rfl (fun C => ?_)
  have hr : room = 140737488355328 := rfl
  have hc : chP (t, xs) = .agg [.str t, .sl 2 (sms xs)] := rfl
  have hc2 : chP (u, ys) = .agg [.str u, .sl 2 (sms ys)] := rfl
  rw [hc, hc2]
  by_cases h1 : t = u
  rotate_left
  · have d1 : (t == u) = false := by simpa using h1
    rw [show decide (t = u ∧ xs = ys) = false from decide_eq_false (fun h => h1 h.1)]
    refine AW.gg ?_ (by simp only [go_sem, ↓reduceIte, d1] <;> rfl)
    refine AW.condT rfl ?_
    refine AW.go ?_
    refine AW.finE (.pv _ .nil) rfl
  have d1 : (t == u) = true := by simpa using h1
  by_cases h2 : xs.length = ys.length
  rotate_left
  · have d2 : ((xs.length : Int) != (ys.length : Int)) = true := by simp; omega
    have d3 : (xs.length != ys.length) = true := by simp; omega
    rw [show decide (t = u ∧ xs = ys) = false from decide_eq_false (fun h => h2 (by rw [h.2]))]
    refine AW.gg ?_ (by simp only [go_sem, ↓reduceIte, d1, d2, d3, sms_len] <;> rfl)
    refine AW.condT rfl ?_
    refine AW.go ?_
    refine AW.finE (.pv _ .nil) rfl
  have d2 : ((xs.length : Int) != (ys.length : Int)) = false := by simp; omega
  have d3 : (xs.length != ys.length) = false := by simp; omega
  refine AW.gg ?_ (by simp only [go_sem, ↓reduceIte, d1, d2, d3, sms_len] <;> rfl)
  refine AW.condF rfl ?_
  refine AW.go ?_
  refine AW.loopS (fun i : Nat => ⟨55, [(5, .pv (.int .i64 i)), (2, .ptr 2 0), (3, .ptr 3 0)], [(2, .cells 24 [.pv (.str t), .pv (.sl 2 (sms xs))]), (3, .cells 24 [.pv (.str u), .pv (.sl 2 (sms ys))])]⟩) (fun i => i ≤ xs.length ∧ xs.take i = ys.take i) (fun i => xs.length - i) [5, 2, 3] [2, 3] 0 ⟨Nat.zero_le _, rfl⟩ ?_
  rintro i ⟨hi, hJ⟩ K hK
  refine AW.go ?_ (by simp only [go_sem, ↓reduceIte, sms_len] <;> rfl)
  refine AW.cond rfl (fun hc => ?_) (fun hc => ?_)
  rotate_left
  · have hge : i = xs.length := by simp at hc; omega
    have he : xs = ys := by rw [List.take_of_length_le (by omega), List.take_of_length_le (by omega)] at hJ; exact hJ
    rw [show decide (t = u ∧ xs = ys) = true from decide_eq_true ⟨h1, he⟩]
    refine AW.go ?_
    refine AW.finE (.pv _ .nil) rfl
  have hlt : i < xs.length := by simpa using hc
  have hlt2 : i < ys.length := by omega
  have hg : (sms xs)[i]? = some (.agg [.int .i64 xs[i].1, .int .u64 (xs[i].2 : Nat)]) := by unfold sms; rw [List.getElem?_map, List.getElem?_eq_getElem hlt]; rfl
  have hg2 : (sms ys)[i]? = some (.agg [.int .i64 ys[i].1, .int .u64 (ys[i].2 : Nat)]) := by unfold sms; rw [List.getElem?_map, List.getElem?_eq_getElem hlt2]; rfl
  have hne : xs[i] ≠ ys[i] → ¬ xs = ys := fun h e => h (by subst e; rfl)
  have hJ1 : xs[i] = ys[i] → xs.take (i + 1) = ys.take (i + 1) := fun h => by rw [List.take_add_one, List.take_add_one, hJ, List.getElem?_eq_getElem hlt, List.getElem?_eq_getElem hlt2, h]
  generalize xs[i] = x at *
  generalize ys[i] = y at *
  obtain ⟨x1, x2⟩ := x
  obtain ⟨y1, y2⟩ := y
  simp only at hg hg2
  have ei : IntKind.i64.wrap ((i : Int) + 1) = ((i + 1 : Nat) : Int) := wrap_i64_succ (by omega)
  refine AW.go ?_
  by_cases h3 : x1 = y1
  rotate_left
  · have n1 : (x1 != y1) = true := by simpa using h3
    rw [show decide (t = u ∧ xs = ys) = false from decide_eq_false (fun h => hne (fun e => h3 (congrArg Prod.fst e)) h.2)]
    refine AW.sr mixed (by decide +kernel) ?_ (by simp only [go_sem, ↓reduceIte, sms_len, hlt, hlt2, hg, hg2, n1] <;> rfl)
    refine AW.condT rfl ?_
    refine AW.go ?_
    refine AW.finE (.pv _ .nil) rfl
  subst h3
  have n1 : (x1 != x1) = false := by simp
  by_cases h4 : x2 = y2
  rotate_left
  · have n2 : ((x2 : Int) != (y2 : Int)) = true := by simp; omega
    have n3 : (x2 != y2) = true := by simpa using h4
    rw [show decide (t = u ∧ xs = ys) = false from decide_eq_false (fun h => hne (fun e => h4 (congrArg Prod.snd e)) h.2)]
    refine AW.sr mixed (by decide +kernel) ?_ (by simp only [go_sem, ↓reduceIte, sms_len, hlt, hlt2, hg, hg2, n1, n2, n3] <;> rfl)
    refine AW.condT rfl ?_
    refine AW.go ?_
    refine AW.finE (.pv _ .nil) rfl
  subst h4
  have n2 : ((x2 : Int) != (x2 : Int)) = false := by simp
  have n3 : (x2 != x2) = false := by simp
  refine AW.sr mixed (by decide +kernel) ?_ (by simp only [go_sem, ↓reduceIte, sms_len, hlt, hlt2, hg, hg2, n1, n2, n3] <;> rfl)
  refine AW.condF rfl ?_
  refine AW.go ?_ (by simp only [go_sem, ↓reduceIte, ei] <;> rfl)
  exact AW.again hK (i + 1) ⟨hlt, hJ1 rfl⟩ (by omega)

theorem lawSame_fn (t u : List UInt8) (xs ys : List Sm) (hl : xs.length ≤ 2 ^ 40) : Fn Tryz.prog 14 [] [.pv (chP (t, xs)), .pv (chP (u, ys))]
    (fun rs H' => rs = [.pv (.bool (decide (t = u ∧ xs = ys)))] ∧ H' = []) := by
  refine Fn.of_body (fn := Tryz.f14) (n := 8) (res := [.tmp 4]) (by kernel_rfl) rfl rfl rfl rfl rfl (fun C => ?_)
  have hc : chP (t, xs) = .agg [.str t, .sl 2 (sms xs)] := rfl
  have hc2 : chP (u, ys) = .agg [.str u, .sl 2 (sms ys)] := rfl
  have hF := refCSame_fn t u xs ys hl
  rw [hc, hc2] at hF ⊢
  refine AW.go ?_
  refine AW.callE (fun _ => 0) hF (.pv _ (.pv _ .nil)) ?_
  refine AW.go ?_
  refine AW.finE (.pv _ .nil) rfl

theorem refHead_fn (b : List Nat) (hl : b.length ≤ 2 ^ 40) (hb : ∀ x ∈ b, x < 256) : Fn Tryz.prog 11 [] [.pv (.sl 1 (bytes b))]
    (fun rs H' => ∃ z : List UInt8 × Int × Bool, rs = [.pv (.str z.1), .pv (.int .i64 z.2.1), .pv (.bool z.2.2)] ∧ H' = []) := by
  refine Fn.of_body (fn := Tryz.f11) (n := 39) (res := [.tmp 2, .tmp 3, .tmp 4]) (by kernel_rfl) rfl rfl rfl rfl rfl (fun C => ?_)
  have hr : room = 140737488355328 := rfl
  refine AW.go ?_
  refine AW.cond rfl (fun hc => ?_) (fun hc => ?_)
  · refine AW.go ?_
    exact AW.finZ (([], 0, false) : List UInt8 × Int × Bool) (.pv _ (.pv _ (.pv _ .nil)))
  have g1 : 1 ≤ b.length := by
    cases b with
    | nil => simp at hc
    | cons x r => simp
  have hb1 : ∀ y ∈ b.drop 1, y < 256 := fun y hy => hb y (List.mem_of_mem_drop hy)
  have hl1 : (b.drop 1).length ≤ 2 ^ 40 := by rw [List.length_drop]; omega
  have g2 : (bytes b).drop 1 = bytes (b.drop 1) := by simp [bytes]
  have e1 : (((b.length : Int) - 1).toNat) = b.length - 1 := by omega
  have g4 : (bytes (b.drop 1)).take (b.length - 1) = bytes (b.drop 1) := List.take_of_length_le (by simp [bytes])
  have g1i : (1 : Int) ≤ (b.length : Int) := by omega
  have g5 : (b.drop 1).take (b.length - 1) = b.drop 1 := List.take_of_length_le (by simp)
  refine AW.go ?_ (by simp only [go_sem, ↓reduceIte, g1i, g1, e1, g5] <;> rfl)
  refine AW.callE (fun _ => 0) (refBlock_fn (b.drop 1) 64 (by decide) (by omega) hb1) (.pv _ (.pv _ .nil)) ?_
  obtain ⟨hbt, hb2, hlt, hl2⟩ := blk_byte (m := 64) hb1
  generalize blk (b.drop 1) 64 = q at *
  obtain ⟨tb, te, r2⟩ := q
  simp only at *
  refine AW.go ?_
  refine AW.cond rfl (fun hc => ?_) (fun hc => ?_)
  · refine AW.go ?_
    exact AW.finZ (([], 0, false) : List UInt8 × Int × Bool) (.pv _ (.pv _ (.pv _ .nil)))
  refine AW.go ?_
  refine AW.callE (fun _ => 0) (refVarint_fn r2 (by omega) hb2) (.pv _ .nil) ?_
  generalize readV r2 = q at *
  obtain ⟨n, k, e⟩ := q
  simp only at *
  by_cases h1 : e = 0
  · subst h1
    by_cases h2 : 65536 < n
    · have d2 : decide ((n : Int) > 65536) = true := decide_eq_true (by omega)
      refine AW.gg ?_ (by simp only [go_sem, ↓reduceIte, d2] <;> rfl)
      refine AW.condT rfl ?_
      refine AW.go ?_
      exact AW.finZ (([], 0, false) : List UInt8 × Int × Bool) (.pv _ (.pv _ (.pv _ .nil)))
    · have d2 : decide ((n : Int) > 65536) = false := decide_eq_false (by omega)
      refine AW.gg ?_ (by simp only [go_sem, ↓reduceIte, d2] <;> rfl)
      refine AW.condF rfl ?_
      refine AW.go ?_ (by simp only [go_sem, ↓reduceIte, numsOf_byt, ofNums_ub] <;> rfl)
      exact AW.finZ ((ub tb, _, true) : List UInt8 × Int × Bool) (.pv _ (.pv _ (.pv _ .nil)))
  · have d1 : (e != 0) = true := by simpa using h1
    refine AW.gg ?_ (by simp only [go_sem, ↓reduceIte, d1] <;> rfl)
    refine AW.condT rfl ?_
    refine AW.go ?_
    exact AW.finZ (([], 0, false) : List UInt8 × Int × Bool) (.pv _ (.pv _ (.pv _ .nil)))
end Go.Ck
