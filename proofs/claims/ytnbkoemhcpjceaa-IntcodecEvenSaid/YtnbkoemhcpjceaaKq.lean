/- What is proved here: parts of the proofs of this seat's statements (a verified evaluator for calls over pure values, its laws, and contracts of functions). No condition. -/
import Derived.Test.YtnbkoemhcpjceaaKp
import Derived.Test.YtnbkoemhcpjceaaKl
set_option linter.all false
set_option linter.unusedVariables false
namespace Go.Ck
theorem big60_lt {z : List Nat} (h : ¬ big60 z = true) : ∀ x ∈ z, x < 2 ^ 60 := by
  intro x hx
  have h2 : big60 z = false := by simpa using h
  unfold big60 at h2
  rw [List.any_eq_false] at h2
  have := h2 x hx
  simp at this
  omega
theorem underI_tail {z : List Nat} {t : Nat} (ht : t ≠ 1) (ht2 : 2 ≤ t) (ht4 : t ≤ 4) (h : ∀ x ∈ z, x < 2 ^ 64) (hl : z.length ≤ 65536) (he : (tailI z t).2 = 0) : underI (tailI z t).1 z.length t = (z, 0) := by
  unfold tailI at he ⊢
  unfold underI
  by_cases h2 : t = 2
  · simp only [if_pos h2]; exact unF_pack h
  · simp only [if_neg h2] at he ⊢
    by_cases h3 : t = 3
    · simp only [if_pos h3] at he ⊢
      unfold encSW at he ⊢
      by_cases hb : big60 z = true
      · rw [if_pos hb] at he; cases he
      · rw [if_neg hb]
        exact decS_enc (big60_lt hb)
    · have h4 : t = 4 := by omega
      simp only [if_neg h3, if_pos h4]
      exact decR_enc h hl
theorem valI_zdI {xs : List Int} (hx : ∀ x ∈ xs, i64r x) {t : Nat} (ht : t ≠ 0) : valI (zdI xs t) t = xs := by
  unfold valI zdI
  rw [if_neg ht, List.map_map]
  have e : (diffS xs (oft t)).map (zag ∘ zig) = diffS xs (oft t) := by
    conv => rhs; rw [← List.map_id (diffS xs (oft t))]
    exact List.map_congr_left (fun x _ => zag_zig)
  rw [e, sum_diff (oft t) hx]
theorem rdI_way {xs : List Int} (hx : ∀ x ∈ xs, i64r x) (hl : xs.length ≤ 65536) {t : Nat} (ht : t ≤ 4) (he : (wayI xs t).2 = 0) : (rdI (wayI xs t).1 xs.length t).2 = 0 ∧ valI (rdI (wayI xs t).1 xs.length t).1 t = xs := by
  unfold wayI at he ⊢
  rw [if_neg (by omega), if_neg (by omega)] at he ⊢
  by_cases h0 : xs = []
  · subst h0
    rw [if_pos rfl]
    have e : rdI [] ([] : List Int).length t = ([], 0) := by
      unfold rdI
      split
      · rfl
      · rfl
    rw [e]
    refine ⟨rfl, ?_⟩
    unfold valI
    split
    · rfl
    · exact List.length_eq_zero_iff.1 (by rw [sumS_len]; rfl)
  rw [if_neg h0, Int.toNat_natCast] at he ⊢
  have hpos : 0 < xs.length := by cases xs with | nil => exact absurd rfl h0 | cons a r => simp
  unfold wayT at he ⊢
  by_cases ht0 : t = 0
  · rw [if_pos ht0] at he ⊢
    have hrd : rdI (raw8 xs) xs.length t = (xs.map u64of, 0) := by
      unfold rdI
      rw [if_pos ht0, rwN_raw, List.nil_append]
    simp only [hrd]
    refine ⟨trivial, ?_⟩
    unfold valI
    rw [if_pos ht0, List.map_map]
    conv => rhs; rw [← List.map_id xs]
    exact List.map_congr_left (fun x h => i64of_u64of (hx x h))
  · rw [if_neg ht0] at he ⊢
    have hzl := zdI_len xs t
    have hzx := zdI_lt hx t
    have hv := valI_zdI hx ht0
    cases hz : zdI xs t with
    | nil => rw [hz] at hzl; simp at hzl; omega
    | cons z0 z =>
      rw [hz] at he hzl hzx hv
      have hz0 := hzx z0 (by simp)
      have hzt : ∀ x ∈ z, x < 2 ^ 64 := fun x h => hzx x (by simp [h])
      simp only [List.length_cons] at hzl
      have hrl := fun c => readV_leb hz0 c
      suffices hrd : rdI (wayZ (z0 :: z) t).1 xs.length t = (z0 :: z, 0) by
        rw [hrd]; exact ⟨rfl, hv⟩
      unfold wayZ at he ⊢
      have htl : (z0 :: z).tail = z := rfl
      have hhd : (z0 :: z).headD 0 = z0 := rfl
      rw [htl, hhd] at he ⊢
      by_cases hte : (tailI z t).2 = 0
      · rw [if_neg (by simpa using hte)]
        unfold rdI numI
        rw [if_neg ht0, if_neg (by omega), hrl]
        simp only [ne_eq, not_true_eq_false, if_false, List.drop_left]
        rw [show xs.length - 1 = z.length by omega]
        by_cases ht1 : t = 1
        · rw [if_pos ht1]
          have : (tailI z t).1 = lebs z := by unfold tailI; rw [if_neg (by omega), if_neg (by omega), if_neg (by omega)]
          rw [this, rvN_lebs z _ hzt]; rfl
        · rw [if_neg ht1, underI_tail ht1 (by omega) ht hzt (by omega) hte]
      · rw [if_pos hte] at he
        exact absurd he hte
theorem bestI_way {xs : List Int} (hl : xs.length ≤ 65536) : ∀ n, n ≤ 5 → (wayI xs ((bestI xs n).1 : Nat)).2 = 0 ∧ (bestI xs n).2 = (wayI xs ((bestI xs n).1 : Nat)).1 ∧ (bestI xs n).1 ≤ 4
  | 0, _ => by
    rw [bestI_zero]
    refine ⟨?_, rfl, Nat.zero_le _⟩
    show (wayI xs 0).2 = 0
    unfold wayI
    rw [if_neg (by omega), if_neg (by omega)]
    split <;> rfl
  | n + 1, hn => by
    rw [bestI_succ, stepI]
    split
    · rename_i h
      exact ⟨h.1, rfl, by simp only; omega⟩
    · exact bestI_way hl n (by omega)
theorem encI_ok {xs : List Int} (hl : xs.length ≤ 65536) : encI xs = ((bestI xs 5).1 :: (bestI xs 5).2, 0) := by unfold encI; rw [if_neg (by omega)]
theorem decI_encI {xs : List Int} (hx : ∀ x ∈ xs, i64r x) (hl : xs.length ≤ 65536) : decI (encI xs).1 xs.length = (xs, 0) := by
  obtain ⟨h1, h2, h3⟩ := bestI_way hl 5 (Nat.le_refl _)
  have hr := rdI_way hx hl h3 h1
  rw [← h2] at hr
  have he := encI_ok hl
  unfold decI
  rw [if_neg (by omega), Int.toNat_natCast]
  have e1 : (encI xs).1 = (bestI xs 5).1 :: (bestI xs 5).2 := by rw [he]
  rw [e1, decI1, if_neg (by omega), decI0, if_neg (by simpa using hr.1), hr.2, if_pos e1]
theorem decI_ok {b : List Nat} {n : Int} (h : (decI b n).2 = 0) : 0 ≤ n ∧ n ≤ 65536 ∧ ∃ t l, b = t :: l ∧ t ≤ 4 ∧ (rdI l n.toNat t).2 = 0 ∧ (decI b n).1 = valI (rdI l n.toNat t).1 t ∧ (encI (decI b n).1).1 = b := by
  unfold decI at h ⊢
  split at h
  · cases h
  · rename_i h0
    rw [if_neg h0]
    refine ⟨by omega, by omega, ?_⟩
    cases b with
    | nil => cases h
    | cons t l =>
      simp only [decI1] at h ⊢
      split at h
      · cases h
      · rename_i h5
        rw [if_neg h5]
        unfold decI0 at h ⊢
        split at h
        · rename_i h6; exact absurd h h6
        · rename_i h6
          rw [if_neg h6]
          split at h
          · rename_i h7
            rw [if_pos h7]
            exact ⟨t, l, rfl, by omega, by simpa using h6, rfl, h7⟩
          · cases h
theorem decI_bad {b : List Nat} {n : Int} (h : (decI b n).2 ≠ 0) : (decI b n).1 = [] := by
  unfold decI at h ⊢
  split
  · rfl
  · rename_i h0
    rw [if_neg h0] at h
    unfold decI1 at h ⊢
    split
    · rfl
    · split
      · rfl
      · rename_i h5
        simp only [if_neg h5] at h
        unfold decI0 at h ⊢
        split
        · rfl
        · rename_i h6
          rw [if_neg h6] at h
          split
          · rename_i h7; rw [if_pos h7] at h; exact absurd rfl h
          · rfl
theorem rwN_more (c : List Nat) : ∀ (n : Nat) (acc l : List Nat), (rwN n acc l).2 = 0 → (rwN n acc (l ++ c)).2 = 0 → (rwN n acc (l ++ c)).1 = (rwN n acc l).1
  | 0, acc, l, _, _ => rfl
  | n + 1, acc, l, h, h2 => by
    rw [rwN] at h
    split at h
    · cases h
    · rename_i h8
      have hlc : ¬ (l ++ c).length < 8 := by rw [List.length_append]; omega
      rw [rwN, if_neg hlc] at h2 ⊢
      rw [List.take_append_of_le_length (by omega), List.drop_append_of_le_length (by omega)] at h2 ⊢
      conv => rhs; rw [rwN, if_neg h8]
      exact rwN_more c n _ _ h h2
theorem rvN_more (c : List Nat) : ∀ (n : Nat) (acc l : List Nat), (rvN n acc l).2 = 0 → (rvN n acc (l ++ c)).2 = 0 → (rvN n acc (l ++ c)).1 = (rvN n acc l).1
  | 0, acc, l, _, _ => rfl
  | n + 1, acc, l, h, h2 => by
    rw [rvN] at h
    split at h
    · rename_i he; exact absurd h he
    · rename_i he
      have hm := readV_more c (l := l) (by simpa using he)
      have hle := readV_le l
      rw [rvN, hm, if_neg he] at h2 ⊢
      rw [List.drop_append_of_le_length hle] at h2 ⊢
      conv => rhs; rw [rvN, if_neg he]
      exact rvN_more c n _ _ h h2
theorem rdS_more (n : Nat) (c : List Nat) : ∀ (k : Nat) (acc l : List Nat), l.length ≤ k → (rdS n acc l).2.2 = 0 → rdS n acc (l ++ c) = ((rdS n acc l).1, (rdS n acc l).2.1 ++ c, 0) := by
  intro k
  induction k with
  | zero =>
    intro acc l hk h
    by_cases hn : acc.length < n
    · rw [rdS_short hn (by omega)] at h; cases h
    · rw [rdS_end hn, rdS_end hn]
  | succ k ih =>
    intro acc l hk h
    by_cases hn : acc.length < n
    · by_cases h8 : l.length < 8
      · rw [rdS_short hn h8] at h; cases h
      · rw [rdS_step hn h8] at h ⊢
        rw [rdS_step hn (by rw [List.length_append]; omega), List.take_append_of_le_length (by omega), List.drop_append_of_le_length (by omega)]
        exact ih _ _ (by rw [List.length_drop]; omega) h
    · rw [rdS_end hn, rdS_end hn]
theorem rdR_more (n : Nat) (c : List Nat) : ∀ (k : Nat) (acc l : List Nat), n - acc.length ≤ k → (rdR n acc l).2.2 = 0 → rdR n acc (l ++ c) = ((rdR n acc l).1, (rdR n acc l).2.1 ++ c, 0) := by
  intro k
  induction k with
  | zero =>
    intro acc l hk h
    rw [rdR_end (by omega), rdR_end (by omega)]
  | succ k ih =>
    intro acc l hk h
    by_cases hn : acc.length < n
    · by_cases h1 : (readV l).2.2 ≠ 0
      · rw [rdR_e1 hn h1] at h; exact absurd h h1
      · by_cases h2 : (readV (l.drop (readV l).2.1)).2.2 ≠ 0
        · rw [rdR_e2 hn h1 h2] at h; exact absurd h h2
        · by_cases h3 : badR n acc (readV l).1 (readV (l.drop (readV l).2.1)).1 = true
          · rw [rdR_e3 hn h1 h2 h3] at h; cases h
          · have m1 := readV_more c (l := l) (by simpa using h1)
            have m2 := readV_more c (l := l.drop (readV l).2.1) (by simpa using h2)
            have d1 : (l ++ c).drop (readV l).2.1 = l.drop (readV l).2.1 ++ c := List.drop_append_of_le_length (readV_le l)
            have d2 : (l.drop (readV l).2.1 ++ c).drop (readV (l.drop (readV l).2.1)).2.1 = (l.drop (readV l).2.1).drop (readV (l.drop (readV l).2.1)).2.1 ++ c := List.drop_append_of_le_length (readV_le _)
            have hst := rdR_step (n := n) (acc := acc) (l := l ++ c) hn (by rw [m1]; exact h1) (by rw [m1, d1, m2]; exact h2) (by rw [m1, d1, m2]; exact h3)
            rw [m1, d1, m2, d2] at hst
            rw [hst]
            rw [rdR_step hn h1 h2 h3] at h ⊢
            exact ih _ _ (by rw [List.length_append, List.length_replicate]; omega) h
    · rw [rdR_end hn, rdR_end hn]
theorem unF_val {l : List Nat} {n : Nat} (h : (unF l n).2 = 0) : ∃ w r, l.drop (readV l).2.1 = w :: r ∧ (readV l).2.2 = 0 ∧ ¬ 8 * r.length < n * w ∧ (unF l n).1 = valsF r w n (readV l).1 := by
  unfold unF at h ⊢
  split at h
  · rename_i he; exact absurd h he
  · rename_i he
    rw [if_neg he]
    generalize l.drop (readV l).2.1 = q at *
    cases q with
    | nil => cases h
    | cons w r =>
      simp only [unF1] at h ⊢
      split at h
      · cases h
      · rename_i h1
        split at h
        · cases h
        · rename_i h2
          rw [if_neg h1, if_neg h2]
          unfold unF2 at h ⊢
          split at h
          · cases h
          · rename_i h3
            split at h
            · cases h
            · rename_i h4
              split at h
              · rename_i h5
                rw [if_neg h3, if_neg h4, if_pos h5]
                exact ⟨w, r, rfl, by simpa using he, h2, rfl⟩
              · cases h
theorem unF_more {l : List Nat} (c : List Nat) {n : Nat} (h : (unF l n).2 = 0) (h2 : (unF (l ++ c) n).2 = 0) : (unF (l ++ c) n).1 = (unF l n).1 := by
  obtain ⟨w, r, e1, e2, e3, e4⟩ := unF_val h
  obtain ⟨w', r', f1, f2, f3, f4⟩ := unF_val h2
  have hm := readV_more c e2
  rw [hm, List.drop_append_of_le_length (readV_le l), e1, List.cons_append] at f1
  obtain ⟨rfl, rfl⟩ := List.cons.inj f1
  rw [e4, f4, hm]
  unfold valsF
  refine List.map_congr_left (fun i hi => ?_)
  simp only [List.mem_range] at hi
  have hm2 : (i + 1) * w ≤ n * w := Nat.mul_le_mul_right _ hi
  rw [Nat.succ_mul] at hm2
  unfold valF
  rw [unb_append, getB_more (unb c) (by rw [unb_len]; omega)]
theorem decS_val {l : List Nat} {n : Nat} (h : (decS l n).2 = 0) : (rdS n [] l).2.2 = 0 ∧ (decS l n).1 = (rdS n [] l).1 := by
  unfold decS at h ⊢
  simp only at h ⊢
  split at h
  · rename_i he; exact absurd h he
  · rename_i he
    split at h
    · cases h
    · rename_i h1
      split at h
      · cases h
      · rename_i h2
        split at h
        · rename_i h3
          rw [if_neg he, if_neg h1, if_neg h2, if_pos h3]
          exact ⟨by simpa using he, rfl⟩
        · cases h
theorem decR_val {l : List Nat} {n : Nat} (h : (decR l n).2 = 0) : (rdR n [] l).2.2 = 0 ∧ (decR l n).1 = (rdR n [] l).1 := by
  unfold decR at h ⊢
  simp only at h ⊢
  split at h
  · rename_i he; exact absurd h he
  · rename_i he
    split at h
    · cases h
    · rename_i h1
      rw [if_neg he, if_neg h1]
      exact ⟨by simpa using he, rfl⟩
theorem underI_more {l : List Nat} (c : List Nat) {n t : Nat} (h : (underI l n t).2 = 0) (h2 : (underI (l ++ c) n t).2 = 0) : (underI (l ++ c) n t).1 = (underI l n t).1 := by
  unfold underI at h h2 ⊢
  split
  · rename_i ht
    rw [if_pos ht] at h h2
    exact unF_more c h h2
  · rename_i ht
    rw [if_neg ht] at h h2
    split
    · rename_i ht3
      rw [if_pos ht3] at h h2
      obtain ⟨a1, a2⟩ := decS_val h
      obtain ⟨b1, b2⟩ := decS_val h2
      rw [a2, b2, rdS_more n c l.length [] l (Nat.le_refl _) a1]
    · rename_i ht3
      rw [if_neg ht3] at h h2
      obtain ⟨a1, a2⟩ := decR_val h
      obtain ⟨b1, b2⟩ := decR_val h2
      rw [a2, b2, rdR_more n c n [] l (by simp) a1]
theorem rdI_more {l : List Nat} (c : List Nat) {n t : Nat} (h : (rdI l n t).2 = 0) (h2 : (rdI (l ++ c) n t).2 = 0) : (rdI (l ++ c) n t).1 = (rdI l n t).1 := by
  unfold rdI at h h2 ⊢
  split
  · rename_i ht
    rw [if_pos ht] at h h2
    exact rwN_more c n [] l h h2
  · rename_i ht
    rw [if_neg ht] at h h2
    unfold numI at h h2 ⊢
    split
    · rfl
    · rename_i h0
      rw [if_neg h0] at h h2
      split at h
      · rename_i he; exact absurd h he
      · rename_i he
        have hm := readV_more c (l := l) (by simpa using he)
        rw [hm, if_neg he, List.drop_append_of_le_length (readV_le l)] at h2
        rw [hm, if_neg he, List.drop_append_of_le_length (readV_le l)]
        conv => rhs; rw [if_neg he]
        split at h
        · rename_i h1
          rw [if_pos h1] at h2 ⊢
          rw [if_pos h1]
          exact rvN_more c _ _ _ h h2
        · rename_i h1
          rw [if_neg h1] at h2 ⊢
          rw [if_neg h1]
          simp only at h h2 ⊢
          rw [underI_more c h h2]
theorem decI_pf {b c : List Nat} {n : Int} (h1 : (decI b n).2 = 0) (h2 : (decI (b ++ c) n).2 = 0) : c = [] := by
  obtain ⟨n0, n1, t, l, rfl, ht, a1, a2, a3⟩ := decI_ok h1
  obtain ⟨_, _, t', l', e, _, b1, b2, b3⟩ := decI_ok h2
  rw [List.cons_append] at e
  obtain ⟨rfl, rfl⟩ := List.cons.inj e
  have hm := rdI_more c a1 b1
  have hx : (decI ((t :: l) ++ c) n).1 = (decI (t :: l) n).1 := by rw [a2, b2, hm]
  rw [hx, a3] at b3
  have := congrArg List.length b3
  simp at this
  exact List.length_eq_zero_iff.1 (by simpa using this)
theorem encI_cut {xs : List Int} (hx : ∀ x ∈ xs, i64r x) (hl : xs.length ≤ 65536) {k : Nat} (hk : k < (encI xs).1.length) : (decI ((encI xs).1.take k) xs.length).2 ≠ 0 := by
  intro h
  have h2 : (decI ((encI xs).1.take k ++ (encI xs).1.drop k) xs.length).2 = 0 := by rw [List.take_append_drop, decI_encI hx hl]
  have := decI_pf h h2
  have := congrArg List.length this
  rw [List.length_drop, List.length_nil] at this
  omega
theorem encI_more {xs : List Int} (hx : ∀ x ∈ xs, i64r x) (hl : xs.length ≤ 65536) (y : Nat) : (decI ((encI xs).1 ++ [y]) xs.length).2 ≠ 0 := by
  intro h
  have := decI_pf (by rw [decI_encI hx hl]) h
  cases this
theorem bestI_min {xs : List Int} (n : Nat) : ∀ w, w < n → (wayI xs (w : Nat)).2 = 0 → (bestI xs n).2.length ≤ (wayI xs (w : Nat)).1.length := by
  induction n with
  | zero => intro w h; omega
  | succ n ih =>
    intro w hw he
    rw [bestI_succ, stepI]
    by_cases hwn : w = n
    · subst hwn
      split
      · exact Nat.le_refl _
      · rename_i h
        have : ¬ (wayI xs (w : Nat)).1.length < (bestI xs w).2.length := fun h2 => h ⟨he, h2⟩
        omega
    · have := ih w (by omega) he
      split
      · rename_i h; simp only; omega
      · exact this
theorem encI_min {xs : List Int} (hl : xs.length ≤ 65536) (w : Int) (h : (wayI xs w).2 = 0) : (encI xs).1.length ≤ (wayI xs w).1.length + 1 := by
  rw [encI_ok hl]
  simp only [List.length_cons]
  by_cases hw : w < 0 ∨ 5 ≤ w
  · rw [wayI, if_pos hw] at h; cases h
  · obtain ⟨k, rfl⟩ : ∃ k : Nat, w = k := ⟨w.toNat, by omega⟩
    have := bestI_min (xs := xs) 5 k (by omega) h
    omega
theorem encI_short {xs : List Int} (hl : xs.length ≤ 65536) : (encI xs).1.length ≤ 8 * xs.length + 1 := by
  have h0 : (wayI xs 0).2 = 0 ∧ (wayI xs 0).1.length ≤ 8 * xs.length := by
    unfold wayI
    rw [if_neg (by omega), if_neg (by omega)]
    by_cases he : xs = []
    · rw [if_pos he]; simp
    · rw [if_neg he]
      refine ⟨rfl, ?_⟩
      show (raw8 xs).length ≤ _
      rw [raw8_len]; omega
  have := encI_min hl 0 h0.1
  omega
end Go.Ck
namespace Go.Ck
theorem rwN_n : ∀ (n : Nat) (acc l : List Nat), (rwN n acc l).2 = 0 → (rwN n acc l).1.length = acc.length + n
  | 0, acc, l, _ => rfl
  | n + 1, acc, l, h => by
    rw [rwN] at h ⊢
    split at h
    · cases h
    · rename_i h8
      rw [if_neg h8, rwN_n n _ _ h, List.length_append, List.length_singleton]; omega
theorem rvN_n : ∀ (n : Nat) (acc l : List Nat), (rvN n acc l).2 = 0 → (rvN n acc l).1.length = acc.length + n
  | 0, acc, l, _ => rfl
  | n + 1, acc, l, h => by
    rw [rvN] at h ⊢
    split at h
    · rename_i he; exact absurd h he
    · rename_i he
      rw [if_neg he, rvN_n n _ _ h, List.length_append, List.length_singleton]; omega
theorem rdS_n (n : Nat) : ∀ (k : Nat) (acc l : List Nat), l.length ≤ k → (rdS n acc l).2.2 = 0 → n ≤ (rdS n acc l).1.length := by
  intro k
  induction k with
  | zero =>
    intro acc l hk h
    by_cases hn : acc.length < n
    · rw [rdS_short hn (by omega)] at h; cases h
    · rw [rdS_end hn]; simp only; omega
  | succ k ih =>
    intro acc l hk h
    by_cases hn : acc.length < n
    · by_cases h8 : l.length < 8
      · rw [rdS_short hn h8] at h; cases h
      · rw [rdS_step hn h8] at h ⊢
        exact ih _ _ (by rw [List.length_drop]; omega) h
    · rw [rdS_end hn]; simp only; omega
theorem rdR_n (n : Nat) : ∀ (k : Nat) (acc l : List Nat), n - acc.length ≤ k → acc.length ≤ n → (rdR n acc l).2.2 = 0 → (rdR n acc l).1.length = n := by
  intro k
  induction k with
  | zero =>
    intro acc l hk ha h
    rw [rdR_end (by omega)]; simp only; omega
  | succ k ih =>
    intro acc l hk ha h
    by_cases hn : acc.length < n
    · by_cases h1 : (readV l).2.2 ≠ 0
      · rw [rdR_e1 hn h1] at h; exact absurd h h1
      · by_cases h2 : (readV (l.drop (readV l).2.1)).2.2 ≠ 0
        · rw [rdR_e2 hn h1 h2] at h; exact absurd h h2
        · by_cases h3 : badR n acc (readV l).1 (readV (l.drop (readV l).2.1)).1 = true
          · rw [rdR_e3 hn h1 h2 h3] at h; cases h
          · rw [rdR_step hn h1 h2 h3] at h ⊢
            simp only [badR, Bool.or_eq_true, decide_eq_true_eq, not_or] at h3
            exact ih _ _ (by rw [List.length_append, List.length_replicate]; omega) (by rw [List.length_append, List.length_replicate]; omega) h
    · rw [rdR_end hn]; simp only; omega
theorem underI_n {l : List Nat} {n t : Nat} (h : (underI l n t).2 = 0) : (underI l n t).1.length = n := by
  unfold underI at h ⊢
  split
  · rename_i ht
    rw [if_pos ht] at h
    obtain ⟨w, r, _, _, _, e⟩ := unF_val h
    rw [e, valsF_len]
  · rename_i ht
    rw [if_neg ht] at h
    split
    · rename_i h3
      rw [if_pos h3] at h
      have h' := h
      obtain ⟨a1, a2⟩ := decS_val h
      have h1 := rdS_n n l.length [] l (Nat.le_refl _) a1
      unfold decS at h'
      simp only at h'
      rw [if_neg (by simpa using a1)] at h'
      split at h'
      · cases h'
      · rw [a2]; omega
    · rename_i h3
      rw [if_neg h3] at h
      obtain ⟨a1, a2⟩ := decR_val h
      rw [a2]
      exact rdR_n n n [] l (by simp) (by simp) a1
theorem rdI_n {l : List Nat} {n t : Nat} (h : (rdI l n t).2 = 0) : (rdI l n t).1.length = n := by
  unfold rdI at h ⊢
  split
  · rename_i ht
    rw [if_pos ht] at h
    rw [rwN_n n [] l h, List.length_nil, Nat.zero_add]
  · rename_i ht
    rw [if_neg ht] at h
    unfold numI at h ⊢
    split
    · rename_i h0; rw [h0]; rfl
    · rename_i h0
      rw [if_neg h0] at h
      split at h
      · rename_i he; exact absurd h he
      · rename_i he
        rw [if_neg he]
        split at h
        · rename_i h1
          rw [if_pos h1, rvN_n _ _ _ h, List.length_singleton]; omega
        · rename_i h1
          rw [if_neg h1]
          simp only at h ⊢
          rw [List.length_cons, underI_n h]; omega
theorem decI_n {b : List Nat} {n : Int} (h : (decI b n).2 = 0) : (decI b n).1.length = n.toNat := by
  obtain ⟨_, _, t, l, _, _, a1, a2, _⟩ := decI_ok h
  rw [a2, valI_len, rdI_n a1]
end Go.Ck

set_option linter.unusedVariables false
set_option maxRecDepth 10000
set_option maxHeartbeats 1000000
namespace Go.Ck
open Go.Proofs
theorem law08back_fn (xs : List Int) (cut : Int) (y : Nat) (hx : ∀ x ∈ xs, i64r x) (hy : y < 256) : Fn Try.prog 6 [] [.pv (.sl 1 (ints xs)), .pv (.int .i64 cut), .pv (.int .u8 y)] (fun rs H' => rs = [.pv (.bool true)] ∧ H' = []) := by
  refine Fn.of_body (fn := Try.f6) (n := 80) (res := [.tmp 6]) (by kernel_rfl) rfl rfl rfl rfl rfl (fun C => ?_)
  have hr : room = 140737488355328 := rfl
  refine AW.go ?_
  refine AW.callE (fun _ => 0) awake08_fn .nil ?_
  refine AW.go ?_
  refine AW.cond rfl (fun hc => ?_) (fun hc => ?_)
  · refine AW.go ?_
    refine AW.finE (.pv _ .nil) rfl
  have hl : xs.length ≤ 300 := by simp at hc; omega
  have hok := encI_ok (xs := xs) (by omega)
  have hdec := decI_encI hx (by omega)
  have hcut := @encI_cut xs hx (by omega)
  have hmore := encI_more hx (by omega) y
  have hby := encI_byte hx
  have hbl := encI_room hx
  have he : (encI xs).2 = 0 := by rw [hok]
  refine AW.go ?_
  refine AW.callE (fun _ => 0) (encI_fn xs hx) (.pv _ .nil) ?_
  generalize encI xs = b at *
  obtain ⟨b, e⟩ := b
  simp only at he hdec hcut hmore hby hbl ⊢
  subst he
  clear hok
  refine AW.freeze (p := .part 24 0) (by simp only [go_sem, ↓reduceIte, freeze, freezeO] <;> rfl) ?_
  refine AW.go ?_
  refine AW.callE (fun _ => 0) (decI_fn b xs.length (by omega) hby) (.pv _ (.pv _ .nil)) ?_
  rw [hdec]
  refine AW.gg ?_
  refine AW.guardT rfl rfl ?_
  refine AW.callE (fun _ => 0) (ref04Same_fn xs xs (by omega)) (.lend rfl co_3 (.pv _ .nil)) ?_
  refine AW.gg ?_ (by simp only [go_sem, ↓reduceIte, decide_true] <;> rfl)
  refine AW.condF rfl ?_
  obtain ⟨k, hk, ek⟩ := and_low cut 10 (by omega)
  have ek : ibits .and .i64 cut 1023 = (k : Int) := ek
  refine AW.go ?_ (by simp only [go_sem, ↓reduceIte, ek] <;> rfl)
  have hby2 : ∀ x ∈ b ++ [y], x < 256 := fun x hx => by
    rcases List.mem_append.1 hx with h | h
    · exact hby x h
    · simp at h; omega
  have h1 : b.length ≤ room := by omega
  have h2 : b.length + 1 ≤ room := by omega
  refine AW.joinS (fun _ : Unit => ⟨80, [(7, .pv (.bool true)), (8, .pv (.sl 1 (bytes b))), (0, .pv (.sl 1 (ints xs))), (2, .pv (.int .u8 y))], []⟩) (fun _ => True) [7, 8, 0, 2] [] ?_ ?_
  · intro K hK
    refine AW.cond rfl (fun hc => ?_) (fun hc => ?_)
    · have hkb : k < b.length := by simpa using hc
      have hkb2 : k ≤ b.length := by omega
      refine AW.go ?_ (by simp only [go_sem, ↓reduceIte, hkb2, Int.sub_zero, List.drop_zero] <;> rfl)
      refine AW.callE (fun _ => 0) (decI_fn (b.take k) xs.length (by simp; omega) (fun x hx => hby x (List.mem_of_mem_take hx))) (.pv _ (.pv _ .nil)) ?_
      have hne := hcut hkb
      generalize decI (b.take k) xs.length = q at *
      have e0 : (q.2 == 0) = false := by simpa using hne
      refine AW.go ?_ (by simp only [go_sem, ↓reduceIte, e0] <;> rfl)
      refine AW.condF rfl ?_
      refine AW.go ?_
      exact AW.meet hK () trivial
    · refine AW.go ?_
      exact AW.meet hK () trivial
  rintro _ -
  refine AW.go ?_ (by simp only [go_sem, ↓reduceIte, List.nil_append, h1, h2, Nat.zero_add, bytes_one] <;> rfl)
  refine AW.callE (fun _ => 0) (decI_fn (b ++ [y]) xs.length (by simp; omega) hby2) (.lend rfl co_5 (.pv _ .nil)) ?_
  generalize decI (b ++ [y]) xs.length = q at *
  have e0 : (q.2 != 0) = true := by simpa using hmore
  refine AW.gg ?_ (by simp only [go_sem, ↓reduceIte, e0] <;> rfl)
  refine AW.finE (.pv _ .nil) rfl

theorem law08only_fn (l : List Nat) (n w : Int) (hb : ∀ x ∈ l, x < 256) : Fn Try.prog 7 [] [.pv (.sl 1 (bytes l)), .pv (.int .i64 n), .pv (.int .i64 w)] (fun rs H' => rs = [.pv (.bool true)] ∧ H' = []) := by
  refine Fn.of_body (fn := Try.f7) (n := 76) (res := [.tmp 6]) (by kernel_rfl) rfl rfl rfl rfl rfl (fun C => ?_)
  have hr : room = 140737488355328 := rfl
  have ee : ∀ e : Int, (e == e) = true := fun e => by simp
  refine AW.go ?_
  refine AW.callE (fun _ => 0) awake08_fn .nil ?_
  by_cases h1 : 300 < l.length
  · have d1 : decide ((l.length : Int) > 300) = true := decide_eq_true (by omega)
    refine AW.gg ?_ (by simp only [go_sem, ↓reduceIte, d1] <;> rfl)
    refine AW.condT rfl ?_
    refine AW.go ?_
    refine AW.finE (.pv _ .nil) rfl
  have d1 : decide ((l.length : Int) > 300) = false := decide_eq_false (by omega)
  by_cases h2 : 600 < n
  · have d2 : decide (n > 600) = true := decide_eq_true (by omega)
    refine AW.gg ?_ (by simp only [go_sem, ↓reduceIte, d1, d2] <;> rfl)
    refine AW.condT rfl ?_
    refine AW.go ?_
    refine AW.finE (.pv _ .nil) rfl
  have d2 : decide (n > 600) = false := decide_eq_false (by omega)
  refine AW.gg ?_ (by simp only [go_sem, ↓reduceIte, d1, d2] <;> rfl)
  refine AW.condF rfl ?_
  refine AW.go ?_
  refine AW.callE (fun _ => 0) (decI_fn l n (by omega) hb) (.pv _ (.pv _ .nil)) ?_
  have hok := @decI_ok l n
  have hn := @decI_n l n
  have hbad := @decI_bad l n
  generalize decI l n = q at *
  obtain ⟨xs, e⟩ := q
  simp only at hok hn hbad ⊢
  refine AW.go ?_
  refine AW.cond rfl (fun hc => ?_) (fun hc => ?_)
  · have hne : e ≠ 0 := by simpa using hc
    have := hbad hne
    subst this
    refine AW.gg ?_
    refine AW.finE (.pv _ .nil) rfl
  have h0 : e = 0 := by simpa using hc
  subst h0
  obtain ⟨n0, n1, t, r, rfl, ht, a1, a2, a3⟩ := hok rfl
  have hn := hn rfl
  have hxs : ∀ x ∈ xs, i64r x := by rw [a2]; exact valI_r _ _ (rdI_inv _ _ (fun x hx => hb x (by simp [hx]))).2
  have hle : xs.length ≤ 65536 := by omega
  have hen := encI_ok hle
  have he2 : (encI xs).2 = 0 := by rw [hen]
  have hmin := @encI_min xs hle w
  refine AW.go ?_
  refine AW.callE (fun _ => 0) (encI_fn xs hxs) (.lend rfl co_3 .nil) ?_
  rw [a3, he2]
  refine AW.go ?_
  refine AW.callE (fun _ => 0) (wayIn_fn xs w hxs) (.lend rfl co_3 (.pv _ .nil)) ?_
  have hnn : (xs.length : Int) = n := by omega
  have hwr := wayI_len (xs := xs) w hxs
  rw [a3] at hmin
  generalize wayI xs w = v at *
  obtain ⟨wb, we⟩ := v
  simp only at hmin hwr ⊢
  refine AW.gg ?_ (by simp only [go_sem, ↓reduceIte, hnn, ee] <;> rfl)
  refine AW.guardT rfl rfl ?_
  refine AW.callE (fun _ => 0) (ref01Same_fn (t :: r) (t :: r) (by omega)) (.lend rfl co_5 (.pv _ .nil)) ?_
  by_cases hw : we = 0
  · subst hw
    have hm := hmin rfl
    have e1 : IntKind.i64.wrap ((wb.length : Int) + 1) = ((wb.length + 1 : Nat) : Int) := wrap_i64_succ (by omega)
    have d3 : decide (r.length ≤ wb.length) = true := decide_eq_true (by simp at hm; omega)
    refine AW.gg ?_ (by simp only [go_sem, ↓reduceIte, decide_true, e1, d3] <;> rfl)
    refine AW.finE (.pv _ .nil) rfl
  · have e0 : (we != 0) = true := by simpa using hw
    refine AW.gg ?_ (by simp only [go_sem, ↓reduceIte, decide_true, e0] <;> rfl)
    refine AW.finE (.pv _ .nil) rfl


end Go.Ck

set_option linter.unusedVariables false
namespace Go.Ck
def even (x d : Int) : Nat → List Int
  | 0 => []
  | n + 1 => x :: even (IntKind.i64.wrap (x + d)) d n
def evx (x d : Int) : Nat → Int
  | 0 => x
  | n + 1 => IntKind.i64.wrap (evx x d n + d)
theorem evx_in (x d : Int) : ∀ n, evx (IntKind.i64.wrap (x + d)) d n = evx x d (n + 1)
  | 0 => rfl
  | n + 1 => by
    show IntKind.i64.wrap (evx (IntKind.i64.wrap (x + d)) d n + d) = IntKind.i64.wrap (evx x d (n + 1) + d)
    rw [evx_in x d n]
theorem even_snoc (d : Int) : ∀ (n : Nat) (x : Int), even x d (n + 1) = even x d n ++ [evx x d n]
  | 0, x => rfl
  | n + 1, x => by
    show x :: even (IntKind.i64.wrap (x + d)) d (n + 1) = (x :: even (IntKind.i64.wrap (x + d)) d n) ++ [evx x d (n + 1)]
    rw [even_snoc d n, evx_in, List.cons_append]
theorem even_len (d : Int) : ∀ (n : Nat) (x : Int), (even x d n).length = n
  | 0, x => rfl
  | n + 1, x => by rw [even, List.length_cons, even_len d n]
theorem even_r (d : Int) : ∀ (n : Nat) (x : Int), i64r x → ∀ y ∈ even x d n, i64r y
  | 0, x, h => by simp [even]
  | n + 1, x, h => by
    intro y hy
    rcases List.mem_cons.1 hy with rfl | hy
    · exact h
    · exact even_r d n _ (wrap_i64_r _) y hy
theorem dif_even {d : Int} (hd : i64r d) : ∀ (n : Nat) (x : Int), dif x (even (IntKind.i64.wrap (x + d)) d n) = List.replicate n d
  | 0, x => rfl
  | n + 1, x => by
    have e : IntKind.i64.wrap (IntKind.i64.wrap (x + d) - x) = d := by
      rw [IntKind.wrap_i64, IntKind.wrap_i64]; unfold i64r at hd; omega
    show IntKind.i64.wrap (IntKind.i64.wrap (x + d) - x) :: dif (IntKind.i64.wrap (x + d)) (even (IntKind.i64.wrap (IntKind.i64.wrap (x + d) + d)) d n) = _
    rw [e, dif_even hd n, List.replicate_succ]
theorem dif_rep (d : Int) : ∀ n : Nat, dif d (List.replicate n d) = List.replicate n 0
  | 0 => rfl
  | n + 1 => by
    have e : IntKind.i64.wrap 0 = 0 := by decide
    rw [List.replicate_succ, dif, dif_rep d n, List.replicate_succ, Int.sub_self, e]
theorem diff_even {d : Int} (hd : i64r d) (x : Int) (m : Nat) : diffS (even x d (m + 2)) 2 = x :: d :: List.replicate m 0 := by
  show stepD 1 (x :: dif x (even (IntKind.i64.wrap (x + d)) d (m + 1))) = _
  rw [dif_even hd, List.replicate_succ]
  show x :: d :: dif d (List.replicate m d) = _
  rw [dif_rep]
theorem encRn_zeros (m k : Nat) : encRn k (List.replicate (m + 1) 0) = leb 0 ++ leb (k + m) := by
  have := encRn_run (x := 0) (r := []) (by simp) m k
  simpa [encRn_nil] using this
theorem encRn_even {v m : Nat} (hv : v < 2 ^ 64) (hm : m < 16384) : (encRn 0 (v :: List.replicate m 0)).length ≤ 14 := by
  have h10 := leb_len10 hv
  have h0 : (leb 0).length = 1 := by rw [leb_lt (by omega)]; rfl
  cases m with
  | zero =>
    rw [List.replicate_zero, encRn_one, List.length_append]; omega
  | succ m =>
    by_cases h : v = 0
    · subst h
      have e : (0 :: List.replicate (m + 1) 0 : List Nat) = List.replicate (m + 1 + 1) 0 := (List.replicate_succ).symm
      have h2 : (leb (0 + (m + 1))).length ≤ 2 := leb_len 1 _ (by omega)
      rw [e, encRn_zeros, List.length_append]; omega
    · have h2 : (leb (0 + m)).length ≤ 2 := leb_len 1 _ (by omega)
      have e : encRn 0 (v :: List.replicate (m + 1) 0) = leb v ++ leb 0 ++ encRn 0 (List.replicate (m + 1) 0) := by
        rw [List.replicate_succ]; exact encRn_diff (fun hc => h hc.symm) _
      rw [e, encRn_zeros, List.length_append, List.length_append, List.length_append]; omega
theorem encI_even {x d : Int} (hx : i64r x) (hd : i64r d) {n : Nat} (hn : n < 1024) : (encI (even x d n)).1.length ≤ 25 := by
  have hl := even_len d n x
  have h4 : (wayI (even x d n) 4).2 = 0 ∧ (wayI (even x d n) 4).1.length ≤ 24 := by
    unfold wayI
    rw [if_neg (by omega), if_neg (by omega)]
    match n, hn with
    | 0, _ => rw [if_pos (show even x d 0 = [] from rfl)]; simp
    | 1, _ =>
      rw [if_neg (by simp [even])]
      have hz := leb_len10 (zig_lt hx)
      have e : (zdI (even x d 1) 4) = [zig x] := rfl
      show (wayZ (zdI (even x d 1) 4) 4).2 = 0 ∧ (wayZ (zdI (even x d 1) 4) 4).1.length ≤ 24
      rw [e]
      refine ⟨rfl, ?_⟩
      show (leb (zig x) ++ []).length ≤ 24
      rw [List.append_nil]; omega
    | m + 2, hm =>
      rw [if_neg (by simp [even])]
      have hz := leb_len10 (zig_lt hx)
      have e : (zdI (even x d (m + 2)) 4) = zig x :: zig d :: List.replicate m 0 := by
        show (diffS (even x d (m + 2)) 2).map zig = _
        rw [diff_even hd, List.map_cons, List.map_cons, List.map_replicate]; rfl
      show (wayZ (zdI (even x d (m + 2)) 4) 4).2 = 0 ∧ (wayZ (zdI (even x d (m + 2)) 4) 4).1.length ≤ 24
      rw [e]
      refine ⟨rfl, ?_⟩
      show (leb (zig x) ++ encRn 0 (zig d :: List.replicate m 0)).length ≤ 24
      have := encRn_even (zig_lt hd) (m := m) (by omega)
      rw [List.length_append]; omega
  have := encI_min (by omega) 4 h4.1
  omega
end Go.Ck

set_option linter.unusedVariables false
set_option maxRecDepth 10000
set_option maxHeartbeats 1000000
namespace Go.Ck
open Go.Proofs
theorem law08even_fn (x d n : Int) (hx : i64r x) (hd : i64r d) : Fn Try.prog 8 [] [.pv (.int .i64 x), .pv (.int .i64 d), .pv (.int .i64 n)] (fun rs H' => rs = [.pv (.bool true)] ∧ H' = []) := by
  refine Fn.of_body (fn := Try.f8) (n := 43) (res := [.tmp 6]) (by kernel_rfl) rfl rfl rfl rfl rfl (fun C => ?_)
  have hr : room = 140737488355328 := rfl
  refine AW.go ?_
  refine AW.callE (fun _ => 0) awake08_fn .nil ?_
  refine AW.go ?_
  obtain ⟨k, hk, ek⟩ := and_low n 10 (by omega)
  have ek : ibits .and .i64 n 1023 = (k : Int) := ek
  refine AW.loopS (fun i : Nat => ⟨43, [(7, .pv (.bool true)), (8, .own 3 (ints (even x d i))), (1, .pv (.int .i64 d)), (2, .pv (.int .i64 n)), (9, .pv (.int .i64 (evx x d i))), (10, .pv (.int .i64 i))], []⟩) (fun i => i ≤ k) (fun i => k - i) [7, 8, 1, 2, 9, 10] [] 0 (Nat.zero_le _) ?_
  rintro i hi K hK
  refine AW.go ?_ (by simp only [go_sem, ↓reduceIte, ek] <;> rfl)
  refine AW.cond rfl (fun hc => ?_) (fun hc => ?_)
  · have hlt : i < k := by simpa using hc
    have hl := even_len d i x
    have ei : IntKind.i64.wrap ((i : Int) + 1) = ((i + 1 : Nat) : Int) := wrap_i64_succ (by omega)
    have e2 : IntKind.i64.wrap (evx x d i + d) = evx x d (i + 1) := rfl
    have e3 : ints (even x d i) ++ [PV.int .i64 (evx x d i)] = ints (even x d (i + 1)) := by rw [even_snoc]; simp [ints]
    have h1 : (even x d i).length + 1 ≤ room := by omega
    have h3 : ((even x d i).length + 1) * 8 ≤ room := by omega
    have h2 : (ints (even x d i)).length + 1 ≤ room := by simp only [ints, List.length_map]; exact h1
    refine AW.go ?_ (by simp only [go_sem, ↓reduceIte, ei, e2, e3, h1, h2, h3] <;> rfl)
    exact AW.again hK (i + 1) hlt (by omega)
  have hik : i = k := by simp at hc; omega
  subst hik
  have hev := even_r d i x hx
  have hs := encI_even hx hd hk
  have hok := encI_ok (xs := even x d i) (by rw [even_len]; omega)
  have he : (encI (even x d i)).2 = 0 := by rw [hok]
  refine AW.go ?_
  refine AW.callE (fun _ => 0) (encI_fn _ hev) (.lend rfl co_3 .nil) ?_
  rw [he]
  have d1 : decide ((encI (even x d i)).1.length ≤ 27) = true := decide_eq_true (by omega)
  have d2 : decide (((encI (even x d i)).1.length : Int) ≤ 27) = true := decide_eq_true (by omega)
  refine AW.gg ?_ (by simp only [go_sem, ↓reduceIte, d1, d2] <;> rfl)
  refine AW.finE (.pv _ .nil) rfl

theorem law08short_fn (xs : List Int) (n : Int) (hx : ∀ x ∈ xs, i64r x) (hn : i64r n) : Fn Try.prog 9 [] [.pv (.sl 1 (ints xs)), .pv (.int .i64 n)] (fun rs H' => rs = [.pv (.bool true)] ∧ H' = []) := by
  refine Fn.of_body (fn := Try.f9) (n := 77) (res := [.tmp 4]) (by kernel_rfl) rfl rfl rfl rfl rfl (fun C => ?_)
  have hr : room = 140737488355328 := rfl
  refine AW.go ?_
  refine AW.callE (fun _ => 0) awake08_fn .nil ?_
  refine AW.go ?_
  refine AW.cond rfl (fun hc => ?_) (fun hc => ?_)
  · refine AW.go ?_
    refine AW.finE (.pv _ .nil) rfl
  have hl : xs.length ≤ 300 := by simp at hc; omega
  have hxn : ∀ x ∈ xs ++ [n], i64r x := fun x h => (List.mem_append.1 h).elim (hx x) (fun h => by simp at h; subst h; exact hn)
  have hl2 : (xs ++ [n]).length = xs.length + 1 := by simp
  have hok := encI_ok (xs := xs) (by omega)
  have he : (encI xs).2 = 0 := by rw [hok]
  have hsh := encI_short (xs := xs) (by omega)
  have hok2 := encI_ok (xs := xs ++ [n]) (by omega)
  have he2 : (encI (xs ++ [n])).2 = 0 := by rw [hok2]
  have hdec := decI_encI hxn (by omega)
  have hby := encI_byte hxn
  have hrm := encI_room hxn
  have e1 : ints xs ++ [PV.int .i64 n] = ints (xs ++ [n]) := by simp [ints]
  have h1 : xs.length ≤ room := by omega
  have h2 : xs.length + 1 ≤ room := by omega
  have h3 : xs.length * 8 ≤ room := by omega
  have h4 : (xs.length + 1) * 8 ≤ room := by omega
  refine AW.go ?_
  refine AW.callE (fun _ => 0) (encI_fn xs hx) (.pv _ .nil) ?_
  rw [he]
  generalize hb : (encI xs).1 = b at *
  refine AW.go ?_ (by simp only [go_sem, ↓reduceIte, List.nil_append, Nat.zero_add, h1, h2, h3, h4, e1] <;> rfl)
  refine AW.callE (fun _ => 0) (encI_fn (xs ++ [n]) hxn) (.lend rfl co_3 .nil) ?_
  rw [he2]
  rw [hl2] at hdec
  generalize hb2 : (encI (xs ++ [n])).1 = b2 at *
  have ei : IntKind.i64.wrap ((xs.length : Int) + 1) = ((xs.length + 1 : Nat) : Int) := wrap_i64_succ (by omega)
  refine AW.go ?_ (by simp only [go_sem, ↓reduceIte, ei] <;> rfl)
  refine AW.callE (fun _ => 0) (decI_fn b2 ((xs.length + 1 : Nat) : Int) (by omega) hby) (.lend rfl co_5 (.pv _ .nil)) ?_
  rw [hdec]
  have d0 : (((xs.length + 1 : Nat) : Int) != ((xs.length + 1 : Nat) : Int)) = false := by simp
  have d1 : ((xs ++ [n]).length != xs.length + 1) = false := by simp
  refine AW.gg ?_ (by simp only [go_sem, ↓reduceIte, hl2, ei, d0, d1] <;> rfl)
  refine AW.condF rfl ?_
  have e8 : IntKind.i64.wrap (8 * (xs.length : Int)) = ((8 * xs.length : Nat) : Int) := wrap_i64_of (by omega) (by omega) |>.trans (by simp)
  have e9 : IntKind.i64.wrap (1 + ((8 * xs.length : Nat) : Int)) = ((1 + 8 * xs.length : Nat) : Int) := wrap_i64_of (by omega) (by omega) |>.trans (by simp)
  have d2 : decide (b.length ≤ 1 + 8 * xs.length) = true := decide_eq_true (by omega)
  have hg : (ints (xs ++ [n]))[xs.length]? = some (.int .i64 n) := by simp [ints]
  have dn : (n == n) = true := by simp
  have hlt : xs.length < xs.length + 1 := Nat.lt_succ_self _
  refine AW.gg ?_ (by simp only [go_sem, ↓reduceIte, e8, e9, d2, hg, dn, hl2, hlt] <;> rfl)
  refine AW.finE (.pv _ .nil) rfl
end Go.Ck
