/- What is proved here: parts of the proofs of this seat's statements (a verified evaluator for calls over pure values, its laws, and contracts of functions). No condition. -/
import Derived.Test.YtnbkoemhcpjceaaDoorKo
import Derived.Test.YtnbkoemhcpjceaaDoorKm
import Derived.Test.YtnbkoemhcpjceaaDoorKp
import Derived.Test.YtnbkoemhcpjceaaDoorKl
set_option linter.all false
set_option linter.unusedVariables false
namespace Go.Ck
end Go.Ck
namespace Go.Ck
theorem valI_len (z : List Nat) (t : Nat) : (valI z t).length = z.length := by
  unfold valI
  split
  · simp
  · rw [sumS_len, List.length_map]
end Go.Ck

set_option linter.unusedVariables false
namespace Go.Ck
theorem rwN_raw : ∀ (xs : List Int) (acc : List Nat), rwN xs.length acc (raw8 xs) = (acc ++ xs.map u64of, 0)
  | [], acc => by simp [rwN, raw8]
  | x :: xs, acc => by
    have e : raw8 (x :: xs) = beB (u64of x) 8 ++ raw8 xs := by simp [raw8]
    have h8 : (beB (u64of x) 8).length = 8 := beB_len _ _
    rw [List.length_cons, rwN, e, if_neg (by rw [List.length_append]; omega)]
    have ht : (beB (u64of x) 8 ++ raw8 xs).take 8 = beB (u64of x) 8 := List.take_left' h8
    have hd : (beB (u64of x) 8 ++ raw8 xs).drop 8 = raw8 xs := List.drop_left' h8
    rw [ht, hd, beN8 (u64of_lt x), rwN_raw xs]
    simp
theorem rvN_lebs : ∀ (z : List Nat) (acc : List Nat), (∀ x ∈ z, x < 2 ^ 64) → rvN z.length acc (lebs z) = (acc ++ z, 0)
  | [], acc, _ => by simp [rvN, lebs]
  | x :: z, acc, h => by
    rw [List.length_cons, rvN, lebs_cons, readV_leb (h x (by simp))]
    simp only [ne_eq, not_true_eq_false, if_false, List.drop_left]
    rw [rvN_lebs z _ (fun y hy => h y (by simp [hy]))]
    simp
theorem unF_pack {z : List Nat} (h : ∀ x ∈ z, x < 2 ^ 64) : unF (packF z) z.length = (z, 0) := by
  have hlo := lo_lt (by omega) h
  have hw := wF_le h
  have hr := readV_leb hlo (wF z :: pk (bitsF z (lo z) (wF z)))
  unfold unF packF
  rw [hr]
  simp only [ne_eq, not_true_eq_false, if_false, List.drop_left, unF1]
  have hbl := bitsF_len z (lo z) (wF z)
  have hpl := pk_len (bitsF z (lo z) (wF z))
  have hub := unb_pk (bitsF_bit z (lo z) (wF z))
  have hval : ∀ i, (hi : i < z.length) → valF (pk (bitsF z (lo z) (wF z))) (wF z) i + lo z = z[i] := by
    intro i hi
    have hm := List.getElem_mem hi
    unfold valF getB
    rw [hub, Nat.mul_comm i]
    unfold bitsF
    rw [flat_takeN (fun x => binB (x - lo z) (wF z)) (wF z) (fun x => binB_len _ _) z _ i hi, binN_binB, Nat.mod_eq_of_lt (wF_fit hm)]
    have := lo_le hm
    omega
  have hvals : valsF (pk (bitsF z (lo z) (wF z))) (wF z) z.length (lo z) = z := by
    refine List.ext_getElem (valsF_len _ _ _ _) (fun i h1 h2 => ?_)
    simp only [valsF, List.getElem_map, List.getElem_range]
    exact hval i h2
  have hok : okF (pk (bitsF z (lo z) (wF z))) (wF z) z.length (lo z) = true := by
    rw [okF, List.all_eq_true]
    intro i hi
    simp only [List.mem_range] at hi
    rw [decide_eq_true_eq, hval i hi]
    exact h _ (List.getElem_mem hi)
  have hend : endF (pk (bitsF z (lo z) (wF z))) (z.length * wF z) = true := by
    unfold endF
    rw [hub]
    simp only [Bool.and_eq_true, decide_eq_true_eq]
    refine ⟨by omega, ?_⟩
    rw [← hbl, List.drop_left]
    intro x hx
    exact List.eq_of_mem_replicate hx
  rw [if_neg (by omega), if_neg (by omega)]
  unfold unF2
  rw [hok, hend, hvals]
  simp
theorem hornB_div {w : Nat} : ∀ (l : List Nat), (∀ x ∈ l, x < 2 ^ w) → ∀ j, j ≤ l.length → hornB w l / 2 ^ ((l.length - j) * w) = hornB w (l.take j) := by
  intro l
  induction l using snoc_ind with
  | h0 => intro _ j hj; simp [hornB]
  | h1 l b ih =>
    intro h j hj
    rw [List.length_append, List.length_singleton] at hj ⊢
    by_cases hjl : j = l.length + 1
    · subst hjl
      rw [Nat.sub_self, Nat.zero_mul, Nat.pow_zero, Nat.div_one, List.take_of_length_le (by simp)]
    · have hb := h b (by simp)
      have e : (l.length + 1 - j) * w = w + (l.length - j) * w := by rw [show l.length + 1 - j = (l.length - j) + 1 by omega, Nat.succ_mul]; omega
      rw [e, Nat.pow_add, ← Nat.div_div_eq_div_mul, hornB_snoc]
      have e2 : (hornB w l * 2 ^ w + b) / 2 ^ w = hornB w l := by
        rw [Nat.add_comm, Nat.add_mul_div_right _ _ (Nat.two_pow_pos w), Nat.div_eq_of_lt hb, Nat.zero_add]
      rw [e2, ih (fun x hx => h x (by simp [hx])) j (by omega), List.take_append_of_le_length (by omega)]
theorem unS_word {z : List Nat} {s : Nat} (hs : s < 16) (hf : fitS z s = true) : unS (wordS z s) = z.take (cn s) := by
  obtain ⟨c1, c2, c3, c4⟩ := cw s hs
  obtain ⟨hcl, hfit⟩ := fitS_len hf
  have hwl := (wordS_lt hs hf).1
  have hdiv : wordS z s / 2 ^ 60 = s := by
    unfold wordS
    rw [Nat.add_comm, Nat.add_mul_div_right _ _ (Nat.two_pow_pos 60), Nat.div_eq_of_lt hwl, Nat.zero_add]
  unfold unS
  rw [hdiv]
  have hql : (z.take (cn s)).length = cn s := by rw [List.length_take]; omega
  refine List.ext_getElem (by rw [valsS_len, hql]) (fun i h1 h2 => ?_)
  simp only [valsS, List.getElem_map, List.getElem_range, hdiv]
  unfold wordS
  generalize hq : z.take (cn s) = q at *
  have hi : i < cn s := by omega
  generalize cn s = c at *
  generalize wn s = w at *
  have hm : (i + 1) * w ≤ c * w := Nat.mul_le_mul_right _ hi
  have e1 : 60 - c * w = (60 - (i + 1) * w) - (c - (i + 1)) * w := by rw [Nat.sub_mul]; omega
  have hcm : (c - (i + 1)) * w ≤ 60 - (i + 1) * w := by rw [Nat.sub_mul]; omega
  -- everything over 2 ^ (60 - (i+1) w)
  have e60 : 2 ^ 60 = 2 ^ ((i + 1) * w) * 2 ^ (60 - (i + 1) * w) := by rw [← Nat.pow_add]; congr 1; omega
  have hsplit : hornB w q * 2 ^ (60 - c * w) / 2 ^ (60 - (i + 1) * w) = hornB w (q.take (i + 1)) := by
    have e3 : 2 ^ (60 - (i + 1) * w) = 2 ^ (60 - c * w) * 2 ^ ((c - (i + 1)) * w) := by rw [← Nat.pow_add]; congr 1; rw [Nat.sub_mul]; omega
    rw [e3, Nat.mul_comm (hornB w q), Nat.mul_div_mul_left _ _ (Nat.two_pow_pos _), ← hornB_div q hfit (i + 1) (by omega), hql]
  have e4 : (s * 2 ^ 60 + hornB w q * 2 ^ (60 - c * w)) / 2 ^ (60 - (i + 1) * w) = s * 2 ^ ((i + 1) * w) + hornB w (q.take (i + 1)) := by
    rw [e60, ← Nat.mul_assoc, Nat.add_comm, Nat.add_mul_div_right _ _ (Nat.two_pow_pos _), hsplit, Nat.add_comm]
  rw [e4]
  have ht : q.take (i + 1) = q.take i ++ [q[i]] := by simp
  rw [ht, hornB_snoc]
  have e5 : s * 2 ^ ((i + 1) * w) + (hornB w (q.take i) * 2 ^ w + q[i]) = (s * 2 ^ (i * w) + hornB w (q.take i)) * 2 ^ w + q[i] := by
    have e6 : (s * 2 ^ (i * w) + hornB w (q.take i)) * 2 ^ w = s * 2 ^ (i * w) * 2 ^ w + hornB w (q.take i) * 2 ^ w := Nat.add_mul _ _ _
    rw [e6, Nat.mul_assoc s, ← Nat.pow_add, show (i + 1) * w = i * w + w from Nat.succ_mul _ _]; omega
  rw [e5, Nat.mul_add_mod_self_right, Nat.mod_eq_of_lt (hfit _ (List.getElem_mem _))]
theorem rdS_enc (n : Nat) : ∀ (k : Nat) (z acc : List Nat), z.length ≤ k → (∀ x ∈ z, x < 2 ^ 60) → acc.length + z.length = n → rdS n acc (encS z) = (acc ++ z, [], 0) := by
  intro k
  induction k with
  | zero =>
    intro z acc hk _ hn
    have h0 : z = [] := List.length_eq_zero_iff.1 (by omega)
    subst h0
    rw [rdS_end (by simp at hn; omega), encS_nil, List.append_nil]
  | succ k ih =>
    intro z acc hk hz hn
    by_cases h0 : z = []
    · subst h0
      rw [rdS_end (by simp at hn; omega), encS_nil, List.append_nil]
    · have hpos : 0 < z.length := by cases z with | nil => exact absurd rfl h0 | cons a r => simp
      have hs := fstS_lt z
      have hf := fstS_fit h0 hz
      have hc := cw _ hs
      have hcl := (fitS_len hf).1
      have hwl := (wordS_lt hs hf).2
      have h8 : (beB (wordS z (fstS z)) 8).length = 8 := beB_len _ _
      rw [encS_cons h0]
      have ht : (beB (wordS z (fstS z)) 8 ++ encS (z.drop (cn (fstS z)))).take 8 = beB (wordS z (fstS z)) 8 := List.take_left' h8
      have hd : (beB (wordS z (fstS z)) 8 ++ encS (z.drop (cn (fstS z)))).drop 8 = encS (z.drop (cn (fstS z))) := List.drop_left' h8
      rw [rdS_step (by omega) (by rw [List.length_append]; omega), ht, hd, beN8 hwl, unS_word hs hf, ih _ _ (by rw [List.length_drop]; omega) (fun x hx => hz x (List.mem_of_mem_drop hx)) (by rw [List.length_append, List.length_take, List.length_drop]; omega), List.append_assoc, List.take_append_drop]
theorem decS_enc {z : List Nat} (h : ∀ x ∈ z, x < 2 ^ 60) : decS (encS z) z.length = (z, 0) := by
  unfold decS
  rw [rdS_enc z.length z.length z [] (Nat.le_refl _) h (by simp)]
  simp
theorem run_split {z : List Nat} (h : z ≠ []) : ∃ x m r, z = List.replicate (m + 1) x ++ r ∧ r.head? ≠ some x := by
  induction z with
  | nil => exact absurd rfl h
  | cons x z ih =>
    cases z with
    | nil => exact ⟨x, 0, [], rfl, by simp⟩
    | cons y z =>
      by_cases hxy : y = x
      · obtain ⟨x', m, r, e, hr⟩ := ih (by simp)
        have hx' : x' = y := by
          have := congrArg List.head? e
          simp [List.replicate_succ] at this
          exact this.symm
        subst hx'
        subst hxy
        exact ⟨x', m + 1, r, by rw [e]; rfl, hr⟩
      · exact ⟨x, 0, y :: z, rfl, by simpa using hxy⟩
theorem rdR_enc (n : Nat) (hn16 : n ≤ 65536) : ∀ (k : Nat) (z acc : List Nat), z.length ≤ k → (∀ x ∈ z, x < 2 ^ 64) → acc.length + z.length = n → (z ≠ [] → acc.getLast? ≠ z.head?) → rdR n acc (encRn 0 z) = (acc ++ z, [], 0) := by
  intro k
  induction k with
  | zero =>
    intro z acc hk _ hn _
    have h0 : z = [] := List.length_eq_zero_iff.1 (by omega)
    subst h0
    rw [rdR_end (by simp at hn; omega), encRn_nil, List.append_nil]
  | succ k ih =>
    intro z acc hk hz hn hlast
    by_cases h0 : z = []
    · subst h0
      rw [rdR_end (by simp at hn; omega), encRn_nil, List.append_nil]
    · have hlast := hlast h0
      obtain ⟨x, m, r, rfl, hr⟩ := run_split h0
      rw [List.length_append, List.length_replicate] at hn hk
      have hx : x < 2 ^ 64 := hz x (by simp [List.replicate_succ])
      have hh : (List.replicate (m + 1) x ++ r).head? = some x := by simp [List.replicate_succ]
      rw [hh] at hlast
      have h1 := readV_leb hx (leb m ++ encRn 0 r)
      have h2 := readV_leb (v := m) (by omega) (encRn 0 r)
      rw [encRn_run hr m 0, Nat.zero_add, List.append_assoc]
      have hd1 : (leb x ++ (leb m ++ encRn 0 r)).drop (leb x).length = leb m ++ encRn 0 r := List.drop_left
      have hd2 : (leb m ++ encRn 0 r).drop (leb m).length = encRn 0 r := List.drop_left
      have hst := rdR_step (n := n) (acc := acc) (l := leb x ++ (leb m ++ encRn 0 r)) (by omega) (by rw [h1]; simp) (by rw [h1]; simp only [hd1]; rw [h2]; simp) (by
        rw [h1]
        simp only [hd1]
        rw [h2]
        simp only [badR, Bool.or_eq_true, decide_eq_true_eq, not_or]
        exact ⟨by omega, hlast⟩)
      rw [hst, h1]
      simp only [hd1]
      rw [h2]
      simp only [hd2]
      rw [ih r (acc ++ List.replicate (m + 1) x) (by omega) (fun y hy => hz y (by simp [hy])) (by rw [List.length_append, List.length_replicate]; omega) (by
        intro _
        rw [List.getLast?_append, List.replicate_succ', List.getLast?_concat]
        simpa using fun h => hr h.symm)]
      rw [List.append_assoc]
theorem decR_enc {z : List Nat} (h : ∀ x ∈ z, x < 2 ^ 64) (hl : z.length ≤ 65536) : decR (encRn 0 z) z.length = (z, 0) := by
  unfold decR
  rw [rdR_enc z.length hl z.length z [] (Nat.le_refl _) h (by simp) (by
    intro h0
    cases z with
    | nil => exact absurd rfl h0
    | cons a r => simp)]
  simp
end Go.Ck

set_option linter.unusedVariables false
namespace Go.Ck
theorem big60_lt {z : List Nat} (h : ¬ big60 z = true) : ∀ x ∈ z, x < 2 ^ 60 := by
  intro x hx
  have h2 : big60 z = false := by simpa using h
  unfold big60 at h2
  rw [List.any_eq_false] at h2
  have := h2 x hx
  simp at this
  omega
theorem underI_tail {z : List Nat} {t : Nat} (ht : t ≠ 1) (ht2 : 2 ≤ t) (ht4 : t ≤ 4) (h : ∀ x ∈ z, x < 2 ^ 64) (hl : z.length ≤ 65536) (he : (tailI z t).2 = 0) : underI (tailI z t).1 z.length t = (z, 0) := by
  unfold tailI at he ⊢
  unfold underI
  by_cases h2 : t = 2
  · simp only [if_pos h2]; exact unF_pack h
  · simp only [if_neg h2] at he ⊢
    by_cases h3 : t = 3
    · simp only [if_pos h3] at he ⊢
      unfold encSW at he ⊢
      by_cases hb : big60 z = true
      · rw [if_pos hb] at he; cases he
      · rw [if_neg hb]
        exact decS_enc (big60_lt hb)
    · have h4 : t = 4 := by omega
      simp only [if_neg h3, if_pos h4]
      exact decR_enc h hl
theorem valI_zdI {xs : List Int} (hx : ∀ x ∈ xs, i64r x) {t : Nat} (ht : t ≠ 0) : valI (zdI xs t) t = xs := by
  unfold valI zdI
  rw [if_neg ht, List.map_map]
  have e : (diffS xs (oft t)).map (zag ∘ zig) = diffS xs (oft t) := by
    conv => rhs; rw [← List.map_id (diffS xs (oft t))]
    exact List.map_congr_left (fun x _ => zag_zig)
  rw [e, sum_diff (oft t) hx]
theorem rdI_way {xs : List Int} (hx : ∀ x ∈ xs, i64r x) (hl : xs.length ≤ 65536) {t : Nat} (ht : t ≤ 4) (he : (wayI xs t).2 = 0) : (rdI (wayI xs t).1 xs.length t).2 = 0 ∧ valI (rdI (wayI xs t).1 xs.length t).1 t = xs := by
  unfold wayI at he ⊢
  rw [if_neg (by omega), if_neg (by omega)] at he ⊢
  by_cases h0 : xs = []
  · subst h0
    rw [if_pos rfl]
    have e : rdI [] ([] : List Int).length t = ([], 0) := by
      unfold rdI
      split
      · rfl
      · rfl
    rw [e]
    refine ⟨rfl, ?_⟩
    unfold valI
    split
    · rfl
    · exact List.length_eq_zero_iff.1 (by rw [sumS_len]; rfl)
  rw [if_neg h0, Int.toNat_natCast] at he ⊢
  have hpos : 0 < xs.length := by cases xs with | nil => exact absurd rfl h0 | cons a r => simp
  unfold wayT at he ⊢
  by_cases ht0 : t = 0
  · rw [if_pos ht0] at he ⊢
    have hrd : rdI (raw8 xs) xs.length t = (xs.map u64of, 0) := by
      unfold rdI
      rw [if_pos ht0, rwN_raw, List.nil_append]
    simp only [hrd]
    refine ⟨trivial, ?_⟩
    unfold valI
    rw [if_pos ht0, List.map_map]
    conv => rhs; rw [← List.map_id xs]
    exact List.map_congr_left (fun x h => i64of_u64of (hx x h))
  · rw [if_neg ht0] at he ⊢
    have hzl := zdI_len xs t
    have hzx := zdI_lt hx t
    have hv := valI_zdI hx ht0
    cases hz : zdI xs t with
    | nil => rw [hz] at hzl; simp at hzl; omega
    | cons z0 z =>
      rw [hz] at he hzl hzx hv
      have hz0 := hzx z0 (by simp)
      have hzt : ∀ x ∈ z, x < 2 ^ 64 := fun x h => hzx x (by simp [h])
      simp only [List.length_cons] at hzl
      have hrl := fun c => readV_leb hz0 c
      suffices hrd : rdI (wayZ (z0 :: z) t).1 xs.length t = (z0 :: z, 0) by
        rw [hrd]; exact ⟨rfl, hv⟩
      unfold wayZ at he ⊢
      have htl : (z0 :: z).tail = z := rfl
      have hhd : (z0 :: z).headD 0 = z0 := rfl
      rw [htl, hhd] at he ⊢
      by_cases hte : (tailI z t).2 = 0
      · rw [if_neg (by simpa using hte)]
        unfold rdI numI
        rw [if_neg ht0, if_neg (by omega), hrl]
        simp only [ne_eq, not_true_eq_false, if_false, List.drop_left]
        rw [show xs.length - 1 = z.length by omega]
        by_cases ht1 : t = 1
        · rw [if_pos ht1]
          have : (tailI z t).1 = lebs z := by unfold tailI; rw [if_neg (by omega), if_neg (by omega), if_neg (by omega)]
          rw [this, rvN_lebs z _ hzt]; rfl
        · rw [if_neg ht1, underI_tail ht1 (by omega) ht hzt (by omega) hte]
      · rw [if_pos hte] at he
        exact absurd he hte
theorem bestI_way {xs : List Int} (hl : xs.length ≤ 65536) : ∀ n, n ≤ 5 → (wayI xs ((bestI xs n).1 : Nat)).2 = 0 ∧ (bestI xs n).2 = (wayI xs ((bestI xs n).1 : Nat)).1 ∧ (bestI xs n).1 ≤ 4
  | 0, _ => by
    rw [bestI_zero]
    refine ⟨?_, rfl, Nat.zero_le _⟩
    show (wayI xs 0).2 = 0
    unfold wayI
    rw [if_neg (by omega), if_neg (by omega)]
    split <;> rfl
  | n + 1, hn => by
    rw [bestI_succ, stepI]
    split
    · rename_i h
      exact ⟨h.1, rfl, by simp only; omega⟩
    · exact bestI_way hl n (by omega)
theorem encI_ok {xs : List Int} (hl : xs.length ≤ 65536) : encI xs = ((bestI xs 5).1 :: (bestI xs 5).2, 0) := by unfold encI; rw [if_neg (by omega)]
theorem decI_encI {xs : List Int} (hx : ∀ x ∈ xs, i64r x) (hl : xs.length ≤ 65536) : decI (encI xs).1 xs.length = (xs, 0) := by
  obtain ⟨h1, h2, h3⟩ := bestI_way hl 5 (Nat.le_refl _)
  have hr := rdI_way hx hl h3 h1
  rw [← h2] at hr
  have he := encI_ok hl
  unfold decI
  rw [if_neg (by omega), Int.toNat_natCast]
  have e1 : (encI xs).1 = (bestI xs 5).1 :: (bestI xs 5).2 := by rw [he]
  rw [e1, decI1, if_neg (by omega), decI0, if_neg (by simpa using hr.1), hr.2, if_pos e1]
theorem decI_ok {b : List Nat} {n : Int} (h : (decI b n).2 = 0) : 0 ≤ n ∧ n ≤ 65536 ∧ ∃ t l, b = t :: l ∧ t ≤ 4 ∧ (rdI l n.toNat t).2 = 0 ∧ (decI b n).1 = valI (rdI l n.toNat t).1 t ∧ (encI (decI b n).1).1 = b := by
  unfold decI at h ⊢
  split at h
  · cases h
  · rename_i h0
    rw [if_neg h0]
    refine ⟨by omega, by omega, ?_⟩
    cases b with
    | nil => cases h
    | cons t l =>
      simp only [decI1] at h ⊢
      split at h
      · cases h
      · rename_i h5
        rw [if_neg h5]
        unfold decI0 at h ⊢
        split at h
        · rename_i h6; exact absurd h h6
        · rename_i h6
          rw [if_neg h6]
          split at h
          · rename_i h7
            rw [if_pos h7]
            exact ⟨t, l, rfl, by omega, by simpa using h6, rfl, h7⟩
          · cases h
theorem decI_bad {b : List Nat} {n : Int} (h : (decI b n).2 ≠ 0) : (decI b n).1 = [] := by
  unfold decI at h ⊢
  split
  · rfl
  · rename_i h0
    rw [if_neg h0] at h
    unfold decI1 at h ⊢
    split
    · rfl
    · split
      · rfl
      · rename_i h5
        simp only [if_neg h5] at h
        unfold decI0 at h ⊢
        split
        · rfl
        · rename_i h6
          rw [if_neg h6] at h
          split
          · rename_i h7; rw [if_pos h7] at h; exact absurd rfl h
          · rfl
theorem unF_val {l : List Nat} {n : Nat} (h : (unF l n).2 = 0) : ∃ w r, l.drop (readV l).2.1 = w :: r ∧ (readV l).2.2 = 0 ∧ ¬ 8 * r.length < n * w ∧ (unF l n).1 = valsF r w n (readV l).1 := by
  unfold unF at h ⊢
  split at h
  · rename_i he; exact absurd h he
  · rename_i he
    rw [if_neg he]
    generalize l.drop (readV l).2.1 = q at *
    cases q with
    | nil => cases h
    | cons w r =>
      simp only [unF1] at h ⊢
      split at h
      · cases h
      · rename_i h1
        split at h
        · cases h
        · rename_i h2
          rw [if_neg h1, if_neg h2]
          unfold unF2 at h ⊢
          split at h
          · cases h
          · rename_i h3
            split at h
            · cases h
            · rename_i h4
              split at h
              · rename_i h5
                rw [if_neg h3, if_neg h4, if_pos h5]
                exact ⟨w, r, rfl, by simpa using he, h2, rfl⟩
              · cases h
theorem decS_val {l : List Nat} {n : Nat} (h : (decS l n).2 = 0) : (rdS n [] l).2.2 = 0 ∧ (decS l n).1 = (rdS n [] l).1 := by
  unfold decS at h ⊢
  simp only at h ⊢
  split at h
  · rename_i he; exact absurd h he
  · rename_i he
    split at h
    · cases h
    · rename_i h1
      split at h
      · cases h
      · rename_i h2
        split at h
        · rename_i h3
          rw [if_neg he, if_neg h1, if_neg h2, if_pos h3]
          exact ⟨by simpa using he, rfl⟩
        · cases h
theorem decR_val {l : List Nat} {n : Nat} (h : (decR l n).2 = 0) : (rdR n [] l).2.2 = 0 ∧ (decR l n).1 = (rdR n [] l).1 := by
  unfold decR at h ⊢
  simp only at h ⊢
  split at h
  · rename_i he; exact absurd h he
  · rename_i he
    split at h
    · cases h
    · rename_i h1
      rw [if_neg he, if_neg h1]
      exact ⟨by simpa using he, rfl⟩
theorem bestI_min {xs : List Int} (n : Nat) : ∀ w, w < n → (wayI xs (w : Nat)).2 = 0 → (bestI xs n).2.length ≤ (wayI xs (w : Nat)).1.length := by
  induction n with
  | zero => intro w h; omega
  | succ n ih =>
    intro w hw he
    rw [bestI_succ, stepI]
    by_cases hwn : w = n
    · subst hwn
      split
      · exact Nat.le_refl _
      · rename_i h
        have : ¬ (wayI xs (w : Nat)).1.length < (bestI xs w).2.length := fun h2 => h ⟨he, h2⟩
        omega
    · have := ih w (by omega) he
      split
      · rename_i h; simp only; omega
      · exact this
theorem encI_min {xs : List Int} (hl : xs.length ≤ 65536) (w : Int) (h : (wayI xs w).2 = 0) : (encI xs).1.length ≤ (wayI xs w).1.length + 1 := by
  rw [encI_ok hl]
  simp only [List.length_cons]
  by_cases hw : w < 0 ∨ 5 ≤ w
  · rw [wayI, if_pos hw] at h; cases h
  · obtain ⟨k, rfl⟩ : ∃ k : Nat, w = k := ⟨w.toNat, by omega⟩
    have := bestI_min (xs := xs) 5 k (by omega) h
    omega
theorem encI_short {xs : List Int} (hl : xs.length ≤ 65536) : (encI xs).1.length ≤ 8 * xs.length + 1 := by
  have h0 : (wayI xs 0).2 = 0 ∧ (wayI xs 0).1.length ≤ 8 * xs.length := by
    unfold wayI
    rw [if_neg (by omega), if_neg (by omega)]
    by_cases he : xs = []
    · rw [if_pos he]; simp
    · rw [if_neg he]
      refine ⟨rfl, ?_⟩
      show (raw8 xs).length ≤ _
      rw [raw8_len]; omega
  have := encI_min hl 0 h0.1
  omega
end Go.Ck
namespace Go.Ck
theorem rwN_n : ∀ (n : Nat) (acc l : List Nat), (rwN n acc l).2 = 0 → (rwN n acc l).1.length = acc.length + n
  | 0, acc, l, _ => rfl
  | n + 1, acc, l, h => by
    rw [rwN] at h ⊢
    split at h
    · cases h
    · rename_i h8
      rw [if_neg h8, rwN_n n _ _ h, List.length_append, List.length_singleton]; omega
theorem rvN_n : ∀ (n : Nat) (acc l : List Nat), (rvN n acc l).2 = 0 → (rvN n acc l).1.length = acc.length + n
  | 0, acc, l, _ => rfl
  | n + 1, acc, l, h => by
    rw [rvN] at h ⊢
    split at h
    · rename_i he; exact absurd h he
    · rename_i he
      rw [if_neg he, rvN_n n _ _ h, List.length_append, List.length_singleton]; omega
theorem rdS_n (n : Nat) : ∀ (k : Nat) (acc l : List Nat), l.length ≤ k → (rdS n acc l).2.2 = 0 → n ≤ (rdS n acc l).1.length := by
  intro k
  induction k with
  | zero =>
    intro acc l hk h
    by_cases hn : acc.length < n
    · rw [rdS_short hn (by omega)] at h; cases h
    · rw [rdS_end hn]; simp only; omega
  | succ k ih =>
    intro acc l hk h
    by_cases hn : acc.length < n
    · by_cases h8 : l.length < 8
      · rw [rdS_short hn h8] at h; cases h
      · rw [rdS_step hn h8] at h ⊢
        exact ih _ _ (by rw [List.length_drop]; omega) h
    · rw [rdS_end hn]; simp only; omega
theorem rdR_n (n : Nat) : ∀ (k : Nat) (acc l : List Nat), n - acc.length ≤ k → acc.length ≤ n → (rdR n acc l).2.2 = 0 → (rdR n acc l).1.length = n := by
  intro k
  induction k with
  | zero =>
    intro acc l hk ha h
    rw [rdR_end (by omega)]; simp only; omega
  | succ k ih =>
    intro acc l hk ha h
    by_cases hn : acc.length < n
    · by_cases h1 : (readV l).2.2 ≠ 0
      · rw [rdR_e1 hn h1] at h; exact absurd h h1
      · by_cases h2 : (readV (l.drop (readV l).2.1)).2.2 ≠ 0
        · rw [rdR_e2 hn h1 h2] at h; exact absurd h h2
        · by_cases h3 : badR n acc (readV l).1 (readV (l.drop (readV l).2.1)).1 = true
          · rw [rdR_e3 hn h1 h2 h3] at h; cases h
          · rw [rdR_step hn h1 h2 h3] at h ⊢
            simp only [badR, Bool.or_eq_true, decide_eq_true_eq, not_or] at h3
            exact ih _ _ (by rw [List.length_append, List.length_replicate]; omega) (by rw [List.length_append, List.length_replicate]; omega) h
    · rw [rdR_end hn]; simp only; omega
theorem underI_n {l : List Nat} {n t : Nat} (h : (underI l n t).2 = 0) : (underI l n t).1.length = n := by
  unfold underI at h ⊢
  split
  · rename_i ht
    rw [if_pos ht] at h
    obtain ⟨w, r, _, _, _, e⟩ := unF_val h
    rw [e, valsF_len]
  · rename_i ht
    rw [if_neg ht] at h
    split
    · rename_i h3
      rw [if_pos h3] at h
      have h' := h
      obtain ⟨a1, a2⟩ := decS_val h
      have h1 := rdS_n n l.length [] l (Nat.le_refl _) a1
      unfold decS at h'
      simp only at h'
      rw [if_neg (by simpa using a1)] at h'
      split at h'
      · cases h'
      · rw [a2]; omega
    · rename_i h3
      rw [if_neg h3] at h
      obtain ⟨a1, a2⟩ := decR_val h
      rw [a2]
      exact rdR_n n n [] l (by simp) (by simp) a1
theorem rdI_n {l : List Nat} {n t : Nat} (h : (rdI l n t).2 = 0) : (rdI l n t).1.length = n := by
  unfold rdI at h ⊢
  split
  · rename_i ht
    rw [if_pos ht] at h
    rw [rwN_n n [] l h, List.length_nil, Nat.zero_add]
  · rename_i ht
    rw [if_neg ht] at h
    unfold numI at h ⊢
    split
    · rename_i h0; rw [h0]; rfl
    · rename_i h0
      rw [if_neg h0] at h
      split at h
      · rename_i he; exact absurd h he
      · rename_i he
        rw [if_neg he]
        split at h
        · rename_i h1
          rw [if_pos h1, rvN_n _ _ _ h, List.length_singleton]; omega
        · rename_i h1
          rw [if_neg h1]
          simp only at h ⊢
          rw [List.length_cons, underI_n h]; omega
theorem decI_n {b : List Nat} {n : Int} (h : (decI b n).2 = 0) : (decI b n).1.length = n.toNat := by
  obtain ⟨_, _, t, l, _, _, a1, a2, _⟩ := decI_ok h
  rw [a2, valI_len, rdI_n a1]
end Go.Ck

set_option linter.unusedVariables false
namespace Go.Ck
end Go.Ck

set_option linter.unusedVariables false
namespace Go.Ck
theorem rdv_canon2 : ∀ (l : List Nat) (k acc : Nat), (∀ x ∈ l, x < 256) → (rdv k acc l).2.2 = 0 → ∃ v r, (k = 0 ∨ v ≠ 0) ∧ l = leb v ++ r ∧ rdv k acc l = (acc + v * 128 ^ k, k + (leb v).length, 0)
  | [], k, acc, _, h => by simp [rdv] at h
  | x :: r, k, acc, hb, h => by
    have hx := hb x (by simp)
    rw [rdv] at h ⊢
    split at h
    · simp at h
    · rename_i h1
      rw [if_neg h1]
      split at h
      · rename_i h2
        rw [if_pos h2]
        obtain ⟨v, r', h3, h4, h5⟩ := rdv_canon2 r (k + 1) _ (fun y hy => hb y (by simp [hy])) h
        have hv : v ≠ 0 := h3.resolve_left (by omega)
        have e1 : (v * 128 + x % 128) % 128 + 128 = x := by omega
        have e2 : (v * 128 + x % 128) / 128 = v := by omega
        refine ⟨v * 128 + x % 128, r', .inr (by omega), ?_, ?_⟩
        · rw [leb_ge (by omega), e1, e2, List.cons_append, ← h4]
        · have hp : 128 ^ (k + 1) = 128 ^ k * 128 := Nat.pow_succ ..
          have e3 : (v * 128 + x % 128) * 128 ^ k = v * 128 ^ (k + 1) + x % 128 * 128 ^ k := by rw [hp, Nat.add_mul, Nat.mul_assoc, Nat.mul_comm 128]
          rw [h5, leb_ge (v := v * 128 + x % 128) (by omega), e2, e3, List.length_cons]
          refine Prod.ext ?_ (Prod.ext ?_ rfl) <;> simp only <;> omega
      · rename_i h2
        rw [if_neg h2]
        split at h
        · simp at h
        · rename_i h3
          rw [if_neg h3]
          refine ⟨x, r, by omega, ?_, ?_⟩
          · rw [leb_lt (by omega)]; rfl
          · rw [leb_lt (by omega)]; rfl
theorem readV_canon2 {l : List Nat} (hb : ∀ x ∈ l, x < 256) (h : (readV l).2.2 = 0) : l = leb (readV l).1 ++ l.drop (readV l).2.1 ∧ (readV l).2.1 = (leb (readV l).1).length := by
  rw [readV_eq] at h ⊢
  obtain ⟨v, r, _, h1, h2⟩ := rdv_canon2 l 0 0 hb h
  rw [h2]
  simp only [Nat.zero_add, Nat.pow_zero, Nat.mul_one]
  refine ⟨?_, trivial⟩
  conv => rhs; rw [h1]
  rw [List.drop_left]
  exact h1
theorem rdv_short : ∀ (l : List Nat) (k acc j : Nat), (rdv k acc l).2.2 = 0 → k + j < (rdv k acc l).2.1 → (rdv k acc (l.take j)).2.2 = 2
  | [], k, acc, j, h, _ => by simp [rdv] at h
  | x :: r, k, acc, 0, h, hj => by rw [List.take_zero]; rfl
  | x :: r, k, acc, j + 1, h, hj => by
    rw [List.take_succ_cons]
    rw [rdv] at h hj ⊢
    split at h
    · simp at h
    · rename_i h1
      rw [if_neg h1] at hj ⊢
      split at h
      · rename_i h2
        rw [if_pos h2] at hj ⊢
        exact rdv_short r (k + 1) _ j h (by omega)
      · rename_i h2
        rw [if_neg h2] at hj ⊢
        split at h
        · simp at h
        · rename_i h3
          rw [if_neg h3] at hj
          simp only at hj
          omega
theorem readV_short {l : List Nat} (h : (readV l).2.2 = 0) {j : Nat} (hj : j < (readV l).2.1) : (readV (l.take j)).2.2 = 2 := by
  rw [readV_eq] at h hj ⊢
  exact rdv_short l 0 0 j h (by omega)
theorem leb_cut {v : Nat} (h : v < 2 ^ 64) (r : List Nat) {j : Nat} (hj : j < (leb v).length) : (readV ((leb v ++ r).take j)).2.2 = 2 := by
  have e := readV_leb h r
  exact readV_short (by rw [e]) (by rw [e]; exact hj)
theorem blk_app {l : List Nat} {m : Nat} (h : l.length ≤ m) (hl : l.length < 2 ^ 64) (r : List Nat) : blk (leb l.length ++ l ++ r) m = (l, 0, r) := by
  unfold blk
  rw [List.append_assoc, readV_leb hl]
  simp only [ne_eq, not_true_eq_false, if_false]
  rw [if_neg (by omega), if_neg (by simp), List.drop_left, List.take_left, ← List.drop_drop, List.drop_left, List.drop_left]
theorem blk_cut {l : List Nat} {m : Nat} (h : l.length ≤ m) (hl : l.length < 2 ^ 64) (r : List Nat) {j : Nat} (hj : j < (leb l.length ++ l).length) : (blk ((leb l.length ++ l ++ r).take j) m).2.1 = 2 := by
  unfold blk
  rw [List.length_append] at hj
  rw [List.append_assoc]
  by_cases h1 : j < (leb l.length).length
  · have := leb_cut hl (l ++ r) h1
    rw [if_pos (by rw [this]; decide), this]
  · have e : (leb l.length ++ (l ++ r)).take j = leb l.length ++ (l ++ r).take (j - (leb l.length).length) := by
      rw [List.take_append, List.take_of_length_le (by omega)]
    rw [e, readV_leb hl]
    simp only [ne_eq, not_true_eq_false, if_false]
    rw [if_neg (by omega), if_pos (by simp; omega)]
theorem blk_canon {l : List Nat} {m : Nat} (hb : ∀ x ∈ l, x < 256) (h : (blk l m).2.1 = 0) : l = leb (blk l m).1.length ++ (blk l m).1 ++ (blk l m).2.2 ∧ (blk l m).1.length ≤ m := by
  unfold blk at h ⊢
  split at h
  · rename_i h1; exact absurd h h1
  · rename_i h1
    rw [if_neg h1]
    split at h
    · simp at h
    · rename_i h2
      rw [if_neg h2]
      split at h
      · simp at h
      · rename_i h3
        rw [if_neg h3]
        simp only
        obtain ⟨h4, h5⟩ := readV_canon2 hb (by simpa using h1)
        have hlen : ((l.drop (readV l).2.1).take (readV l).1).length = (readV l).1 := by rw [List.length_take, List.length_drop]; omega
        rw [hlen]
        refine ⟨?_, by omega⟩
        conv => lhs; rw [h4]
        rw [List.append_assoc]
        congr 1
        rw [← List.drop_drop, List.take_append_drop]
theorem blk_byte {l : List Nat} {m : Nat} (hb : ∀ x ∈ l, x < 256) : (∀ x ∈ (blk l m).1, x < 256) ∧ (∀ x ∈ (blk l m).2.2, x < 256) ∧ (blk l m).1.length ≤ l.length ∧ (blk l m).2.2.length ≤ l.length := by
  unfold blk
  split
  · exact ⟨by simp, hb, by simp, Nat.le_refl _⟩
  · split
    · exact ⟨by simp, hb, by simp, Nat.le_refl _⟩
    · split
      · exact ⟨by simp, hb, by simp, Nat.le_refl _⟩
      · exact ⟨fun x hx => hb x (List.mem_of_mem_drop (List.mem_of_mem_take hx)), fun x hx => hb x (List.mem_of_mem_drop hx), by simp; omega, by simp⟩
end Go.Ck

set_option linter.unusedVariables false
namespace Go.Ck
def nb (s : List UInt8) : List Nat := s.map UInt8.toNat
def ub (l : List Nat) : List UInt8 := l.map UInt8.ofNat
theorem nb_len (s : List UInt8) : (nb s).length = s.length := by simp [nb]
theorem ub_len (l : List Nat) : (ub l).length = l.length := by simp [ub]
theorem nb_byte (s : List UInt8) : ∀ x ∈ nb s, x < 256 := by
  intro x hx
  simp only [nb, List.mem_map] at hx
  obtain ⟨y, _, rfl⟩ := hx
  exact y.toNat_lt
theorem ub_nb (s : List UInt8) : ub (nb s) = s := by
  unfold ub nb
  rw [List.map_map]
  conv => rhs; rw [← List.map_id s]
  exact List.map_congr_left (fun x _ => by simp)
theorem nb_ub {l : List Nat} (h : ∀ x ∈ l, x < 256) : nb (ub l) = l := by
  unfold ub nb
  rw [List.map_map]
  conv => rhs; rw [← List.map_id l]
  refine List.map_congr_left (fun x hx => ?_)
  have := h x hx
  simp only [Function.comp, id]
  show (UInt8.ofNat x).toNat = x
  simp only [UInt8.toNat_ofNat']
  omega
def blkd (l : List Nat) : List Nat := leb l.length ++ l
theorem blkd_len (l : List Nat) : (blkd l).length = (leb l.length).length + l.length := by rw [blkd, List.length_append]
theorem blkd_byte {l : List Nat} (h : ∀ x ∈ l, x < 256) : ∀ x ∈ blkd l, x < 256 := by
  intro x hx
  rcases List.mem_append.1 hx with hx | hx
  · exact leb_byte _ x hx
  · exact h x hx
abbrev Sm := Int × Nat
def tmsC (xs : List Sm) : List Nat := (encI (xs.map Prod.fst)).1
def vlsC (xs : List Sm) : List Nat := (encV (xs.map Prod.snd)).1
def bodyC (xs : List Sm) : List Nat := leb xs.length ++ (blkd (tmsC xs) ++ blkd (vlsC xs))
def encC (t : List UInt8) (xs : List Sm) : List Nat × Int := if 64 < t.length ∨ 65536 < xs.length then ([], 4) else (1 :: (blkd (nb t) ++ bodyC xs), 0)
def mostC (n : Nat) : Nat := 1 + 8 * min n 65536
def noC (e : Int) : (List UInt8 × List Sm) × Int := (([], []), e)
def decC4 (t : List UInt8) (n : Nat) (ts vs : List Nat) : (List UInt8 × List Sm) × Int :=
  if (decI ts n).2 ≠ 0 then noC (decI ts n).2 else if (dec11 vs n).2 ≠ 0 then noC (dec11 vs n).2 else ((t, (decI ts n).1.zip (dec11 vs n).1), 0)
def decC3 (t : List UInt8) (n : Nat) (b : List Nat) : (List UInt8 × List Sm) × Int :=
  if (blk b (mostC n)).2.1 ≠ 0 then noC (blk b (mostC n)).2.1
  else if (blk (blk b (mostC n)).2.2 (mostC n)).2.1 ≠ 0 then noC (blk (blk b (mostC n)).2.2 (mostC n)).2.1
  else if (blk (blk b (mostC n)).2.2 (mostC n)).2.2 ≠ [] then noC 3
  else decC4 t n (blk b (mostC n)).1 (blk (blk b (mostC n)).2.2 (mostC n)).1
def decC2 (t : List UInt8) (b : List Nat) : (List UInt8 × List Sm) × Int :=
  if (readV b).2.2 ≠ 0 then noC (readV b).2.2 else if 65536 < (readV b).1 then noC 4 else decC3 t (readV b).1 (b.drop (readV b).2.1)
def decC1 (b : List Nat) : (List UInt8 × List Sm) × Int := if (blk b 64).2.1 ≠ 0 then noC (blk b 64).2.1 else decC2 (ub (blk b 64).1) (blk b 64).2.2
def decC (b : List Nat) : (List UInt8 × List Sm) × Int := match b with
  | [] => noC 2
  | h :: b => if h ≠ 1 then noC 3 else decC1 b
theorem awakeC_enc : encC [97] [(5, 7)] = ([1, 1, 97, 1, 2, 1, 10, 9, 0, 0, 0, 0, 0, 0, 0, 0, 7], 0) := by decide +kernel
theorem awakeC_dec : decC [1, 1, 97, 1, 2, 1, 10, 9, 0, 0, 0, 0, 0, 0, 0, 0, 7] = (([97], [(5, 7)]), 0) := by decide +kernel
def smOK (xs : List Sm) : Prop := ∀ x ∈ xs, i64r x.1 ∧ x.2 < 2 ^ 64
theorem smOK.t {xs : List Sm} (h : smOK xs) : ∀ x ∈ xs.map Prod.fst, i64r x := by
  intro x hx
  obtain ⟨y, hy, rfl⟩ := List.mem_map.1 hx
  exact (h y hy).1
theorem smOK.v {xs : List Sm} (h : smOK xs) : ∀ x ∈ xs.map Prod.snd, x < 2 ^ 64 := by
  intro x hx
  obtain ⟨y, hy, rfl⟩ := List.mem_map.1 hx
  exact (h y hy).2
theorem zip_sm : ∀ xs : List Sm, (xs.map Prod.fst).zip (xs.map Prod.snd) = xs
  | [] => rfl
  | x :: r => by rw [List.map_cons, List.map_cons, List.zip_cons_cons, zip_sm r]
theorem tmsC_len {xs : List Sm} (hl : xs.length ≤ 65536) : (tmsC xs).length ≤ mostC xs.length := by
  have := encI_short (xs := xs.map Prod.fst) (by simpa using hl)
  rw [List.length_map] at this
  unfold tmsC mostC; omega
theorem vlsC_len {xs : List Sm} (hl : xs.length ≤ 65536) : (vlsC xs).length ≤ mostC xs.length := by
  have := encV_len (xs.map Prod.snd)
  rw [List.length_map] at this
  unfold vlsC mostC; omega
theorem mostC_le (n : Nat) : mostC n ≤ 524289 := by unfold mostC; omega
theorem tmsC_byte {xs : List Sm} (h : smOK xs) : ∀ x ∈ tmsC xs, x < 256 := encI_byte h.t
theorem vlsC_byte (xs : List Sm) : ∀ x ∈ vlsC xs, x < 256 := encV_byte _
theorem bodyC_byte {xs : List Sm} (h : smOK xs) : ∀ x ∈ bodyC xs, x < 256 := by
  intro x hx
  rcases List.mem_append.1 hx with hx | hx
  · exact leb_byte _ x hx
  · rcases List.mem_append.1 hx with hx | hx
    · exact blkd_byte (tmsC_byte h) x hx
    · exact blkd_byte (vlsC_byte xs) x hx
theorem encC_byte {t : List UInt8} {xs : List Sm} (h : smOK xs) : ∀ x ∈ (encC t xs).1, x < 256 := by
  unfold encC
  split
  · simp
  · intro x hx
    rcases List.mem_cons.1 hx with rfl | hx
    · omega
    · rcases List.mem_append.1 hx with hx | hx
      · exact blkd_byte (nb_byte t) x hx
      · exact bodyC_byte h x hx
theorem leb3 {n : Nat} (h : n ≤ 524289) : (leb n).length ≤ 3 := leb_len 2 n (by omega)
theorem bodyC_len {xs : List Sm} (hl : xs.length ≤ 65536) : (bodyC xs).length ≤ 3 + 2 * (3 + mostC xs.length) := by
  have h1 := tmsC_len hl
  have h2 := vlsC_len hl
  have h3 := mostC_le xs.length
  have h4 : (leb xs.length).length ≤ 3 := leb3 (by omega)
  have h5 : (leb (tmsC xs).length).length ≤ 3 := leb3 (by omega)
  have h6 : (leb (vlsC xs).length).length ≤ 3 := leb3 (by omega)
  unfold bodyC
  rw [List.length_append, List.length_append, blkd_len, blkd_len]
  omega
theorem leb_64 {n : Nat} (h : n ≤ 64) : (leb n).length = 1 := by rw [leb_lt (by omega)]; rfl
theorem encC_len {t : List UInt8} {xs : List Sm} : (encC t xs).1.length ≤ 1 + 1 + t.length + 3 + 2 * (3 + mostC xs.length) := by
  unfold encC
  split
  · simp
  · rename_i h
    have h1 := bodyC_len (xs := xs) (by omega)
    have h2 := leb_64 (n := t.length) (by omega)
    simp only [List.length_cons, List.length_append, blkd_len, nb_len]
    omega
theorem encC_room {t : List UInt8} {xs : List Sm} : (encC t xs).1.length ≤ 2 ^ 21 := by
  unfold encC
  split
  · simp
  · rename_i h
    have h1 := bodyC_len (xs := xs) (by omega)
    have h2 := leb_64 (n := t.length) (by omega)
    have h3 := mostC_le xs.length
    simp only [List.length_cons, List.length_append, blkd_len, nb_len]
    omega
theorem encC_ok {t : List UInt8} {xs : List Sm} (ht : t.length ≤ 64) (hl : xs.length ≤ 65536) : encC t xs = (1 :: (blkd (nb t) ++ bodyC xs), 0) := by
  rw [encC, if_neg (by omega)]
theorem decC4_ok {t : List UInt8} {xs : List Sm} (h : smOK xs) (hl : xs.length ≤ 65536) : decC4 t xs.length (tmsC xs) (vlsC xs) = ((t, xs), 0) := by
  have h1 := decI_encI h.t (by simpa using hl)
  have h2 := dec11_encV h.v (by simpa using hl)
  rw [List.length_map] at h1 h2
  unfold decC4 tmsC vlsC
  rw [h1, h2]
  simp only [ne_eq, not_true_eq_false, if_false]
  rw [zip_sm]
theorem decC3_app {t : List UInt8} {xs : List Sm} (h : smOK xs) (hl : xs.length ≤ 65536) (r : List Nat) : decC3 t xs.length (blkd (tmsC xs) ++ (blkd (vlsC xs) ++ r)) = if r ≠ [] then noC 3 else ((t, xs), 0) := by
  have h1 := tmsC_len hl
  have h2 := vlsC_len hl
  have h3 := mostC_le xs.length
  unfold decC3
  have e1 : blk (blkd (tmsC xs) ++ (blkd (vlsC xs) ++ r)) (mostC xs.length) = (tmsC xs, 0, blkd (vlsC xs) ++ r) := blk_app h1 (by omega) _
  have e2 : blk (blkd (vlsC xs) ++ r) (mostC xs.length) = (vlsC xs, 0, r) := blk_app h2 (by omega) _
  rw [e1]
  simp only [ne_eq, not_true_eq_false, if_false]
  rw [e2]
  simp only [ne_eq, not_true_eq_false, if_false]
  rw [decC4_ok h hl]
theorem decC2_app {t : List UInt8} {xs : List Sm} (h : smOK xs) (hl : xs.length ≤ 65536) (r : List Nat) : decC2 t (bodyC xs ++ r) = if r ≠ [] then noC 3 else ((t, xs), 0) := by
  unfold decC2 bodyC
  rw [List.append_assoc, readV_leb (by omega)]
  simp only [ne_eq, not_true_eq_false, if_false]
  rw [if_neg (by omega), List.drop_left, List.append_assoc]
  exact decC3_app h hl r
theorem decC_app {t : List UInt8} {xs : List Sm} (h : smOK xs) (ht : t.length ≤ 64) (hl : xs.length ≤ 65536) (r : List Nat) : decC ((encC t xs).1 ++ r) = if r ≠ [] then noC 3 else ((t, xs), 0) := by
  rw [encC_ok ht hl]
  show (if 1 ≠ 1 then noC 3 else decC1 (blkd (nb t) ++ bodyC xs ++ r)) = _
  rw [if_neg (by simp)]
  have e1 : blk (blkd (nb t) ++ bodyC xs ++ r) 64 = (nb t, 0, bodyC xs ++ r) := by
    rw [List.append_assoc]
    exact blk_app (by rw [nb_len]; exact ht) (by rw [nb_len]; omega) _
  unfold decC1
  rw [e1]
  simp only [ne_eq, not_true_eq_false, if_false]
  rw [ub_nb]
  exact decC2_app h hl r
theorem decC_encC {t : List UInt8} {xs : List Sm} (h : smOK xs) (ht : t.length ≤ 64) (hl : xs.length ≤ 65536) : decC (encC t xs).1 = ((t, xs), 0) := by
  have := decC_app h ht hl []
  rw [List.append_nil] at this
  rw [this, if_neg (by simp)]
theorem decC_more {t : List UInt8} {xs : List Sm} (h : smOK xs) (ht : t.length ≤ 64) (hl : xs.length ≤ 65536) (y : Nat) : (decC ((encC t xs).1 ++ [y])).2 = 3 := by
  rw [decC_app h ht hl, if_pos (by simp)]; rfl
theorem take_app {a b : List Nat} {j : Nat} (h : a.length ≤ j) : (a ++ b).take j = a ++ b.take (j - a.length) := by
  rw [List.take_append, List.take_of_length_le h]
theorem decC_cut {t : List UInt8} {xs : List Sm} (h : smOK xs) (ht : t.length ≤ 64) (hl : xs.length ≤ 65536) {k : Nat} (hk : k < (encC t xs).1.length) : (decC ((encC t xs).1.take k)).2 = 2 := by
  have h1 := tmsC_len hl
  have h2 := vlsC_len hl
  have h3 := mostC_le xs.length
  have hn : (nb t).length ≤ 64 := by rw [nb_len]; exact ht
  rw [encC_ok ht hl] at hk ⊢
  cases k with
  | zero => rfl
  | succ k =>
    rw [List.take_succ_cons]
    show (if 1 ≠ 1 then noC 3 else decC1 ((blkd (nb t) ++ bodyC xs).take k)).2 = 2
    rw [if_neg (by simp)]
    simp only [List.length_cons, List.length_append] at hk
    unfold decC1
    by_cases c1 : k < (blkd (nb t)).length
    · have e : (blk ((blkd (nb t) ++ bodyC xs).take k) 64).2.1 = 2 := blk_cut hn (by omega) _ c1
      rw [if_pos (by rw [e]; decide), e]; rfl
    rw [take_app (by omega)]
    have e1 : blk (blkd (nb t) ++ (bodyC xs).take (k - (blkd (nb t)).length)) 64 = (nb t, 0, (bodyC xs).take (k - (blkd (nb t)).length)) := blk_app hn (by omega) _
    rw [e1]
    simp only [ne_eq, not_true_eq_false, if_false]
    generalize hj : k - (blkd (nb t)).length = j
    have hk2 : j < (bodyC xs).length := by omega
    clear hj hk e1 c1
    unfold decC2 bodyC
    unfold bodyC at hk2
    rw [List.length_append] at hk2
    by_cases c2 : j < (leb xs.length).length
    · have e := leb_cut (v := xs.length) (by omega) (blkd (tmsC xs) ++ blkd (vlsC xs)) c2
      rw [if_pos (by rw [e]; decide), e]; rfl
    rw [take_app (by omega), readV_leb (by omega)]
    simp only [ne_eq, not_true_eq_false, if_false]
    rw [if_neg (by omega), List.drop_left]
    generalize hi : j - (leb xs.length).length = i
    have hk3 : i < (blkd (tmsC xs) ++ blkd (vlsC xs)).length := by omega
    clear hi hk2 c2
    unfold decC3
    rw [List.length_append] at hk3
    by_cases c3 : i < (blkd (tmsC xs)).length
    · have e : (blk ((blkd (tmsC xs) ++ blkd (vlsC xs)).take i) (mostC xs.length)).2.1 = 2 := blk_cut h1 (by omega) _ c3
      rw [if_pos (by rw [e]; decide), e]; rfl
    rw [take_app (by omega)]
    have e2 : blk (blkd (tmsC xs) ++ (blkd (vlsC xs)).take (i - (blkd (tmsC xs)).length)) (mostC xs.length) = (tmsC xs, 0, (blkd (vlsC xs)).take (i - (blkd (tmsC xs)).length)) := blk_app h1 (by omega) _
    rw [e2]
    simp only [ne_eq, not_true_eq_false, if_false]
    have e3 : (blk ((blkd (vlsC xs) ++ []).take (i - (blkd (tmsC xs)).length)) (mostC xs.length)).2.1 = 2 := blk_cut h2 (by omega) _ (show _ < (blkd (vlsC xs)).length by omega)
    rw [List.append_nil] at e3
    rw [if_pos (by rw [e3]; decide), e3]; rfl
theorem decC4_inv {t : List UInt8} {n : Nat} {ts vs : List Nat} (hn : n ≤ 65536) (h : (decC4 t n ts vs).2 = 0) : ∃ xs : List Sm, decC4 t n ts vs = ((t, xs), 0) ∧ xs.length = n ∧ tmsC xs = ts ∧ vlsC xs = vs := by
  unfold decC4 at h ⊢
  split at h
  · rename_i h1; exact absurd h h1
  · rename_i h1
    rw [if_neg h1]
    split at h
    · rename_i h2; exact absurd h h2
    · rename_i h2
      rw [if_neg h2]
      have h1 : (decI ts n).2 = 0 := by simpa using h1
      have h2 : (dec11 vs n).2 = 0 := by simpa using h2
      have l1 := decI_n h1
      have l2 := dec11_n h2
      rw [Int.toNat_natCast] at l1 l2
      obtain ⟨_, _, t1, r1, e1, _, _, _, a1⟩ := decI_ok h1
      obtain ⟨_, _, t2, r2, e2, _, _, _, a2⟩ := dec11_ok h2
      refine ⟨_, rfl, by rw [List.length_zip, l1, l2, Nat.min_self], ?_, ?_⟩
      · rw [tmsC, List.map_fst_zip (by omega), a1, e1]
      · rw [vlsC, List.map_snd_zip (by omega), a2]
theorem decC_inv {b : List Nat} (hb : ∀ x ∈ b, x < 256) (h : (decC b).2 = 0) : ∃ (t : List UInt8) (xs : List Sm), decC b = ((t, xs), 0) ∧ t.length ≤ 64 ∧ xs.length ≤ 65536 ∧ (encC t xs).1 = b := by
  cases b with
  | nil => cases h
  | cons x b =>
    unfold decC at h ⊢
    simp only at h ⊢
    split at h
    · cases h
    · rename_i hx
      rw [if_neg hx]
      have hx1 : x = 1 := by simpa using hx
      subst hx1
      have hb1 : ∀ x ∈ b, x < 256 := fun x hx => hb x (by simp [hx])
      unfold decC1 at h ⊢
      split at h
      · rename_i c1; exact absurd h c1
      · rename_i c1
        rw [if_neg c1]
        obtain ⟨p1, p2⟩ := blk_canon hb1 (m := 64) (by simpa using c1)
        obtain ⟨y1, y2, _, _⟩ := blk_byte (m := 64) hb1
        generalize blk b 64 = q at *
        obtain ⟨l1, e1, r1⟩ := q
        simp only at *
        unfold decC2 at h ⊢
        split at h
        · rename_i c2; exact absurd h c2
        · rename_i c2
          rw [if_neg c2]
          split at h
          · cases h
          · rename_i c3
            rw [if_neg c3]
            obtain ⟨v1, v2⟩ := readV_canon2 y2 (by simpa using c2)
            generalize readV r1 = u at *
            obtain ⟨n, m, e2⟩ := u
            simp only at *
            have y3 : ∀ x ∈ r1.drop m, x < 256 := fun x hx => y2 x (List.mem_of_mem_drop hx)
            generalize r1.drop m = r2 at *
            unfold decC3 at h ⊢
            split at h
            · rename_i c4; exact absurd h c4
            · rename_i c4
              rw [if_neg c4]
              obtain ⟨p3, _⟩ := blk_canon y3 (m := mostC n) (by simpa using c4)
              obtain ⟨_, y4, _, _⟩ := blk_byte (m := mostC n) y3
              generalize blk r2 (mostC n) = q2 at *
              obtain ⟨l2, e3, r3⟩ := q2
              simp only at *
              split at h
              · rename_i c5; exact absurd h c5
              · rename_i c5
                rw [if_neg c5]
                obtain ⟨p4, _⟩ := blk_canon y4 (m := mostC n) (by simpa using c5)
                generalize blk r3 (mostC n) = q3 at *
                obtain ⟨l3, e4, r4⟩ := q3
                simp only at *
                split at h
                · cases h
                · rename_i c6
                  rw [if_neg c6]
                  have c6 : r4 = [] := by simpa using c6
                  subst c6
                  obtain ⟨xs, z1, z2, z3, z4⟩ := decC4_inv (by omega) h
                  refine ⟨_, xs, z1, by rw [ub_len]; exact p2, by omega, ?_⟩
                  rw [encC_ok (by rw [ub_len]; exact p2) (by omega)]
                  simp only
                  congr 1
                  rw [nb_ub y1, bodyC, z2, z3, z4, p1, v1, p3, p4]
                  simp [blkd]
theorem decC_bad {b : List Nat} (h : (decC b).2 ≠ 0) : (decC b).1 = ([], []) := by
  cases b with
  | nil => rfl
  | cons x b =>
    unfold decC at h ⊢
    simp only at h ⊢
    split
    · rfl
    · rename_i hx
      rw [if_neg hx] at h
      unfold decC1 at h ⊢
      split
      · rfl
      · rename_i c1
        rw [if_neg c1] at h
        unfold decC2 at h ⊢
        split
        · rfl
        · rename_i c2
          rw [if_neg c2] at h
          split
          · rfl
          · rename_i c3
            rw [if_neg c3] at h
            unfold decC3 at h ⊢
            split
            · rfl
            · rename_i c4
              rw [if_neg c4] at h
              split
              · rfl
              · rename_i c5
                rw [if_neg c5] at h
                split
                · rfl
                · rename_i c6
                  rw [if_neg c6] at h
                  unfold decC4 at h ⊢
                  split
                  · rfl
                  · rename_i c7
                    rw [if_neg c7] at h
                    split
                    · rfl
                    · rename_i c8
                      rw [if_neg c8] at h
                      exact absurd rfl h
end Go.Ck
namespace Go.Ck
def sms (xs : List Sm) : List PV := xs.map fun x => .agg [.int .i64 x.1, .int .u64 (x.2 : Nat)]
def chP (c : List UInt8 × List Sm) : PV := .agg [.str c.1, .sl 2 (sms c.2)]
theorem sms_len (xs : List Sm) : (sms xs).length = xs.length := by simp [sms]
theorem numsOf_byt (l : List Nat) : numsOf (bytes l) = some (l.map fun n : Nat => (n : Int)) := by
  induction l with
  | nil => rfl
  | cons a r ih => 
    show numsOf (.int .u8 (a : Int) :: bytes r) = _
    rw [numsOf, ih]; rfl
theorem ofNums_ub (l : List Nat) : ofNums (l.map fun n : Nat => (n : Int)) = ub l := by
  unfold ofNums ub
  rw [List.map_map]
  exact List.map_congr_left (fun x _ => by simp)
theorem strBytes_nb (s : List UInt8) : strBytes s = bytes (nb s) := by
  unfold strBytes nb bytes
  rw [List.map_map]; rfl
end Go.Ck

set_option linter.unusedVariables false
set_option maxRecDepth 10000
set_option maxHeartbeats 1000000
namespace Go.Ck
open Go.Proofs
def wrongE (e : Int) : PV := .iface 72 (.agg [.int .i64 e])
theorem need_fn (e : Int) : FnP Tryd.prog 46 [] [.pv (.int .i64 e)] (fun rs H' => e = 0 ∧ rs = [] ∧ H' = []) (fun p H' => e ≠ 0 ∧ p = wrongE e ∧ H' = []) := by
  refine FnP.of_body (fn := Tryd.f46) (n := 7) (res := []) (by kernel_rfl) rfl rfl rfl rfl rfl (fun C => ?_)
  refine AW.go ?_
  refine AW.cond rfl (fun hc => ?_) (fun hc => ?_)
  · have he : e ≠ 0 := by simpa using hc
    refine AW.go ?_
    refine AW.panicO (fun ch hch => ?_)
    exact AW.endP hch ⟨he, rfl, rfl⟩
  · have he : e = 0 := by simpa using hc
    refine AW.go ?_
    refine AW.finP .nil ⟨he, rfl, rfl⟩

theorem chunkBlock_fn (l : List Nat) (m : Nat) (hm : m < 2 ^ 63) (hl : l.length ≤ room) (hb : ∀ x ∈ l, x < 256) : FnP Tryd.prog 47 (curO l) [.ptr 1000 0, .pv (.int .i64 m)]
    (fun rs H' => (blk l m).2.1 = 0 ∧ rs = [.own 5 (bytes (blk l m).1)] ∧ H' = curO (blk l m).2.2) (fun p H' => (blk l m).2.1 ≠ 0 ∧ p = wrongE (blk l m).2.1 ∧ H' = curO (blk l m).2.2) := by
  refine FnP.of_body (fn := Tryd.f47) (n := 16) (res := [.tmp 4]) (by kernel_rfl) rfl rfl rfl rfl rfl (fun C => ?_)
  refine AW.go ?_
  refine AW.callE id (curBlock_fn l m hm hl hb) (.ptr rfl (.pv _ .nil)) ?_
  generalize blk l m = q
  obtain ⟨b, e, r⟩ := q
  refine AW.go ?_
  refine AW.callPE (fun _ => 0) (need_fn e) (.pv _ .nil) (fun he ch hch => ?_) (fun he => ?_)
  · exact AW.endP hch ⟨he, rfl, rfl⟩
  refine AW.go ?_
  refine AW.finP (.move rfl .nil) ⟨he, rfl, rfl⟩

theorem most_fn (n : Int) (h : n < 2 ^ 63) : Fn Tryd.prog 28 [] [.pv (.int .i64 n)] (fun rs H' => rs = [.pv (.int .i64 (mostC n.toNat : Nat))] ∧ H' = []) := by
  refine Fn.of_body (fn := Tryd.f28) (n := 8) (res := [.tmp 2]) (by kernel_rfl) rfl rfl rfl rfl rfl (fun C => ?_)
  have e1 : (if (0 : Int) > n then 0 else n) = (n.toNat : Int) := by split <;> omega
  have e2 : (if (65536 : Int) < (n.toNat : Int) then (65536 : Int) else (n.toNat : Int)) = ((min n.toNat 65536 : Nat) : Int) := by split <;> omega
  have e3 : IntKind.i64.wrap (8 * ((min n.toNat 65536 : Nat) : Int)) = ((8 * min n.toNat 65536 : Nat) : Int) := (wrap_i64_of (by omega) (by omega)).trans (by simp)
  have e4 : IntKind.i64.wrap (1 + ((8 * min n.toNat 65536 : Nat) : Int)) = ((mostC n.toNat : Nat) : Int) := (wrap_i64_of (by omega) (by omega)).trans (by simp [mostC])
  refine AW.go ?_ (by simp only [go_sem, ↓reduceIte, e1, e2, e3, e4] <;> rfl)
  refine AW.finE (.pv _ .nil) rfl

def decO (x y : SV) (e : Int) : List (Nat × HO) := [(1002, .cells 42 [x, y]), (1003, .cells 25 [.pv (.int .i64 e)])]
attribute [go_sem] decO
theorem decRet_fn (x y : PV) (e : Int) : FnD Tryd.prog 45 (decO (.pv x) (.pv y) e) (ptrS [1002, 1003]) .returning .returning (fun H' => H' = decO (.pv x) (.pv y) e) := by
  refine FnD.of_rec (fn := Tryd.f45) (n := 14) (d := 5) (p := .nili) (by kernel_rfl) rfl rfl rfl rfl rfl rfl rfl rfl rfl (.inl ⟨rfl, rfl, rfl⟩) (fun C => ?_)
  refine AW.go ?_
  refine AW.eqNilI tk_20 ?_
  refine AW.condT (by simp only [go_sem, ↓reduceIte]) ?_
  refine AW.go ?_
  refine AW.finE .nil rfl
theorem decRec_fn (x : PV) (e0 e : Int) {ch : List PanicEntry} (hch : Pan ch (wrongE e)) : FnD Tryd.prog 45 (decO (.pv x) .nils e0) (ptrS [1002, 1003]) (.panicking ch) (recd ch) (fun H' => H' = decO (.pv (.str [])) (.pv (.sl 2 [])) e) := by
  refine FnD.of_rec (fn := Tryd.f45) (n := 14) (d := 5) (p := wrongE e) (by kernel_rfl) rfl rfl rfl rfl rfl rfl rfl rfl rfl (.inr ⟨ch, rfl, hch, rfl⟩) (fun C => ?_)
  refine AW.go ?_
  refine AW.eqNilI tk_20 ?_
  refine AW.condF (by simp only [go_sem, ↓reduceIte]) ?_
  refine AW.go ?_
  refine AW.assertT tk_72 ?_
  refine AW.go ?_
  refine AW.condT rfl ?_
  refine AW.go ?_
  refine AW.any0 mixed ?_
  refine AW.takes (fuel := 4) [1] ?_ (by simp only [go_sem, ↓reduceIte] <;> rfl) Ends.noPanic (listed' := #[false, true, false, false, false]) (by decide +kernel) (by decide +kernel)
  refine AW.branch (fuel := 3) (rs := [0, 2]) ?_ (by decide +kernel) (by simp)
  intro j hj
  simp only [List.mem_cons, List.not_mem_nil, or_false] at hj
  rcases hj with rfl | rfl
  · skip
    refine AW.gg ?_
    refine AW.branch (fuel := 2) (rs := [2, 3]) ?_ (by decide +kernel) (by simp)
    intro j hj
    simp only [List.mem_cons, List.not_mem_nil, or_false] at hj
    rcases hj with rfl | rfl
    · skip
      refine AW.gg ?_
      refine AW.seqs (fuel := 0) (listed' := #[true, true, true, true, true]) [3, 4] ?_ (by decide +kernel)
      refine AW.gg ?_
      refine AW.anyDone (by decide +kernel) ?_
      refine AW.go ?_
      refine AW.nilsOwnAt (.cell 1002 1) 55 ?_
      refine AW.freeze (p := .cell 1002 1) (by simp only [go_sem, ↓reduceIte, freeze, freezeO] <;> rfl) ?_
      refine AW.finE .nil rfl
    · skip
      refine AW.gg ?_
      refine AW.seqs (fuel := 0) (listed' := #[true, true, true, true, true]) [2, 4] ?_ (by decide +kernel)
      refine AW.gg ?_
      refine AW.anyDone (by decide +kernel) ?_
      refine AW.go ?_
      refine AW.nilsOwnAt (.cell 1002 1) 55 ?_
      refine AW.freeze (p := .cell 1002 1) (by simp only [go_sem, ↓reduceIte, freeze, freezeO] <;> rfl) ?_
      refine AW.finE .nil rfl
  · skip
    refine AW.gg ?_
    refine AW.seqs (fuel := 0) (listed' := #[true, true, true, true, true]) [0, 3, 4] ?_ (by decide +kernel)
    refine AW.gg ?_
    refine AW.anyDone (by decide +kernel) ?_
    refine AW.go ?_
    refine AW.nilsOwnAt (.cell 1002 1) 55 ?_
    refine AW.freeze (p := .cell 1002 1) (by simp only [go_sem, ↓reduceIte, freeze, freezeO] <;> rfl) ?_
    refine AW.finE .nil rfl
end Go.Ck

set_option linter.unusedVariables false
set_option maxRecDepth 10000
set_option maxHeartbeats 1000000
namespace Go.Ck
open Go.Proofs
theorem chunkDec_fn (b : List Nat) (hl : b.length ≤ 2 ^ 40) (hb : ∀ x ∈ b, x < 256) : Fn Tryd.prog 25 [] [.pv (.sl 1 (bytes b))]
    (fun rs H' => rs = [.pv (chP (decC b).1), .pv (.int .i64 (decC b).2)] ∧ H' = []) := by
  refine Fn.of_bodyD 45 [1002, 1003] (fn := Tryd.f25) (n := 91) (res := [.cell 2 42, .cell 3 25]) (by kernel_rfl) rfl rfl rfl rfl rfl (fun C => ?_)
  have hr : room = 140737488355328 := rfl
  have hbad : ∀ e, decC b = noC e → [SV.pv (.agg [.str [], .sl 2 []]), .pv (.int .i64 e)] = [SV.pv (chP (decC b).1), .pv (.int .i64 (decC b).2)] := fun e h => by rw [h]; rfl
  refine AW.seq ?_
  refine AW.region ?_
  refine AW.allocAt 1002 ?_
  refine AW.allocAt 1003 ?_
  refine AW.go ?_
  refine AW.defer [1002, 1003] ?_
  refine AW.go ?_
  refine AW.callE (fun _ => 4) (curNew_fn b (by omega)) (.pv _ .nil) ?_
  refine AW.go ?_
  refine AW.callE (fun _ => 4) (curByte_fn b (by omega)) (.ptr rfl .nil) ?_
  refine AW.go ?_
  refine AW.callPE (fun _ => 0) (need_fn _) (.pv _ .nil) (fun he ch hch => ?_) (fun he => ?_)
  · have hn : b = [] := Classical.byContradiction fun h => he (if_neg h)
    subst hn
    exact AW.finDP hch (decRec_fn _ _ _ hch) (.pv _ (.pv _ .nil)) ⟨hbad 2 rfl, rfl⟩
  obtain ⟨x, r, rfl⟩ : ∃ x r, b = x :: r := by
    cases b with
    | nil => simp at he
    | cons x r => exact ⟨x, r, rfl⟩
  simp only [List.tail_cons, List.headD_cons]
  have hx := hb x (by simp)
  have hb1 : ∀ y ∈ r, y < 256 := fun y hy => hb y (by simp [hy])
  have hl1 : r.length ≤ 2 ^ 40 := by simp at hl; omega
  refine AW.go ?_
  refine AW.cond rfl (fun hc => ?_) (fun hc => ?_)
  · have hx1 : x ≠ 1 := by simp at hc; omega
    refine AW.go ?_
    refine AW.callPE (fun _ => 0) (need_fn 3) (.pv _ .nil) (fun he ch hch => ?_) (fun he => absurd he (by decide))
    exact AW.finDP hch (decRec_fn _ _ _ hch) (.pv _ (.pv _ .nil)) ⟨hbad _ (by rw [decC]; exact if_pos hx1), rfl⟩
  have hx1 : x = 1 := by simp at hc; omega
  subst hx1
  have e1 : decC (1 :: r) = decC1 r := by show (if (1 : Nat) ≠ 1 then noC 3 else decC1 r) = _; exact if_neg (by simp)
  rw [e1] at hbad ⊢
  clear e1 hb hx hl hc he
  refine AW.go ?_
  refine AW.callPE (fun _ => 4) (chunkBlock_fn r 64 (by decide) (by omega) hb1) (.ptr rfl (.pv _ .nil)) (fun he ch hch => ?_) (fun he => ?_)
  · exact AW.finDP hch (decRec_fn _ _ _ hch) (.pv _ (.pv _ .nil)) ⟨hbad _ (by rw [decC1, if_pos he]), rfl⟩
  have e2 : decC1 r = decC2 (ub (blk r 64).1) (blk r 64).2.2 := by rw [decC1, if_neg (by simpa using he)]
  rw [e2] at hbad ⊢
  obtain ⟨hbt, hb2, hlt, hl2⟩ := blk_byte (m := 64) hb1
  generalize blk r 64 = q at *
  obtain ⟨tb, te, r2⟩ := q
  simp only at *
  have hl2 : r2.length ≤ 2 ^ 40 := by omega
  clear e2 he
  refine AW.go ?_ (by simp only [go_sem, ↓reduceIte, numsOf_byt, ofNums_ub] <;> rfl)
  generalize ub tb = t at *
  refine AW.callE (fun _ => 4) (curVarint_fn r2 (by omega) hb2) (.ptr rfl .nil) ?_
  refine AW.go ?_
  refine AW.callPE (fun _ => 0) (need_fn _) (.pv _ .nil) (fun he ch hch => ?_) (fun he => ?_)
  · exact AW.finDP hch (decRec_fn _ _ _ hch) (.pv _ (.pv _ .nil)) ⟨hbad _ (by rw [decC2, if_pos he]), rfl⟩
  have e3 : decC2 t r2 = if 65536 < (readV r2).1 then noC 4 else decC3 t (readV r2).1 (r2.drop (readV r2).2.1) := by rw [decC2, if_neg (by simpa using he)]
  rw [e3] at hbad ⊢
  have hb3 : ∀ y ∈ r2.drop (readV r2).2.1, y < 256 := fun y hy => hb2 y (List.mem_of_mem_drop hy)
  have hl3 : (r2.drop (readV r2).2.1).length ≤ 2 ^ 40 := by rw [List.length_drop]; omega
  clear e3 he
  generalize r2.drop (readV r2).2.1 = r3 at *
  generalize (readV r2).1 = n at *
  refine AW.go ?_
  refine AW.cond rfl (fun hc => ?_) (fun hc => ?_)
  · have hn : 65536 < n := by simp at hc; omega
    refine AW.go ?_
    refine AW.callPE (fun _ => 0) (need_fn 4) (.pv _ .nil) (fun he ch hch => ?_) (fun he => absurd he (by decide))
    exact AW.finDP hch (decRec_fn _ _ _ hch) (.pv _ (.pv _ .nil)) ⟨hbad _ (by rw [if_pos hn]), rfl⟩
  have hn : n ≤ 65536 := by simp at hc; omega
  rw [if_neg (by omega)] at hbad ⊢
  have en : IntKind.i64.wrap (n : Int) = (n : Int) := wrap_i64_nat (by omega)
  have hm := mostC_le n
  refine AW.go ?_ (by simp only [go_sem, ↓reduceIte, en] <;> rfl)
  refine AW.callE (fun _ => 0) (most_fn n (by omega)) (.pv _ .nil) ?_
  refine AW.go ?_
  refine AW.callPE (fun _ => 4) (chunkBlock_fn r3 (mostC n) (by omega) (by omega) hb3) (.ptr rfl (.pv _ .nil)) (fun he ch hch => ?_) (fun he => ?_)
  · exact AW.finDP hch (decRec_fn _ _ _ hch) (.pv _ (.pv _ .nil)) ⟨hbad _ (by rw [decC3, if_pos he]), rfl⟩
  rw [decC3, if_neg (by simpa using he)] at hbad ⊢
  obtain ⟨hbts, hb4, hlts, hl4⟩ := blk_byte (m := mostC n) hb3
  generalize blk r3 (mostC n) = q at *
  obtain ⟨ts, te2, r4⟩ := q
  simp only at *
  have hl4 : r4.length ≤ 2 ^ 40 := by omega
  refine AW.go ?_ (by simp only [go_sem, ↓reduceIte, en] <;> rfl)
  refine AW.callE (fun _ => 0) (most_fn n (by omega)) (.pv _ .nil) ?_
  refine AW.go ?_
  refine AW.callPE (fun _ => 4) (chunkBlock_fn r4 (mostC n) (by omega) (by omega) hb4) (.ptr rfl (.pv _ .nil)) (fun he ch hch => ?_) (fun he => ?_)
  · exact AW.finDP hch (decRec_fn _ _ _ hch) (.pv _ (.pv _ .nil)) ⟨hbad _ (by rw [if_pos he]), rfl⟩
  rw [if_neg (by simpa using he)] at hbad ⊢
  obtain ⟨hbvs, hb5, hlvs, hl5⟩ := blk_byte (m := mostC n) hb4
  generalize blk r4 (mostC n) = q at *
  obtain ⟨vs, te3, r5⟩ := q
  simp only at *
  refine AW.go ?_
  refine AW.callE (fun _ => 4) (curEnd_fn r5) (.ptr rfl .nil) ?_
  refine AW.go ?_
  refine AW.callPE (fun _ => 0) (need_fn _) (.pv _ .nil) (fun he ch hch => ?_) (fun he => ?_)
  · have h5 : r5 ≠ [] := fun h => he (if_pos h)
    rw [if_neg h5] at hch
    exact AW.finDP hch (decRec_fn _ _ _ hch) (.pv _ (.pv _ .nil)) ⟨hbad _ (by rw [if_pos h5]), rfl⟩
  have h5 : r5 = [] := Classical.byContradiction fun h => by rw [if_neg h] at he; exact absurd he (by decide)
  rw [if_neg (by simpa using h5)] at hbad ⊢
  refine AW.go ?_ (by simp only [go_sem, ↓reduceIte, en] <;> rfl)
  refine AW.callE (fun _ => 0) (decI_fn ts n (by omega) hbts) (.lend rfl co_5 (.pv _ .nil)) ?_
  refine AW.go ?_
  refine AW.callPE (fun _ => 0) (need_fn _) (.pv _ .nil) (fun he ch hch => ?_) (fun he => ?_)
  · exact AW.finDP hch (decRec_fn _ _ _ hch) (.pv _ (.pv _ .nil)) ⟨hbad _ (by rw [decC4, if_pos he]), rfl⟩
  rw [decC4, if_neg (by simpa using he)] at hbad ⊢
  have ha := decI_n he
  rw [Int.toNat_natCast] at ha
  generalize (decI ts n).1 = a at *
  refine AW.go ?_ (by simp only [go_sem, ↓reduceIte, en] <;> rfl)
  refine AW.callE (fun _ => 0) (vdec_fn vs n (by omega) hbvs) (.lend rfl co_5 (.pv _ .nil)) ?_
  refine AW.go ?_
  refine AW.callPE (fun _ => 0) (need_fn _) (.pv _ .nil) (fun he ch hch => ?_) (fun he => ?_)
  · exact AW.finDP hch (decRec_fn _ _ _ hch) (.pv _ (.pv _ .nil)) ⟨hbad _ (by rw [if_pos he]), rfl⟩
  rw [if_neg (by simpa using he)] at hbad ⊢
  have hv := dec11_n he
  rw [Int.toNat_natCast] at hv
  rw [he]
  generalize (dec11 vs n).1 = v at *
  refine AW.go ?_
  refine AW.nilsOwnAt (.cell 1002 1) 55 ?_
  refine AW.loopS (fun p : Nat × List Sm => ⟨91, [(72, .pv (.int .i64 p.1)), (71, .pv (.int .i64 a.length)), (2, .ptr 1002 0), (3, .ptr 1003 0), (9, .own 3 (ints a)), (10, .own 38 (u64s v))], [(1002, .cells 42 [.pv (.str t), .own 55 (sms p.2)]), (1003, .cells 25 [.pv (.int .i64 0)])]⟩) (fun p => p.1 ≤ a.length ∧ p.2 = (a.zip v).take p.1) (fun p => a.length - p.1) [72, 71, 2, 3, 9, 10] [1002, 1003] (0, []) ⟨Nat.zero_le _, rfl⟩ ?_
  rintro ⟨i, Z⟩ ⟨hi, hZ⟩ K hK
  simp only at hi hZ
  have hzl : (a.zip v).length = n := by rw [List.length_zip, ha, hv, Nat.min_self]
  have hZl : Z.length = i := by rw [hZ, List.length_take]; omega
  refine AW.go ?_
  refine AW.cond rfl (fun hc => ?_) (fun hc => ?_)
  · have hlt : i < a.length := by simpa using hc
    have hlv : i < v.length := by omega
    have h1 := ints_at (getDi hlt)
    have h2 := u64s_at (getDn hlv)
    have hz : (a.zip v)[i]? = some (a.getD i 0, v.getD i 0) := List.getElem?_zip_eq_some.2 ⟨getDi hlt, getDn hlv⟩
    have hZ1 : Z ++ [(a.getD i 0, v.getD i 0)] = (a.zip v).take (i + 1) := by rw [List.take_add_one, hz, hZ]; rfl
    generalize a.getD i 0 = x at *
    generalize v.getD i 0 = y at *
    have h3 : sms Z ++ [.agg [.int .i64 x, .int .u64 (y : Nat)]] = sms (Z ++ [(x, y)]) := by simp [sms]
    have h4 : (Z.length + 1) * 16 ≤ room := by omega
    have h5 : Z.length + 1 ≤ room := by omega
    have ei : IntKind.i64.wrap ((i : Int) + 1) = ((i + 1 : Nat) : Int) := wrap_i64_succ (by omega)
    refine AW.go ?_
    refine AW.apart ?_
    refine AW.any0 mixed ?_
    refine AW.takes (fuel := 8) [0, 2, 3, 6, 7, 4, 8] ?_ (by simp only [go_sem, ↓reduceIte, hlt, hlv, h1, h2, sms_len, h3, h4, h5, ei] <;> rfl) Nowhere.noPanic (listed' := #[true, false, true, true, true, false, true, true, true, false, false, false, false, false, false]) (by decide +kernel) (by decide +kernel)
    refine AW.branch (fuel := 7) (rs := [1, 5, 9]) ?_ (by decide +kernel) (by simp)
    intro j hj
    simp only [List.mem_cons, List.not_mem_nil, or_false] at hj
    rcases hj with rfl | rfl | rfl
    · skip
      refine AW.gg ?_ (by simp only [go_sem, ↓reduceIte, hlt, hlv, h1, h2, sms_len, h3, h4, h5, ei] <;> rfl)
      refine AW.branch (fuel := 6) (rs := [5, 9]) ?_ (by decide +kernel) (by simp)
      intro j hj
      simp only [List.mem_cons, List.not_mem_nil, or_false] at hj
      rcases hj with rfl | rfl
      · skip
        refine AW.gg ?_ (by simp only [go_sem, ↓reduceIte, hlt, hlv, h1, h2, sms_len, h3, h4, h5, ei] <;> rfl)
        refine AW.seqs (fuel := 0) (listed' := #[true, true, true, true, true, true, true, true, true, true, true, true, true, true, true]) [9, 10, 11, 12, 13, 14] ?_ (by decide +kernel)
        refine AW.gg ?_ (by simp only [go_sem, ↓reduceIte, hlt, hlv, h1, h2, sms_len, h3, h4, h5, ei] <;> rfl)
        refine AW.anyDone (by decide +kernel) ?_
        refine AW.stop ?_
        refine AW.go ?_ (by simp only [go_sem, ↓reduceIte, ei] <;> rfl)
        exact AW.again hK (i + 1, Z ++ [(x, y)]) ⟨by simp only; omega, hZ1⟩ (by simp only; omega)
      · skip
        refine AW.gg ?_ (by simp only [go_sem, ↓reduceIte, hlt, hlv, h1, h2, sms_len, h3, h4, h5, ei] <;> rfl)
        refine AW.seqs (fuel := 0) (listed' := #[true, true, true, true, true, true, true, true, true, true, true, true, true, true, true]) [5, 10, 11, 12, 13, 14] ?_ (by decide +kernel)
        refine AW.gg ?_ (by simp only [go_sem, ↓reduceIte, hlt, hlv, h1, h2, sms_len, h3, h4, h5, ei] <;> rfl)
        refine AW.anyDone (by decide +kernel) ?_
        refine AW.stop ?_
        refine AW.go ?_ (by simp only [go_sem, ↓reduceIte, ei] <;> rfl)
        exact AW.again hK (i + 1, Z ++ [(x, y)]) ⟨by simp only; omega, hZ1⟩ (by simp only; omega)
    · skip
      refine AW.gg ?_ (by simp only [go_sem, ↓reduceIte, hlt, hlv, h1, h2, sms_len, h3, h4, h5, ei] <;> rfl)
      refine AW.branch (fuel := 6) (rs := [1, 9]) ?_ (by decide +kernel) (by simp)
      intro j hj
      simp only [List.mem_cons, List.not_mem_nil, or_false] at hj
      rcases hj with rfl | rfl
      · skip
        refine AW.gg ?_ (by simp only [go_sem, ↓reduceIte, hlt, hlv, h1, h2, sms_len, h3, h4, h5, ei] <;> rfl)
        refine AW.seqs (fuel := 0) (listed' := #[true, true, true, true, true, true, true, true, true, true, true, true, true, true, true]) [9, 10, 11, 12, 13, 14] ?_ (by decide +kernel)
        refine AW.gg ?_ (by simp only [go_sem, ↓reduceIte, hlt, hlv, h1, h2, sms_len, h3, h4, h5, ei] <;> rfl)
        refine AW.anyDone (by decide +kernel) ?_
        refine AW.stop ?_
        refine AW.go ?_ (by simp only [go_sem, ↓reduceIte, ei] <;> rfl)
        exact AW.again hK (i + 1, Z ++ [(x, y)]) ⟨by simp only; omega, hZ1⟩ (by simp only; omega)
      · skip
        refine AW.gg ?_ (by simp only [go_sem, ↓reduceIte, hlt, hlv, h1, h2, sms_len, h3, h4, h5, ei] <;> rfl)
        refine AW.branch (fuel := 5) (rs := [1, 10]) ?_ (by decide +kernel) (by simp)
        intro j hj
        simp only [List.mem_cons, List.not_mem_nil, or_false] at hj
        rcases hj with rfl | rfl
        · skip
          refine AW.gg ?_ (by simp only [go_sem, ↓reduceIte, hlt, hlv, h1, h2, sms_len, h3, h4, h5, ei] <;> rfl)
          refine AW.seqs (fuel := 0) (listed' := #[true, true, true, true, true, true, true, true, true, true, true, true, true, true, true]) [10, 11, 12, 13, 14] ?_ (by decide +kernel)
          refine AW.gg ?_ (by simp only [go_sem, ↓reduceIte, hlt, hlv, h1, h2, sms_len, h3, h4, h5, ei] <;> rfl)
          refine AW.anyDone (by decide +kernel) ?_
          refine AW.stop ?_
          refine AW.go ?_ (by simp only [go_sem, ↓reduceIte, ei] <;> rfl)
          exact AW.again hK (i + 1, Z ++ [(x, y)]) ⟨by simp only; omega, hZ1⟩ (by simp only; omega)
        · skip
          refine AW.gg ?_ (by simp only [go_sem, ↓reduceIte, hlt, hlv, h1, h2, sms_len, h3, h4, h5, ei] <;> rfl)
          refine AW.branch (fuel := 4) (rs := [1, 11]) ?_ (by decide +kernel) (by simp)
          intro j hj
          simp only [List.mem_cons, List.not_mem_nil, or_false] at hj
          rcases hj with rfl | rfl
          · skip
            refine AW.gg ?_ (by simp only [go_sem, ↓reduceIte, hlt, hlv, h1, h2, sms_len, h3, h4, h5, ei] <;> rfl)
            refine AW.seqs (fuel := 0) (listed' := #[true, true, true, true, true, true, true, true, true, true, true, true, true, true, true]) [11, 12, 13, 14] ?_ (by decide +kernel)
            refine AW.gg ?_ (by simp only [go_sem, ↓reduceIte, hlt, hlv, h1, h2, sms_len, h3, h4, h5, ei] <;> rfl)
            refine AW.anyDone (by decide +kernel) ?_
            refine AW.stop ?_
            refine AW.go ?_ (by simp only [go_sem, ↓reduceIte, ei] <;> rfl)
            exact AW.again hK (i + 1, Z ++ [(x, y)]) ⟨by simp only; omega, hZ1⟩ (by simp only; omega)
          · skip
            refine AW.gg ?_ (by simp only [go_sem, ↓reduceIte, hlt, hlv, h1, h2, sms_len, h3, h4, h5, ei] <;> rfl)
            refine AW.seqs (fuel := 0) (listed' := #[true, true, true, true, true, true, true, true, true, true, true, true, true, true, true]) [1, 12, 13, 14] ?_ (by decide +kernel)
            refine AW.gg ?_ (by simp only [go_sem, ↓reduceIte, hlt, hlv, h1, h2, sms_len, h3, h4, h5, ei] <;> rfl)
            refine AW.anyDone (by decide +kernel) ?_
            refine AW.stop ?_
            refine AW.go ?_ (by simp only [go_sem, ↓reduceIte, ei] <;> rfl)
            exact AW.again hK (i + 1, Z ++ [(x, y)]) ⟨by simp only; omega, hZ1⟩ (by simp only; omega)
    · skip
      refine AW.gg ?_ (by simp only [go_sem, ↓reduceIte, hlt, hlv, h1, h2, sms_len, h3, h4, h5, ei] <;> rfl)
      refine AW.branch (fuel := 6) (rs := [1, 5]) ?_ (by decide +kernel) (by simp)
      intro j hj
      simp only [List.mem_cons, List.not_mem_nil, or_false] at hj
      rcases hj with rfl | rfl
      · skip
        refine AW.gg ?_ (by simp only [go_sem, ↓reduceIte, hlt, hlv, h1, h2, sms_len, h3, h4, h5, ei] <;> rfl)
        refine AW.seqs (fuel := 0) (listed' := #[true, true, true, true, true, true, true, true, true, true, true, true, true, true, true]) [5, 10, 11, 12, 13, 14] ?_ (by decide +kernel)
        refine AW.gg ?_ (by simp only [go_sem, ↓reduceIte, hlt, hlv, h1, h2, sms_len, h3, h4, h5, ei] <;> rfl)
        refine AW.anyDone (by decide +kernel) ?_
        refine AW.stop ?_
        refine AW.go ?_ (by simp only [go_sem, ↓reduceIte, ei] <;> rfl)
        exact AW.again hK (i + 1, Z ++ [(x, y)]) ⟨by simp only; omega, hZ1⟩ (by simp only; omega)
      · skip
        refine AW.gg ?_ (by simp only [go_sem, ↓reduceIte, hlt, hlv, h1, h2, sms_len, h3, h4, h5, ei] <;> rfl)
        refine AW.branch (fuel := 5) (rs := [1, 10]) ?_ (by decide +kernel) (by simp)
        intro j hj
        simp only [List.mem_cons, List.not_mem_nil, or_false] at hj
        rcases hj with rfl | rfl
        · skip
          refine AW.gg ?_ (by simp only [go_sem, ↓reduceIte, hlt, hlv, h1, h2, sms_len, h3, h4, h5, ei] <;> rfl)
          refine AW.seqs (fuel := 0) (listed' := #[true, true, true, true, true, true, true, true, true, true, true, true, true, true, true]) [10, 11, 12, 13, 14] ?_ (by decide +kernel)
          refine AW.gg ?_ (by simp only [go_sem, ↓reduceIte, hlt, hlv, h1, h2, sms_len, h3, h4, h5, ei] <;> rfl)
          refine AW.anyDone (by decide +kernel) ?_
          refine AW.stop ?_
          refine AW.go ?_ (by simp only [go_sem, ↓reduceIte, ei] <;> rfl)
          exact AW.again hK (i + 1, Z ++ [(x, y)]) ⟨by simp only; omega, hZ1⟩ (by simp only; omega)
        · skip
          refine AW.gg ?_ (by simp only [go_sem, ↓reduceIte, hlt, hlv, h1, h2, sms_len, h3, h4, h5, ei] <;> rfl)
          refine AW.branch (fuel := 4) (rs := [1, 11]) ?_ (by decide +kernel) (by simp)
          intro j hj
          simp only [List.mem_cons, List.not_mem_nil, or_false] at hj
          rcases hj with rfl | rfl
          · skip
            refine AW.gg ?_ (by simp only [go_sem, ↓reduceIte, hlt, hlv, h1, h2, sms_len, h3, h4, h5, ei] <;> rfl)
            refine AW.seqs (fuel := 0) (listed' := #[true, true, true, true, true, true, true, true, true, true, true, true, true, true, true]) [11, 12, 13, 14] ?_ (by decide +kernel)
            refine AW.gg ?_ (by simp only [go_sem, ↓reduceIte, hlt, hlv, h1, h2, sms_len, h3, h4, h5, ei] <;> rfl)
            refine AW.anyDone (by decide +kernel) ?_
            refine AW.stop ?_
            refine AW.go ?_ (by simp only [go_sem, ↓reduceIte, ei] <;> rfl)
            exact AW.again hK (i + 1, Z ++ [(x, y)]) ⟨by simp only; omega, hZ1⟩ (by simp only; omega)
          · skip
            refine AW.gg ?_ (by simp only [go_sem, ↓reduceIte, hlt, hlv, h1, h2, sms_len, h3, h4, h5, ei] <;> rfl)
            refine AW.seqs (fuel := 0) (listed' := #[true, true, true, true, true, true, true, true, true, true, true, true, true, true, true]) [1, 12, 13, 14] ?_ (by decide +kernel)
            refine AW.gg ?_ (by simp only [go_sem, ↓reduceIte, hlt, hlv, h1, h2, sms_len, h3, h4, h5, ei] <;> rfl)
            refine AW.anyDone (by decide +kernel) ?_
            refine AW.stop ?_
            refine AW.go ?_ (by simp only [go_sem, ↓reduceIte, ei] <;> rfl)
            exact AW.again hK (i + 1, Z ++ [(x, y)]) ⟨by simp only; omega, hZ1⟩ (by simp only; omega)
  have hge : i = a.length := by simp at hc; omega
  subst hge
  have hZ2 : Z = a.zip v := by rw [hZ, List.take_of_length_le (by omega)]
  subst hZ2
  refine AW.go ?_
  refine AW.freeze (p := .cell 1002 1) (by simp only [go_sem, ↓reduceIte, freeze, freezeO] <;> rfl) ?_
  refine AW.go ?_
  exact AW.finD (decRet_fn _ _ _) (.pv _ (.pv _ .nil)) ⟨rfl, rfl⟩
end Go.Ck
