/- What is proved here: parts of the proofs of this seat's statements (a verified evaluator for calls over pure values, its laws, and contracts of functions). No condition. -/
import Derived.Test.YtnbkoemhcpjceaaGreatDoorKn
import Derived.Test.YtnbkoemhcpjceaaGreatDoorKk
set_option linter.all false
set_option linter.unusedVariables false
namespace Go.Ck
def lo : List Nat → Nat
  | [] => 0
  | x :: r => r.foldl min x
def hi : List Nat → Nat
  | [] => 0
  | x :: r => r.foldl max x
theorem lo_snoc {l : List Nat} (h : l ≠ []) (x : Nat) : lo (l ++ [x]) = min (lo l) x := by
  cases l with
  | nil => exact absurd rfl h
  | cons a r => simp [lo]
theorem hi_snoc {l : List Nat} (h : l ≠ []) (x : Nat) : hi (l ++ [x]) = max (hi l) x := by
  cases l with
  | nil => exact absurd rfl h
  | cons a r => simp [hi]
theorem foldl_min_le (r : List Nat) : ∀ a, r.foldl min a ≤ a ∧ ∀ x ∈ r, r.foldl min a ≤ x := by
  induction r with
  | nil => simp
  | cons y r ih =>
    intro a
    rw [List.foldl_cons]
    have := ih (min a y)
    refine ⟨by omega, fun x hx => ?_⟩
    rcases List.mem_cons.1 hx with rfl | hx
    · omega
    · exact this.2 x hx
theorem le_foldl_max (r : List Nat) : ∀ a, a ≤ r.foldl max a ∧ ∀ x ∈ r, x ≤ r.foldl max a := by
  induction r with
  | nil => simp
  | cons y r ih =>
    intro a
    rw [List.foldl_cons]
    have := ih (max a y)
    refine ⟨by omega, fun x hx => ?_⟩
    rcases List.mem_cons.1 hx with rfl | hx
    · omega
    · exact this.2 x hx
theorem lo_le {l : List Nat} {x : Nat} (h : x ∈ l) : lo l ≤ x := by
  cases l with
  | nil => cases h
  | cons a r =>
    have := foldl_min_le r a
    rcases List.mem_cons.1 h with rfl | h
    · exact this.1
    · exact this.2 x h
theorem le_hi {l : List Nat} {x : Nat} (h : x ∈ l) : x ≤ hi l := by
  cases l with
  | nil => cases h
  | cons a r =>
    have := le_foldl_max r a
    rcases List.mem_cons.1 h with rfl | h
    · exact this.1
    · exact this.2 x h
theorem foldl_max_lt {B : Nat} (r : List Nat) : ∀ a, a < B → (∀ x ∈ r, x < B) → r.foldl max a < B := by
  induction r with
  | nil => intro a h _; exact h
  | cons y r ih =>
    intro a h h2
    rw [List.foldl_cons]
    exact ih _ (by have := h2 y (by simp); omega) (fun x hx => h2 x (by simp [hx]))
theorem hi_lt {l : List Nat} {B : Nat} (hB : 0 < B) (h : ∀ x ∈ l, x < B) : hi l < B := by
  cases l with
  | nil => exact hB
  | cons a r => exact foldl_max_lt r a (h a (by simp)) (fun x hx => h x (by simp [hx]))
theorem lo_lt {l : List Nat} {B : Nat} (hB : 0 < B) (h : ∀ x ∈ l, x < B) : lo l < B := by
  cases l with
  | nil => exact hB
  | cons a r => exact Nat.lt_of_le_of_lt (lo_le (x := a) (by simp)) (h a (by simp))
theorem lo_hi (l : List Nat) : lo l ≤ hi l := by
  cases l with
  | nil => exact Nat.le_refl _
  | cons a r => exact Nat.le_trans (lo_le (x := a) (by simp)) (le_hi (by simp))
def wF (l : List Nat) : Nat := blen (hi l - lo l)
theorem wF_le {l : List Nat} (h : ∀ x ∈ l, x < 2 ^ 64) : wF l ≤ 64 := blen_le.2 (Nat.lt_of_le_of_lt (Nat.sub_le _ _) (hi_lt (by omega) h))
theorem wF_fit {l : List Nat} {x : Nat} (h : x ∈ l) : x - lo l < 2 ^ wF l := by
  have h1 := lo_le h
  have h2 := le_hi h
  exact Nat.lt_of_le_of_lt (by omega) (blen_lt (v := hi l - lo l))
def bitsF (l : List Nat) (v w : Nat) : List Nat := l.flatMap fun x => binB (x - v) w
theorem bitsF_snoc (l : List Nat) (x v w : Nat) : bitsF (l ++ [x]) v w = bitsF l v w ++ binB (x - v) w := by simp [bitsF]
theorem bitsF_len (l : List Nat) (v w : Nat) : (bitsF l v w).length = l.length * w := by
  induction l with
  | nil => simp [bitsF]
  | cons a r ih =>
    rw [bitsF, List.flatMap_cons, List.length_append, binB_len]
    rw [bitsF] at ih
    rw [ih, List.length_cons, Nat.succ_mul]; omega
theorem bitsF_bit (l : List Nat) (v w : Nat) : ∀ x ∈ bitsF l v w, x < 2 := by
  intro x hx
  simp only [bitsF, List.mem_flatMap] at hx
  obtain ⟨y, _, hx⟩ := hx
  exact binB_bit _ _ x hx
def packF (l : List Nat) : List Nat := leb (lo l) ++ (wF l :: pk (bitsF l (lo l) (wF l)))
def valF (r : List Nat) (w i : Nat) : Nat := getB (unb r) (i * w) w
def valsF (r : List Nat) (w n v : Nat) : List Nat := (List.range n).map fun i => valF r w i + v
def okF (r : List Nat) (w n v : Nat) : Bool := (List.range n).all fun i => decide (valF r w i + v < 2 ^ 64)
def endF (l : List Nat) (k : Nat) : Bool := decide (8 * l.length - k < 8) && decide (∀ x ∈ (unb l).drop k, x = 0)
def unF2 (r : List Nat) (n v w : Nat) : List Nat × Int :=
  if okF r w n v = false then ([], 3) else if endF r (n * w) = false then ([], 3) else if lo (valsF r w n v) = v ∧ wF (valsF r w n v) = w then (valsF r w n v, 0) else ([], 3)
def unF1 (r : List Nat) (n v : Nat) : List Nat × Int :=
  match r with
  | [] => ([], 2)
  | w :: r => if 64 < w then ([], 3) else if 8 * r.length < n * w then ([], 2) else unF2 r n v w
def unF (b : List Nat) (n : Nat) : List Nat × Int :=
  if (readV b).2.2 ≠ 0 then ([], (readV b).2.2) else unF1 (b.drop (readV b).2.1) n (readV b).1
theorem valsF_len (r : List Nat) (w n v : Nat) : (valsF r w n v).length = n := by simp [valsF]
theorem valsF_succ (r : List Nat) (w n v : Nat) : valsF r w (n + 1) v = valsF r w n v ++ [valF r w n + v] := by simp [valsF, List.range_succ]
theorem okF_succ (r : List Nat) (w n v : Nat) : okF r w (n + 1) v = (okF r w n v && decide (valF r w n + v < 2 ^ 64)) := by simp [okF, List.range_succ]
theorem okF_false {r : List Nat} {w n v i : Nat} (hi : i < n) (h : ¬ valF r w i + v < 2 ^ 64) : okF r w n v = false := by
  rw [okF, List.all_eq_false]
  exact ⟨i, by simpa using hi, by simpa using h⟩
theorem okF_lt {r : List Nat} {w n v : Nat} (h : okF r w n v = true) : ∀ x ∈ valsF r w n v, x < 2 ^ 64 := by
  intro x hx
  simp only [valsF, List.mem_map, List.mem_range] at hx
  obtain ⟨i, hi, rfl⟩ := hx
  rw [okF, List.all_eq_true] at h
  simpa using h i (by simpa using hi)
/-- A number that was read was written so. -/
theorem rdv_canon : ∀ (l : List Nat) (k acc : Nat), (∀ x ∈ l, x < 256) → (rdv k acc l).2.2 = 0 → ∃ v c, (rdv k acc l).1 = acc + v * 128 ^ k ∧ l = leb v ++ c ∧ (rdv k acc l).2.1 = k + (leb v).length ∧ (0 < k → 0 < v)
  | [], k, acc, _, h => by simp [rdv] at h
  | x :: r, k, acc, hb, h => by
    simp only [rdv] at h ⊢
    have hx := hb x (by simp)
    split at h <;> rename_i h1
    · simp at h
    rw [if_neg h1]
    split at h <;> rename_i h2
    · rw [if_pos h2]
      obtain ⟨v, c, e1, e2, e3, e4⟩ := rdv_canon r (k + 1) _ (fun y hy => hb y (by simp [hy])) h
      have hv := e4 (by omega)
      refine ⟨v * 128 + x % 128, c, ?_, ?_, ?_, fun _ => by omega⟩
      · rw [e1, Nat.pow_succ]
        rw [Nat.add_mul, Nat.add_assoc, Nat.mul_assoc v, Nat.mul_comm 128, Nat.add_comm (x % 128 * _)]
      · rw [leb_ge (by omega), show (v * 128 + x % 128) % 128 + 128 = x by omega, show (v * 128 + x % 128) / 128 = v by omega, e2]; rfl
      · rw [leb_ge (by omega), show (v * 128 + x % 128) / 128 = v by omega, e3, List.length_cons]; omega
    · rw [if_neg h2]
      split at h <;> rename_i h3
      · simp at h
      · rw [if_neg h3]
        refine ⟨x, r, rfl, ?_, ?_, fun hk => by omega⟩
        · rw [leb_lt (by omega)]; rfl
        · rw [leb_lt (by omega)]; simp
theorem readV_canon {l : List Nat} (hb : ∀ x ∈ l, x < 256) (h : (readV l).2.2 = 0) : l = leb (readV l).1 ++ l.drop (readV l).2.1 := by
  obtain ⟨v, c, e1, e2, e3, _⟩ := rdv_canon (l.take 10) 0 0 (fun x hx => hb x (List.mem_of_mem_take hx)) h
  have h1 : (readV l).1 = v := by unfold readV; rw [e1]; simp
  have h2 : (readV l).2.1 = (leb v).length := by unfold readV; rw [e3]; simp
  rw [h1, h2]
  have e : l = leb v ++ (c ++ l.drop 10) := by rw [← List.append_assoc, ← e2, List.take_append_drop]
  conv => lhs; rw [e]
  conv => rhs; rw [e]
  rw [List.drop_left]
theorem binB_binN : ∀ (l : List Nat), (∀ x ∈ l, x < 2) → binB (binN l) l.length = l := by
  intro l
  induction l with
  | nil => intro _; rfl
  | cons a r ih =>
    intro h
    have ha := h a (by simp)
    have hr := binN_lt r (fun x hx => h x (by simp [hx]))
    rw [List.length_cons, binB_succ, binN_cons]
    have e : ∀ (n b : Nat), binB (b + n * 2 ^ r.length) r.length = binB b r.length := by
      intro n b
      have : ∀ (k : Nat), k ≤ r.length → binB (b + n * 2 ^ r.length) k = binB b k := by
        intro k
        induction k with
        | zero => intro _; rfl
        | succ k ihk =>
          intro hk
          rw [binB_succ, binB_succ, ihk (by omega)]
          congr 1
          have : n * 2 ^ r.length = n * 2 ^ (r.length - k - 1) * 2 * 2 ^ k := by
            rw [Nat.mul_assoc, Nat.mul_assoc, ← Nat.pow_succ', ← Nat.pow_add]; congr 2; omega
          rw [this, Nat.add_mul_div_right _ _ (Nat.two_pow_pos k), Nat.add_mul_mod_self_right]
      exact this _ (Nat.le_refl _)
    rw [Nat.add_comm (a * _), e, ih (fun x hx => h x (by simp [hx]))]
    congr 1
    rw [Nat.add_mul_div_right _ _ (Nat.two_pow_pos _), Nat.div_eq_of_lt hr]; omega
theorem unb_inj : ∀ {l r : List Nat}, (∀ x ∈ l, x < 256) → (∀ x ∈ r, x < 256) → unb l = unb r → l = r
  | [], [], _, _, _ => rfl
  | [], b :: r, _, _, h => by have := congrArg List.length h; rw [unb_len, unb_len] at this; simp at this
  | a :: l, [], _, _, h => by have := congrArg List.length h; rw [unb_len, unb_len] at this; simp at this
  | a :: l, b :: r, h1, h2, h => by
    rw [unb_cons, unb_cons] at h
    have ⟨e1, e2⟩ := List.append_inj h (by rw [binB_len, binB_len])
    have := congrArg binN e1
    rw [binN_binB, binN_binB, Nat.mod_eq_of_lt (h1 a (by simp)), Nat.mod_eq_of_lt (h2 b (by simp))] at this
    rw [this, unb_inj (fun x hx => h1 x (by simp [hx])) (fun x hx => h2 x (by simp [hx])) e2]
theorem pk_of_unb {r l : List Nat} (hr : ∀ x ∈ r, x < 256) (hl : ∀ x ∈ l, x < 2) (h : (unb r).take l.length = l) (hz : ∀ x ∈ (unb r).drop l.length, x = 0) (hs : 8 * r.length < l.length + 8) : pk l = r := by
  have hlen : l.length ≤ 8 * r.length := by have := congrArg List.length h; rw [List.length_take, unb_len] at this; omega
  refine unb_inj (pk_byte l hl) hr ?_
  rw [unb_pk hl]
  have e := List.take_append_drop l.length (unb r)
  rw [h] at e
  rw [← e]
  congr 1
  refine (List.eq_replicate_iff.2 ⟨?_, hz⟩).symm
  rw [List.length_drop, unb_len]; omega
theorem valF_bits {r : List Nat} {w n v : Nat} (hn : n * w ≤ 8 * r.length) : bitsF (valsF r w n v) v w = (unb r).take (n * w) := by
  induction n with
  | zero => simp [valsF, bitsF]
  | succ n ih =>
    rw [Nat.succ_mul] at hn
    rw [valsF_succ, bitsF_snoc, ih (by omega), Nat.add_sub_cancel, valF, getB]
    have hl : (((unb r).drop (n * w)).take w).length = w := by rw [List.length_take, List.length_drop, unb_len]; omega
    have := binB_binN (((unb r).drop (n * w)).take w) (fun x hx => unb_bit r x (List.mem_of_mem_drop (List.mem_of_mem_take hx)))
    rw [hl] at this
    rw [this, Nat.succ_mul, List.take_add]
/-- Written back. -/
theorem pack_back {b r : List Nat} {n v w : Nat} (hb : ∀ x ∈ b, x < 256) (hv : v < 2 ^ 64) (e : b = leb v ++ (w :: r)) (hn : n * w ≤ 8 * r.length) (hend : endF r (n * w) = true) (ho : okF r w n v = true) : packF (valsF r w n v) = b ↔ (lo (valsF r w n v) = v ∧ wF (valsF r w n v) = w) := by
  constructor
  · intro h
    have hlo := lo_lt (l := valsF r w n v) (by omega) (okF_lt ho)
    have e2 := readV_leb hlo (wF (valsF r w n v) :: pk (bitsF (valsF r w n v) (lo (valsF r w n v)) (wF (valsF r w n v))))
    rw [e] at h
    unfold packF at h
    rw [h, readV_leb hv] at e2
    simp only [Prod.mk.injEq] at e2
    obtain ⟨e3, -, -⟩ := e2
    rw [← e3] at h
    have := List.append_cancel_left h
    simp only [List.cons.injEq] at this
    exact ⟨e3.symm, this.1⟩
  · rintro ⟨h1, h2⟩
    unfold packF
    rw [h1, h2, e]
    congr 2
    rw [valF_bits hn]
    simp only [endF, Bool.and_eq_true, decide_eq_true_eq] at hend
    have hl : ((unb r).take (n * w)).length = n * w := by rw [List.length_take, unb_len]; omega
    refine pk_of_unb (fun x hx => hb x (by rw [e]; simp [hx])) (fun x hx => unb_bit r x (List.mem_of_mem_take hx)) ?_ ?_ ?_
    · rw [hl]
    · rw [hl]; exact hend.2
    · rw [hl]; omega
end Go.Ck

set_option linter.unusedVariables false
namespace Go.Ck
theorem binB_drop (v a b : Nat) : (binB v (a + b)).drop a = binB v b := by
  induction a with
  | zero => simp
  | succ a ih => rw [Nat.succ_add, binB_succ, List.drop_succ_cons, ih]
theorem binN_zero : ∀ (l : List Nat), (∀ x ∈ l, x = 0) ↔ binN l = 0
  | [] => by simp [binN]
  | a :: r => by
    rw [binN_cons]
    have := binN_zero r
    have hp := Nat.two_pow_pos r.length
    simp only [List.mem_cons, forall_eq_or_imp]
    rw [this]
    constructor
    · rintro ⟨rfl, h⟩; omega
    · intro h
      have h2 : a * 2 ^ r.length = 0 := by omega
      rcases Nat.mul_eq_zero.1 h2 with h2 | h2
      · exact ⟨h2, by omega⟩
      · omega
theorem unb_last (a : List Nat) (x m : Nat) (hm : m ≤ 8) : (unb (a ++ [x])).drop (8 * (a ++ [x]).length - m) = binB x m := by
  have e : 8 * (a ++ [x]).length - m = (unb a).length + (8 - m) := by rw [unb_len]; simp; omega
  rw [e, unb_append, ← List.drop_drop, List.drop_left, unb_cons, unb_nil, List.append_nil]
  have := binB_drop x (8 - m) m
  rw [show 8 - m + m = 8 by omega] at this
  exact this
theorem endF_last {l : List Nat} {k : Nat} (h1 : k < 8 * l.length) (h2 : 8 * l.length - k < 8) (hb : ∀ x ∈ l, x < 256) : endF l k = decide (l.getD (l.length - 1) 0 * 2 ^ (8 - (8 * l.length - k)) % 256 = 0) := by
  have hne : l ≠ [] := by rintro rfl; simp at h1
  obtain ⟨a, x, rfl⟩ : ∃ a x, l = a ++ [x] := ⟨l.dropLast, l.getLast hne, (List.dropLast_concat_getLast hne).symm⟩
  have hx := hb x (by simp)
  have hg : (a ++ [x]).getD ((a ++ [x]).length - 1) 0 = x := by rw [List.getD_eq_getElem?_getD]; simp
  rw [hg]
  generalize hm : 8 * (a ++ [x]).length - k = m at *
  have hk : k = 8 * (a ++ [x]).length - m := by omega
  unfold endF
  rw [hm, decide_eq_true h2, Bool.true_and, hk, unb_last a x m (by omega)]
  rw [decide_eq_decide, binN_zero, binN_binB]
  have e : 256 = 2 ^ m * 2 ^ (8 - m) := by rw [← Nat.pow_add, show m + (8 - m) = 8 by omega]
  conv => rhs; rw [e]
  rw [Nat.mul_mod_mul_right]
  constructor
  · intro h; rw [h, Nat.zero_mul]
  · intro h
    rcases Nat.mul_eq_zero.1 h with h | h
    · exact h
    · have := Nat.two_pow_pos (8 - m); omega
theorem endF_all {l : List Nat} {k : Nat} (h : k = 8 * l.length) : endF l k = true := by
  subst h
  unfold endF
  rw [List.drop_eq_nil_of_le (by rw [unb_len]; omega)]
  simp
theorem endF_far {l : List Nat} {k : Nat} (h : ¬ 8 * l.length - k < 8) : endF l k = false := by
  unfold endF
  rw [decide_eq_false h]; rfl
def endE (l : List Nat) (k : Nat) : Int := if endF l k = true then 0 else 3
theorem min_int (a b : Nat) : (if (a : Int) < (b : Int) then (a : Int) else (b : Int)) = ((min a b : Nat) : Int) := by split <;> omega
theorem min_nat (a b : Nat) : (if a < b then ((a : Nat) : Int) else (b : Int)) = ((min a b : Nat) : Int) := by split <;> omega
theorem max_int (a b : Nat) : (if (a : Int) < (b : Int) then (b : Int) else (a : Int)) = ((max a b : Nat) : Int) := by split <;> omega
theorem max_nat (a b : Nat) : (if a < b then ((b : Nat) : Int) else (a : Int)) = ((max a b : Nat) : Int) := by split <;> omega
theorem lo_take {l : List Nat} {i : Nat} (h : i < l.length) (h0 : i ≠ 0) : lo (l.take (i + 1)) = min (lo (l.take i)) l[i] := by
  rw [List.take_add_one, List.getElem?_eq_getElem h, Option.toList_some, lo_snoc]
  intro e; have := congrArg List.length e; rw [List.length_take, List.length_nil] at this; omega
theorem hi_take {l : List Nat} {i : Nat} (h : i < l.length) (h0 : i ≠ 0) : hi (l.take (i + 1)) = max (hi (l.take i)) l[i] := by
  rw [List.take_add_one, List.getElem?_eq_getElem h, Option.toList_some, hi_snoc]
  intro e; have := congrArg List.length e; rw [List.length_take, List.length_nil] at this; omega
theorem lo_take1 {l : List Nat} (h : 0 < l.length) : lo (l.take 1) = l[0] ∧ hi (l.take 1) = l[0] := by
  cases l with
  | nil => simp at h
  | cons a r => exact ⟨rfl, rfl⟩
def lims (l : List Nat) (i : Nat) : Option (List PV) := if i < l.length then some [.int .u64 (lo (l.take (i + 1)) : Nat), .int .u64 (hi (l.take (i + 1)) : Nat)] else none
theorem lims_in {l : List Nat} {i : Nat} (h : i < l.length) : lims l i = some [.int .u64 (lo (l.take (i + 1)) : Nat), .int .u64 (hi (l.take (i + 1)) : Nat)] := if_pos h
theorem lims_end (l : List Nat) : lims l l.length = none := if_neg (by omega)
end Go.Ck

set_option linter.unusedVariables false
set_option maxRecDepth 10000
set_option maxHeartbeats 1000000
namespace Go.Ck
open Go.Proofs
theorem rdEnd_fn (l : List Nat) (k : Nat) (hk : k ≤ 8 * l.length) (hl : 8 * l.length ≤ room) (hb : ∀ x ∈ l, x < 256) : Fn Tryz.prog 132 (rdO l k) [.ptr 1000 0] (fun rs H' => rs = [.pv (.int .i64 (endE l k))] ∧ H' = rdO l k) := by
  refine Fn.of_body (fn := Tryz.f132) (n := 32) (res := [.tmp 2]) (by kernel_rfl) rfl rfl rfl rfl rfl (fun C => ?_)
  have hr : room < 2 ^ 62 := by decide
  refine AW.go ?_
  refine AW.condF rfl ?_
  refine AW.go ?_
  refine AW.callE id (rdLeft_fn l k hk hl) (.ptr rfl .nil) ?_
  refine AW.go ?_
  generalize hm : 8 * l.length - k = m
  by_cases h8 : m < 8
  · have d1 : decide (8 ≤ m) = false := decide_eq_false (by omega)
    have d1' : decide ((m : Int) ≥ 8) = false := decide_eq_false (by omega)
    have d1i : decide ((8 : Int) ≤ (m : Int)) = false := decide_eq_false (by omega)
    by_cases h0 : m = 0
    · have d2 : decide (0 < m) = false := decide_eq_false (by omega)
      have d2' : decide ((m : Int) > 0) = false := decide_eq_false (by omega)
      have he : endE l k = 0 := by unfold endE; rw [endF_all (by omega)]; rfl
      rw [he]
      refine AW.sr mixed (by decide +kernel) ?_ (by simp only [go_sem, ↓reduceIte, d1, d2, d1', d1i, d2'] <;> rfl)
      refine AW.condF rfl ?_
      refine AW.go ?_
      refine AW.finE (.pv _ .nil) rfl
    · have d2 : decide (0 < m) = true := decide_eq_true (by omega)
      have d2' : decide ((m : Int) > 0) = true := decide_eq_true (by omega)
      have hlt : l.length - 1 < l.length := by omega
      have hget := bytes_get hlt
      rw [getD_get] at hget
      have hx := hb _ (List.getElem_mem hlt)
      rw [getD_get] at hx
      have hend := endF_last (l := l) (k := k) (by omega) (by omega) hb
      rw [hm] at hend
      generalize l.getD (l.length - 1) 0 = x at *
      generalize hq : x * 2 ^ (8 - m) % 256 = q at *
      have e1 : IntKind.i64.wrap ((l.length : Int) - 1) = ((l.length - 1 : Nat) : Int) := by rw [wrap_i64_of (by omega) (by omega)]; omega
      have e2 : IntKind.i64.wrap (8 - (m : Int)) = ((8 - m : Nat) : Int) := by rw [wrap_i64_of (by omega) (by omega)]; omega
      have e3 : shlI .u8 (x : Int) ((8 - m : Nat) : Int) = ((q : Nat) : Int) := by rw [← hq]; exact shlI_nat8 _ _ (by omega)
      refine AW.sr mixed (by decide +kernel) ?_ (by simp only [go_sem, ↓reduceIte, d1, d2, d1', d1i, d2', e1, e2, e3, hget, hlt] <;> rfl)
      refine AW.cond rfl (fun hc => ?_) (fun hc => ?_)
      · have hne : ¬ q = 0 := by simpa using hc
        have he : endE l k = 3 := by unfold endE; rw [hend, decide_eq_false hne]; rfl
        rw [he]
        refine AW.go ?_
        refine AW.finE (.pv _ .nil) rfl
      · have hne : q = 0 := by simpa using hc
        have he : endE l k = 0 := by unfold endE; rw [hend, decide_eq_true hne]; rfl
        rw [he]
        refine AW.go ?_
        refine AW.finE (.pv _ .nil) rfl
  · have d1 : decide (8 ≤ m) = true := decide_eq_true (by omega)
    have d1' : decide ((m : Int) ≥ 8) = true := decide_eq_true (by omega)
    have d1i : decide ((8 : Int) ≤ (m : Int)) = true := decide_eq_true (by omega)
    have he : endE l k = 3 := by unfold endE; rw [endF_far (by omega)]; rfl
    rw [he]
    refine AW.sr mixed (by decide +kernel) ?_ (by simp only [go_sem, ↓reduceIte, d1, d1', d1i] <;> rfl)
    refine AW.condT rfl ?_
    refine AW.go ?_
    refine AW.finE (.pv _ .nil) rfl

theorem refEnd_fn (l : List Nat) (hl : l.length ≤ room) : Fn Tryz.prog 118 [] [.pv (.sl 1 (nis l))] (fun rs H' => rs = [.pv (.int .i64 (if l.length < 8 ∧ ∀ x ∈ l, x = 0 then 0 else 3))] ∧ H' = []) := by
  refine Fn.of_body (fn := Tryz.f118) (n := 18) (res := [.tmp 2]) (by kernel_rfl) rfl rfl rfl rfl rfl (fun C => ?_)
  have hr : room < 2 ^ 62 := by decide
  refine AW.go ?_
  refine AW.cond rfl (fun hc => ?_) (fun hc => ?_)
  · have h : ¬ l.length < 8 := by simp at hc; omega
    rw [if_neg (fun hh => h hh.1)]
    refine AW.go ?_
    refine AW.finE (.pv _ .nil) rfl
  have h8 : l.length < 8 := by simp at hc; omega
  refine AW.go ?_
  refine AW.loopS (fun i : Nat => ⟨18, [(3, .pv (.int .i64 i)), (0, .pv (.sl 1 (nis l)))], []⟩) (fun i => i ≤ l.length ∧ ∀ x ∈ l.take i, x = 0) (fun i => l.length - i) [3, 0] [] 0 ⟨Nat.zero_le _, by simp⟩ ?_
  rintro i ⟨hi, hz⟩ K hK
  refine AW.go ?_
  refine AW.cond rfl (fun hc => ?_) (fun hc => ?_)
  · have hlt : i < l.length := by simpa using hc
    have hget := nis_get hlt
    have hti : l.take (i + 1) = l.take i ++ [l[i]] := by simp
    have hmem := List.getElem_mem hlt
    generalize l[i] = x at *
    refine AW.go ?_ (by simp only [go_sem, ↓reduceIte, hget] <;> rfl)
    refine AW.cond rfl (fun hc2 => ?_) (fun hc2 => ?_)
    · have hx : x ≠ 0 := by simp at hc2; omega
      rw [if_neg (fun hh => hx (hh.2 x hmem))]
      refine AW.go ?_
      refine AW.finE (.pv _ .nil) rfl
    · have hx : x = 0 := by simp at hc2; omega
      have ei : IntKind.i64.wrap ((i : Int) + 1) = ((i + 1 : Nat) : Int) := wrap_i64_succ (by omega)
      refine AW.go ?_ (by simp only [go_sem, ↓reduceIte, ei] <;> rfl)
      refine AW.again hK (i + 1) ⟨hlt, ?_⟩ (by omega)
      rw [hti]
      intro y hy
      rcases List.mem_append.1 hy with hy | hy
      · exact hz y hy
      · rw [List.mem_singleton] at hy; rw [hy, hx]
  · have hge : i = l.length := by simp at hc; omega
    subst hge
    rw [List.take_length] at hz
    rw [if_pos ⟨h8, hz⟩]
    refine AW.go ?_
    refine AW.finE (.pv _ .nil) rfl

theorem ends_fn (xs : List Nat) : Fn Tryz.prog 138 [] [.pv (.sl 1 (u64s xs))] (fun rs H' => rs = [.fn 143 [.ptr 1 0]] ∧ H' = [(1, .cells 43 [.pv (.sl 1 (u64s xs))])]) := by
  refine Fn.of_body (fn := Tryz.f138) (n := 4) (res := [.tmp 2]) (by kernel_rfl) rfl rfl rfl rfl rfl (fun C => ?_)
  refine AW.go ?_
  refine AW.finE (.fn rfl .nil) rfl
theorem AW.absurdD {P : Program} {R : Option Nat} {Φ : Exit → Cx → St → Prop} {e : Exit} {k : List It} {X : Bs → Prop} {s : St} (h : ∀ B, ¬ X B) : AW P R Φ e k (plain X) s := fun B a w ha => absurd ha.1.1.2 (h B)

theorem ends1_iter (l : List Nat) (hl : l.length ≤ 65536) : Iter Tryz.prog 143 [.ptr 12 0] [(12, .cells 43 [.pv (.sl 1 (u64s l))])] (lims l) := by
  refine Iter.of_body (fn := Tryz.f143) (n := 30) (by kernel_rfl) rfl rfl rfl rfl (fun L X X0 N hY hN => ?_)
  refine AW.go ?_
  refine AW.loopC (n := l.length) (fun m C s => ∃ i, m = l.length - i ∧ i ≤ l.length ∧ i ≤ N ∧ C = plain (X i) ∧ keepB [0, 3, 4, 7, 8, 9] [12] s = ⟨30, [(0, .yl L), (3, .pv (.int .u64 (lo (l.take i) : Nat))), (4, .pv (.int .u64 (hi (l.take i) : Nat))), (7, .pv (.sl 1 (u64s l))), (8, .pv (.int .i64 l.length)), (9, .pv (.int .i64 i))], [(12, .cells 43 [.pv (.sl 1 (u64s l))])]⟩ ∧ keptB none [0, 3, 4, 7, 8, 9] [12] s = true) ⟨0, rfl, by omega, Nat.zero_le _, rfl, by simp only [go_sem, ↓reduceIte] <;> rfl, by simp only [go_sem, ↓reduceIte]⟩ ?_
  rintro m C s ⟨i, rfl, hw, hiN, rfl, hs, hk⟩
  refine AW.keepB [0, 3, 4, 7, 8, 9] [12] hk hs ?_
  refine AW.go ?_
  refine AW.cond rfl (fun hc => ?_) (fun hc => ?_)
  · have hlt : i < l.length := by simpa using hc
    have ei : IntKind.i64.wrap ((i : Int) + 1) = ((i + 1 : Nat) : Int) := wrap_i64_succ (by omega)
    have hget := u64s_get hlt
    have hout := lims_in hlt
    have hto := lo_take (l := l) (i := i) hlt
    have hti := hi_take (l := l) (i := i) hlt
    have h1 := lo_take1 (l := l) (by omega)
    have hN' : i < N ∨ ∀ B, ¬ X i B := by
      by_cases hn : i = N
      · subst hn
        rcases hN with h | h
        · rw [hout] at h; cases h
        · exact .inr h
      · exact .inl (by omega)
    rcases hN'.symm with hab | hlt2
    · exact AW.absurdD hab
    obtain ⟨p, hp, hY1⟩ := hY _ hlt2
    rw [hout] at hp
    cases hp
    refine AW.go ?_ (by simp only [go_sem, ↓reduceIte, hget] <;> rfl)
    refine AW.joinS (fun _ : Unit => ⟨30, [(0, .yl L), (3, .pv (.int .u64 (if i = 0 then l[i] else lo (l.take i) : Nat))), (4, .pv (.int .u64 (if i = 0 then l[i] else hi (l.take i) : Nat))), (6, .pv (.int .u64 (l[i] : Nat))), (7, .pv (.sl 1 (u64s l))), (8, .pv (.int .i64 l.length)), (9, .pv (.int .i64 i))], [(12, .cells 43 [.pv (.sl 1 (u64s l))])]⟩) (fun _ => True) [0, 3, 4, 6, 7, 8, 9] [12] ?_ ?_
    · intro K hK
      refine AW.cond rfl (fun hc2 => ?_) (fun hc2 => ?_)
      · have h0 : i = 0 := by simp at hc2; omega
        refine AW.go ?_
        refine AW.meet hK () trivial (by simp only [go_sem, ↓reduceIte]) (by simp only [go_sem, ↓reduceIte, if_pos h0] <;> rfl)
      · have h0 : ¬ i = 0 := by simp at hc2; omega
        refine AW.go ?_
        refine AW.meet hK () trivial (by simp only [go_sem, ↓reduceIte]) (by simp only [go_sem, ↓reduceIte, if_neg h0] <;> rfl)
    rintro _ -
    have em : min l[i] (if i = 0 then l[i] else lo (l.take i)) = lo (l.take (i + 1)) := by
      rw [Nat.min_comm]
      by_cases h0 : i = 0
      · subst h0; rw [if_pos rfl, h1.1, Nat.min_self]
      · rw [if_neg h0, hto h0]
    have eM : max (if i = 0 then l[i] else hi (l.take i)) l[i] = hi (l.take (i + 1)) := by
      by_cases h0 : i = 0
      · subst h0; rw [if_pos rfl, h1.2, Nat.max_self]
      · rw [if_neg h0, hti h0]
    refine AW.gg ?_ (by simp only [go_sem, ↓reduceIte, min_int, min_nat, max_int, max_nat, em, eM] <;> rfl)
    refine AW.yield hY1 rfl rfl ?_ ?_
    · refine AW.gg ?_
      refine AW.condF rfl ?_
      refine AW.go ?_ (by simp only [go_sem, ↓reduceIte, ei] <;> rfl)
      refine AW.stop ⟨l.length - (i + 1), by omega, i + 1, rfl, by omega, by omega, rfl, by simp only [go_sem, ↓reduceIte] <;> rfl, by simp only [go_sem, ↓reduceIte]⟩
    · refine AW.gg ?_
      refine AW.condT rfl ?_
      refine AW.go ?_
      exact AW.nil ⟨.inr rfl, .inr rfl⟩
  · have h4 : i = l.length := by simp at hc; omega
    subst h4
    have hend := lims_end l
    have hNe : l.length = N := by
      apply Classical.byContradiction
      intro hne
      obtain ⟨p, hp, _⟩ := hY _ (by omega : l.length < N)
      rw [hend] at hp; cases hp
    rw [hNe] at hend ⊢
    refine AW.go ?_
    exact AW.nil ⟨.inl rfl, .inl ⟨hend, rfl⟩⟩
end Go.Ck

set_option linter.unusedVariables false
set_option maxRecDepth 10000
set_option maxHeartbeats 1000000
namespace Go.Ck
open Go.Proofs
attribute [go_sem] putParams keptH allNames pickH
theorem EndsR.noPanic {P : Program} {res : List ResultVar} {H : List (Nat × HO)} {Ψ : List SV → List (Nat × HO) → Prop} {C' : Cx} : ∀ c C s, ¬ EndsR P res H Ψ C' (.panic c) C s := fun c C s h => by
  have := h.2.1
  simp at this
theorem frame_fn (l : List Nat) (hl : l.length ≤ 65536) (hx : ∀ x ∈ l, x < 2 ^ 64) : Fn Tryz.prog 122 [] [.pv (.sl 1 (u64s l))]
    (fun rs H' => rs = [.pv (.int .u64 (lo l : Nat)), .pv (.int .i64 (wF l : Nat))] ∧ H' = []) := by
  refine Fn.of_bodyR (fn := Tryz.f122) (n := 19) (res := [.tmp 2, .tmp 3]) (by kernel_rfl) rfl rfl rfl rfl rfl (fun C => ?_)
  have hr : room = 140737488355328 := rfl
  refine AW.go ?_
  refine AW.callE (fun _ => 12) (ends_fn l) (.pv _ .nil) ?_
  refine AW.go ?_
  have hout : ∀ i p, lims l i = some p → i < l.length ∧ p = [.int .u64 (lo (l.take (i + 1)) : Nat), .int .u64 (hi (l.take (i + 1)) : Nat)] := by
    intro i p hp
    unfold lims at hp
    split at hp <;> cases hp
    rename_i h
    exact ⟨h, rfl⟩
  refine AW.rangeFunc [4, 5] [4, 5] (fun i hp => hp = [(4, .cells 39 [.pv (.int .u64 (lo (l.take i) : Nat))]), (5, .cells 39 [.pv (.int .u64 (hi (l.take i) : Nat))])]) (fun _ _ => False) l.length (ends1_iter l hl) rfl (by simp only [go_sem, ↓reduceIte]) (by simp only [go_sem, ↓reduceIte]) (by simp only [go_sem, ↓reduceIte]) (by simp only [go_sem, ↓reduceIte] <;> rfl) rfl rfl rfl rfl rfl ?_ ?_ (.inl (lims_end l)) ?_ ?_ ?_
  · intro i p hp
    obtain ⟨_, rfl⟩ := hout i p hp
    rfl
  · intro i hi
    exact ⟨_, lims_in hi⟩
  · intro i p hi hp
    obtain ⟨_, rfl⟩ := hout i p hp
    rintro _ rfl L C1
    refine AW.go ?_
    refine AW.nil ⟨rfl, rfl, fun C2 => ?_⟩
    refine AW.go ?_
    refine AW.nil ⟨rfl, by simp only [go_sem, ↓reduceIte], by simp only [go_sem, ↓reduceIte], .inl ⟨rfl, ?_⟩⟩
    simp only [go_sem, ↓reduceIte]
  · rintro _ _ rfl
    rw [List.take_length]
    have h1 := lo_lt (by omega) hx
    have h2 := hi_lt (by omega) hx
    have h3 := lo_hi l
    have hw : wF l = blen (hi l - lo l) := rfl
    rw [hw]
    generalize lo l = a at *
    generalize hi l = b at *
    have es : IntKind.u64.wrap ((b : Int) - (a : Int)) = ((b - a : Nat) : Int) := by
      rw [show (b : Int) - (a : Int) = ((b - a : Nat) : Int) by omega]; exact wrap_u64_lt (by omega)
    refine AW.go ?_
    refine AW.any0 mixed ?_
    refine AW.branch (fuel := 6) (rs := [0, 1, 2]) ?_ (by decide +kernel) (by simp)
    intro j hj
    simp only [List.mem_cons, List.not_mem_nil, or_false] at hj
    rcases hj with rfl | rfl | rfl
    · skip
      refine AW.gg ?_ (by simp only [go_sem, ↓reduceIte, es] <;> rfl)
      refine AW.branch (fuel := 5) (rs := [1, 2]) ?_ (by decide +kernel) (by simp)
      intro j hj
      simp only [List.mem_cons, List.not_mem_nil, or_false] at hj
      rcases hj with rfl | rfl
      · skip
        refine AW.gg ?_ (by simp only [go_sem, ↓reduceIte, es] <;> rfl)
        refine AW.seqs (fuel := 0) (listed' := #[true, true, true, true, true, true, true]) [2, 3, 4, 5, 6] ?_ (by decide +kernel)
        refine AW.gg ?_ (by simp only [go_sem, ↓reduceIte, es] <;> rfl)
        refine AW.callE (fun _ => 0) (width_fn (b - a) (by omega)) (.pv _ .nil) ?_
        refine AW.gg ?_
        refine AW.anyDone (by decide +kernel) ?_
        refine AW.go ?_
        refine AW.finR (.inr rfl) (.inr rfl) (by simp only [go_sem, ↓reduceIte, retsV] <;> rfl) (.pv _ (.pv _ .nil)) (H' := []) (by simp only [go_sem, ↓reduceIte]) (by simp only [go_sem, ↓reduceIte]) (by simp only [go_sem, ↓reduceIte]) ⟨rfl, rfl⟩
      · skip
        refine AW.gg ?_ (by simp only [go_sem, ↓reduceIte, es] <;> rfl)
        refine AW.seqs (fuel := 0) (listed' := #[true, true, true, true, true, true, true]) [1, 3, 4, 5, 6] ?_ (by decide +kernel)
        refine AW.gg ?_ (by simp only [go_sem, ↓reduceIte, es] <;> rfl)
        refine AW.callE (fun _ => 0) (width_fn (b - a) (by omega)) (.pv _ .nil) ?_
        refine AW.gg ?_
        refine AW.anyDone (by decide +kernel) ?_
        refine AW.go ?_
        refine AW.finR (.inr rfl) (.inr rfl) (by simp only [go_sem, ↓reduceIte, retsV] <;> rfl) (.pv _ (.pv _ .nil)) (H' := []) (by simp only [go_sem, ↓reduceIte]) (by simp only [go_sem, ↓reduceIte]) (by simp only [go_sem, ↓reduceIte]) ⟨rfl, rfl⟩
    · skip
      refine AW.gg ?_ (by simp only [go_sem, ↓reduceIte, es] <;> rfl)
      refine AW.branch (fuel := 5) (rs := [0, 2]) ?_ (by decide +kernel) (by simp)
      intro j hj
      simp only [List.mem_cons, List.not_mem_nil, or_false] at hj
      rcases hj with rfl | rfl
      · skip
        refine AW.gg ?_ (by simp only [go_sem, ↓reduceIte, es] <;> rfl)
        refine AW.seqs (fuel := 0) (listed' := #[true, true, true, true, true, true, true]) [2, 3, 4, 5, 6] ?_ (by decide +kernel)
        refine AW.gg ?_ (by simp only [go_sem, ↓reduceIte, es] <;> rfl)
        refine AW.callE (fun _ => 0) (width_fn (b - a) (by omega)) (.pv _ .nil) ?_
        refine AW.gg ?_
        refine AW.anyDone (by decide +kernel) ?_
        refine AW.go ?_
        refine AW.finR (.inr rfl) (.inr rfl) (by simp only [go_sem, ↓reduceIte, retsV] <;> rfl) (.pv _ (.pv _ .nil)) (H' := []) (by simp only [go_sem, ↓reduceIte]) (by simp only [go_sem, ↓reduceIte]) (by simp only [go_sem, ↓reduceIte]) ⟨rfl, rfl⟩
      · skip
        refine AW.gg ?_ (by simp only [go_sem, ↓reduceIte, es] <;> rfl)
        refine AW.takes (fuel := 4) [3] ?_ (by simp only [go_sem, ↓reduceIte, es] <;> rfl) EndsR.noPanic (listed' := #[false, true, true, true, false, false, false]) (by decide +kernel) (by decide +kernel)
        refine AW.branch (fuel := 3) (rs := [0, 4]) ?_ (by decide +kernel) (by simp)
        intro j hj
        simp only [List.mem_cons, List.not_mem_nil, or_false] at hj
        rcases hj with rfl | rfl
        · skip
          refine AW.gg ?_ (by simp only [go_sem, ↓reduceIte, es] <;> rfl)
          refine AW.seqs (fuel := 0) (listed' := #[true, true, true, true, true, true, true]) [4, 5, 6] ?_ (by decide +kernel)
          refine AW.gg ?_ (by simp only [go_sem, ↓reduceIte, es] <;> rfl)
          refine AW.callE (fun _ => 0) (width_fn (b - a) (by omega)) (.pv _ .nil) ?_
          refine AW.gg ?_
          refine AW.anyDone (by decide +kernel) ?_
          refine AW.go ?_
          refine AW.finR (.inr rfl) (.inr rfl) (by simp only [go_sem, ↓reduceIte, retsV] <;> rfl) (.pv _ (.pv _ .nil)) (H' := []) (by simp only [go_sem, ↓reduceIte]) (by simp only [go_sem, ↓reduceIte]) (by simp only [go_sem, ↓reduceIte]) ⟨rfl, rfl⟩
        · skip
          refine AW.gg ?_ (by simp only [go_sem, ↓reduceIte, es] <;> rfl)
          refine AW.callE (fun _ => 0) (width_fn (b - a) (by omega)) (.pv _ .nil) ?_
          refine AW.gg ?_
          refine AW.seqs (fuel := 0) (listed' := #[true, true, true, true, true, true, true]) [0, 5, 6] ?_ (by decide +kernel)
          refine AW.gg ?_ (by simp only [go_sem, ↓reduceIte, es] <;> rfl)
          refine AW.anyDone (by decide +kernel) ?_
          refine AW.go ?_
          refine AW.finR (.inr rfl) (.inr rfl) (by simp only [go_sem, ↓reduceIte, retsV] <;> rfl) (.pv _ (.pv _ .nil)) (H' := []) (by simp only [go_sem, ↓reduceIte]) (by simp only [go_sem, ↓reduceIte]) (by simp only [go_sem, ↓reduceIte]) ⟨rfl, rfl⟩
    · skip
      refine AW.gg ?_ (by simp only [go_sem, ↓reduceIte, es] <;> rfl)
      refine AW.branch (fuel := 5) (rs := [0, 1]) ?_ (by decide +kernel) (by simp)
      intro j hj
      simp only [List.mem_cons, List.not_mem_nil, or_false] at hj
      rcases hj with rfl | rfl
      · skip
        refine AW.gg ?_ (by simp only [go_sem, ↓reduceIte, es] <;> rfl)
        refine AW.seqs (fuel := 0) (listed' := #[true, true, true, true, true, true, true]) [1, 3, 4, 5, 6] ?_ (by decide +kernel)
        refine AW.gg ?_ (by simp only [go_sem, ↓reduceIte, es] <;> rfl)
        refine AW.callE (fun _ => 0) (width_fn (b - a) (by omega)) (.pv _ .nil) ?_
        refine AW.gg ?_
        refine AW.anyDone (by decide +kernel) ?_
        refine AW.go ?_
        refine AW.finR (.inr rfl) (.inr rfl) (by simp only [go_sem, ↓reduceIte, retsV] <;> rfl) (.pv _ (.pv _ .nil)) (H' := []) (by simp only [go_sem, ↓reduceIte]) (by simp only [go_sem, ↓reduceIte]) (by simp only [go_sem, ↓reduceIte]) ⟨rfl, rfl⟩
      · skip
        refine AW.gg ?_ (by simp only [go_sem, ↓reduceIte, es] <;> rfl)
        refine AW.takes (fuel := 4) [3] ?_ (by simp only [go_sem, ↓reduceIte, es] <;> rfl) EndsR.noPanic (listed' := #[false, true, true, true, false, false, false]) (by decide +kernel) (by decide +kernel)
        refine AW.branch (fuel := 3) (rs := [0, 4]) ?_ (by decide +kernel) (by simp)
        intro j hj
        simp only [List.mem_cons, List.not_mem_nil, or_false] at hj
        rcases hj with rfl | rfl
        · skip
          refine AW.gg ?_ (by simp only [go_sem, ↓reduceIte, es] <;> rfl)
          refine AW.seqs (fuel := 0) (listed' := #[true, true, true, true, true, true, true]) [4, 5, 6] ?_ (by decide +kernel)
          refine AW.gg ?_ (by simp only [go_sem, ↓reduceIte, es] <;> rfl)
          refine AW.callE (fun _ => 0) (width_fn (b - a) (by omega)) (.pv _ .nil) ?_
          refine AW.gg ?_
          refine AW.anyDone (by decide +kernel) ?_
          refine AW.go ?_
          refine AW.finR (.inr rfl) (.inr rfl) (by simp only [go_sem, ↓reduceIte, retsV] <;> rfl) (.pv _ (.pv _ .nil)) (H' := []) (by simp only [go_sem, ↓reduceIte]) (by simp only [go_sem, ↓reduceIte]) (by simp only [go_sem, ↓reduceIte]) ⟨rfl, rfl⟩
        · skip
          refine AW.gg ?_ (by simp only [go_sem, ↓reduceIte, es] <;> rfl)
          refine AW.callE (fun _ => 0) (width_fn (b - a) (by omega)) (.pv _ .nil) ?_
          refine AW.gg ?_
          refine AW.seqs (fuel := 0) (listed' := #[true, true, true, true, true, true, true]) [0, 5, 6] ?_ (by decide +kernel)
          refine AW.gg ?_ (by simp only [go_sem, ↓reduceIte, es] <;> rfl)
          refine AW.anyDone (by decide +kernel) ?_
          refine AW.go ?_
          refine AW.finR (.inr rfl) (.inr rfl) (by simp only [go_sem, ↓reduceIte, retsV] <;> rfl) (.pv _ (.pv _ .nil)) (H' := []) (by simp only [go_sem, ↓reduceIte]) (by simp only [go_sem, ↓reduceIte]) (by simp only [go_sem, ↓reduceIte]) ⟨rfl, rfl⟩
  · rintro j hp h; exact h.elim
end Go.Ck

set_option linter.unusedVariables false
set_option maxRecDepth 10000
set_option maxHeartbeats 1000000
namespace Go.Ck
open Go.Proofs
theorem pack_fn (xs : List Nat) (hl : xs.length ≤ 65536) (hx : ∀ x ∈ xs, x < 2 ^ 64) : Fn Tryz.prog 89 [] [.pv (.sl 1 (u64s xs))]
    (fun rs H' => rs = [.own 5 (bytes (packF xs)), .pv (.int .i64 0)] ∧ H' = []) := by
  refine Fn.of_body (fn := Tryz.f89) (n := 43) (res := [.tmp 2, .tmp 3]) (by kernel_rfl) rfl rfl rfl rfl rfl (fun C => ?_)
  have hr : room = 140737488355328 := rfl
  have hgt : decide (65536 < xs.length) = false := decide_eq_false (by omega)
  have hgi : decide ((xs.length : Int) > 65536) = false := decide_eq_false (by omega)
  refine AW.go ?_ (by simp only [go_sem, ↓reduceIte, hgt, hgi] <;> rfl)
  refine AW.condF rfl ?_
  refine AW.go ?_
  refine AW.callE (fun _ => 0) (frame_fn xs hl hx) (.pv _ .nil) ?_
  refine AW.go ?_
  refine AW.nilsOwnAt (.cell 19 0) 5 ?_
  have hw := wF_le hx
  have hlo := lo_lt (by omega) hx
  have hfit : ∀ x ∈ xs, x - lo xs < 2 ^ wF xs ∧ lo xs ≤ x := fun x h => ⟨wF_fit h, lo_le h⟩
  unfold packF
  generalize wF xs = w at *
  generalize lo xs = v at *
  refine AW.loopS (fun i : Nat => ⟨43, [(22, .pv (.int .i64 i)), (21, .pv (.int .i64 xs.length)), (20, .pv (.sl 1 (u64s xs))), (6, .ptr 19 0), (4, .pv (.int .u64 v)), (5, .pv (.int .i64 w))], [(19, .cells 126 [.own 5 (bytes (pk (bitsF (xs.take i) v w))), .pv (.int .i64 (bitsF (xs.take i) v w).length)])]⟩) (fun i => i ≤ xs.length) (fun i => xs.length - i) [22, 21, 20, 6, 4, 5] [19] 0 (Nat.zero_le _) ?_
  rintro i hi K hK
  refine AW.go ?_
  refine AW.cond rfl (fun hc => ?_) (fun hc => ?_)
  · have hlt : i < xs.length := by simpa using hc
    have hget := u64s_get hlt
    have hti : xs.take (i + 1) = xs.take i ++ [xs[i]] := by simp
    have hxx := hx _ (List.getElem_mem hlt)
    obtain ⟨hf1, hf2⟩ := hfit _ (List.getElem_mem hlt)
    generalize xs[i] = x at *
    have hbl := bitsF_len (xs.take i) v w
    have hbs := bitsF_snoc (xs.take i) x v w
    rw [List.length_take] at hbl
    have hm : min i xs.length * w ≤ 65536 * 64 := Nat.mul_le_mul (by omega) hw
    have hput := wrPut_fn (bitsF (xs.take i) v w) (x - v) w (bitsF_bit _ _ _) hw hf1 (by rw [hbl]; omega)
    have ei : IntKind.i64.wrap ((i : Int) + 1) = ((i + 1 : Nat) : Int) := wrap_i64_succ (by omega)
    have es : IntKind.u64.wrap ((x : Int) - (v : Int)) = ((x - v : Nat) : Int) := by rw [show (x : Int) - (v : Int) = ((x - v : Nat) : Int) by omega]; exact wrap_u64_lt (by omega)
    refine AW.go ?_ (by simp only [go_sem, ↓reduceIte, hget, es] <;> rfl)
    refine AW.callE (fun _ => 19) hput (.ptr rfl (.pv _ (.pv _ .nil))) ?_
    rw [← hbs, ← hti]
    refine AW.go ?_ (by simp only [go_sem, ↓reduceIte, ei] <;> rfl)
    refine AW.again hK (i + 1) hlt (by omega)
  · have hge : ¬ i < xs.length := by simpa using hc
    rw [List.take_of_length_le (by omega)]
    have hbl := bitsF_len xs v w
    have hm : xs.length * w ≤ 65536 * 64 := Nat.mul_le_mul (by omega) hw
    have h10 := leb_len10 hlo
    refine AW.go ?_
    refine AW.callE (fun _ => 0) (append_fn [] v hlo (by simp; omega)) (.nilsP 1 (.pv _ .nil)) ?_
    have eu : IntKind.u8.wrap ((w : Nat) : Int) = (w : Nat) := wrap_u8_lt (by omega)
    have h1 : (leb v).length + 1 ≤ room := by omega
    refine AW.go ?_ (by simp only [go_sem, ↓reduceIte, List.nil_append, eu, bytes_one, h1] <;> rfl)
    refine AW.callE (fun _ => 19) (wrBytes_fn (bitsF xs v w) (by omega)) (.ptr rfl .nil) ?_
    have hpl := pk_len (bitsF xs v w)
    have h3 : (leb v ++ [w]).length + (pk (bitsF xs v w)).length ≤ room := by rw [List.length_append, hpl, hbl]; simp; omega
    have hap : leb v ++ [w] ++ pk (bitsF xs v w) = leb v ++ (w :: pk (bitsF xs v w)) := by simp
    refine AW.go ?_ (by simp only [go_sem, ↓reduceIte, h3, hap] <;> rfl)
    refine AW.finE (.move rfl (.pv _ .nil)) rfl

theorem unpack_fn (l : List Nat) (n : Nat) (hn : n ≤ 65536) (hl : l.length ≤ 2 ^ 40) (hb : ∀ x ∈ l, x < 256) : Fn Tryz.prog 107 [] [.pv (.sl 1 (bytes l)), .pv (.int .i64 n)]
    (fun rs H' => rs = [.own 39 (u64s (unF l n).1), .pv (.int .i64 (unF l n).2)] ∧ H' = []) := by
  refine Fn.of_body (fn := Tryz.f107) (n := 106) (res := [.tmp 4, .tmp 5]) (by kernel_rfl) rfl rfl rfl rfl rfl (fun C => ?_)
  have hr : room = 140737488355328 := rfl
  have hle := readV_le l
  have hlt := readV_lt hb
  refine AW.gg ?_
  refine AW.condF (by simp only [go_sem, ↓reduceIte]; congr 3; simp; omega) ?_
  refine AW.go ?_
  refine AW.callE (fun o => if o = 7 then 25 else 0) (curNew_fn l (by omega)) (.pv _ .nil) ?_
  refine AW.go ?_
  refine AW.callE (fun _ => 25) (curVarint_fn l (by omega) hb) (.ptr rfl .nil) ?_
  refine AW.go ?_
  unfold unF
  have hbr : ∀ x ∈ l.drop (readV l).2.1, x < 256 := fun x hx => hb x (List.mem_of_mem_drop hx)
  have hlr : (l.drop (readV l).2.1).length ≤ 2 ^ 40 := by simp; omega
  generalize l.drop (readV l).2.1 = r at *
  generalize (readV l).1 = v at *
  generalize (readV l).2.2 = e at *
  generalize (readV l).2.1 = k at *
  refine AW.cond rfl (fun hc => ?_) (fun hc => ?_)
  · have he : e ≠ 0 := by simpa using hc
    simp only [if_pos he]
    refine AW.go ?_
    refine AW.finE (.move rfl (.pv _ .nil)) rfl
  have he : ¬ e ≠ 0 := by simpa using hc
  simp only [if_neg he]
  refine AW.go ?_
  refine AW.callE (fun _ => 25) (curByte_fn r (by omega)) (.ptr rfl .nil) ?_
  refine AW.go ?_
  cases r with
  | nil =>
    refine AW.condT rfl ?_
    refine AW.go ?_
    refine AW.finE (.move rfl (.pv _ .nil)) rfl
  | cons w q =>
    simp only [List.length_cons] at hlr
    have hbq : ∀ x ∈ q, x < 256 := fun x hx => hbr x (by simp [hx])
    have hw8 := hbr w (by simp)
    refine AW.condF rfl ?_
    refine AW.go ?_
    simp only [List.headD_cons, List.tail_cons, unF1]
    refine AW.cond rfl (fun hc2 => ?_) (fun hc2 => ?_)
    · have hw : 64 < w := by simp at hc2; omega
      simp only [if_pos hw]
      refine AW.go ?_
      refine AW.finE (.move rfl (.pv _ .nil)) rfl
    have hw : ¬ 64 < w := by simp at hc2; omega
    simp only [if_neg hw]
    have hnw : n * w ≤ 65536 * 64 := Nat.mul_le_mul hn (by omega)
    have em : IntKind.i64.wrap (((n * w : Nat) : Int)) = ((n * w : Nat) : Int) := wrap_i64_nat (by omega)
    have ew : IntKind.i64.wrap ((w : Nat) : Int) = (w : Nat) := wrap_i64_nat (by omega)
    have e8 : IntKind.i64.wrap (8 * ((q.length : Nat) : Int)) = ((8 * q.length : Nat) : Int) := wrap_i64_nat (n := 8 * q.length) (by omega)
    refine AW.go ?_ (by simp only [go_sem, ↓reduceIte, ew, em] <;> rfl)
    refine AW.callE (fun _ => 25) (curLeft_fn q) (.ptr rfl .nil) ?_
    refine AW.go ?_ (by simp only [go_sem, ↓reduceIte, e8] <;> rfl)
    refine AW.cond rfl (fun hc3 => ?_) (fun hc3 => ?_)
    · have h2 : 8 * q.length < n * w := by simp at hc3; omega
      simp only [if_pos h2]
      refine AW.go ?_
      refine AW.finE (.move rfl (.pv _ .nil)) rfl
    have h2 : ¬ 8 * q.length < n * w := by simp at hc3; omega
    simp only [if_neg h2]
    refine AW.go ?_
    refine AW.callE (fun _ => 25) (curLeft_fn q) (.ptr rfl .nil) ?_
    refine AW.go ?_
    refine AW.callE (fun _ => 25) (curBytes_fn q q.length (by omega)) (.ptr rfl (.pv _ .nil)) ?_
    simp only [if_pos (Nat.le_refl _), List.take_length, List.drop_length]
    refine AW.freeze (p := .part 59 0) (by simp only [go_sem, ↓reduceIte, freeze, freezeO] <;> rfl) ?_
    refine AW.go ?_
    refine AW.callE (fun o => if o = 6 then 63 else 0) (rdNew_fn q (by omega)) (.pv _ .nil) ?_
    have r1 : 8 * n ≤ room := by omega
    have r2 : n ≤ room := by omega
    refine AW.go ?_ (by simp only [go_sem, ↓reduceIte, r1, r2] <;> rfl)
    unfold unF2
    refine AW.loopS (fun j : Nat => ⟨106, [(67, .pv (.int .i64 j)), (66, .pv (.int .i64 n)), (13, .own 39 (u64s (valsF q w j v))), (12, .ptr 63 0), (9, .pv (.int .u8 w)), (7, .pv (.int .u64 v))], [(63, .cells 138 [.pv (.sl 1 (bytes q)), .pv (.int .i64 (j * w : Nat))])]⟩) (fun j => j ≤ n ∧ okF q w j v = true) (fun j => n - j) [67, 66, 13, 12, 9, 7] [63] 0 ⟨Nat.zero_le _, rfl⟩ ?_ (by simp only [go_sem, ↓reduceIte]) (by simp only [go_sem, ↓reduceIte, Nat.zero_mul] <;> rfl)
    clear hc2 hc3
    rintro j ⟨hj, hok⟩ K hK
    refine AW.go ?_
    refine AW.cond rfl (fun hc => ?_) (fun hc => ?_)
    · have hlt : j < n := by simpa using hc
      have hm : (j + 1) * w ≤ n * w := Nat.mul_le_mul_right _ hlt
      rw [Nat.succ_mul] at hm
      have hgl : j * w + w ≤ 8 * q.length := by omega
      refine AW.go ?_ (by simp only [go_sem, ↓reduceIte, ew] <;> rfl)
      refine AW.callE (fun _ => 63) (rdGet_fn q (j * w) w (by omega) (by omega) (by omega) hbq) (.ptr rfl (.pv _ .nil)) ?_
      simp only [if_pos hgl]
      have hix : getB (unb q) (j * w) w = valF q w j := rfl
      have hvl : valF q w j < 2 ^ 64 := by
        have h1 := binN_lt (((unb q).drop (j * w)).take w) (fun x hx => unb_bit q x (List.mem_of_mem_drop (List.mem_of_mem_take hx)))
        have h2 : 2 ^ (((unb q).drop (j * w)).take w).length ≤ 2 ^ 64 := Nat.pow_le_pow_right (by omega) (by simp; omega)
        exact Nat.lt_of_lt_of_le h1 h2
      have hvs := valsF_succ q w j v
      have hos := okF_succ q w j v
      have hof : ¬ valF q w j + v < 2 ^ 64 → okF q w n v = false := okF_false hlt
      rw [hix, show j * w + w = (j + 1) * w by rw [Nat.succ_mul]]
      generalize valF q w j = y at *
      by_cases hov : y + v < 2 ^ 64
      · have es : IntKind.u64.wrap ((y : Int) + (v : Int)) = ((y + v : Nat) : Int) := wrap_u64_lt (n := y + v) hov
        have d : decide (y + v < v) = false := decide_eq_false (by omega)
        have h1 : (j + 1) * 8 ≤ room := by omega
        have h2 : j + 1 ≤ room := by omega
        have ei : IntKind.i64.wrap ((j : Int) + 1) = ((j + 1 : Nat) : Int) := wrap_i64_succ (by omega)
        refine AW.go ?_ (by simp only [go_sem, ↓reduceIte, es, d] <;> rfl)
        refine AW.condF rfl ?_
        refine AW.go ?_ (by simp only [go_sem, ↓reduceIte, es, valsF_len, u64s_one, h1, h2, ei, ← hvs] <;> rfl)
        refine AW.again hK (j + 1) ⟨hlt, by rw [hos, hok, decide_eq_true hov]; rfl⟩ (by omega)
      · have es : IntKind.u64.wrap ((y : Int) + (v : Int)) = ((y + v - 2 ^ 64 : Nat) : Int) := by
          have := wrap_u64 (y + v)
          rw [show (y + v) % 2 ^ 64 = y + v - 2 ^ 64 by omega] at this
          exact this
        have d : decide (y + v - 2 ^ 64 < v) = true := decide_eq_true (by omega)
        rw [if_pos (hof hov)]
        generalize y + v - 2 ^ 64 = z at *
        refine AW.go ?_ (by simp only [go_sem, ↓reduceIte, es, d] <;> rfl)
        refine AW.condT rfl ?_
        refine AW.go ?_
        refine AW.finE (.move rfl (.pv _ .nil)) rfl
    have hge : j = n := by simp at hc; omega
    subst hge
    rw [if_neg (by rw [hok]; exact Bool.noConfusion)]
    have hvl := valsF_len q w j v
    refine AW.go ?_
    refine AW.callE (fun _ => 63) (rdEnd_fn q (j * w) (by omega) (by omega) hbq) (.ptr rfl .nil) ?_
    unfold endE
    by_cases hend : endF q (j * w) = true
    · rw [if_pos hend, if_neg (by rw [hend]; exact Bool.noConfusion)]
      refine AW.go ?_
      refine AW.condF rfl ?_
      refine AW.go ?_
      refine AW.callE (fun _ => 0) (frame_fn (valsF q w j v) (by omega) (okF_lt hok)) (.lend rfl co_39 .nil) ?_
      generalize wF (valsF q w j v) = w2 at *
      generalize lo (valsF q w j v) = v2 at *
      by_cases h1 : v2 = v
      · have b1 : ((v2 : Int) != (v : Int)) = false := by simp; omega
        by_cases h3 : w2 = w
        · have b2 : ((w2 : Int) != (w : Int)) = false := by simp; omega
          rw [if_pos ⟨h1, h3⟩]
          refine AW.gg ?_ (by simp only [go_sem, ↓reduceIte, b1, b2, ew] <;> rfl)
          refine AW.condF rfl ?_
          refine AW.go ?_
          refine AW.finE (.move rfl (.pv _ .nil)) rfl
        · have b2 : ((w2 : Int) != (w : Int)) = true := by simp; omega
          rw [if_neg (fun h => h3 h.2)]
          refine AW.gg ?_ (by simp only [go_sem, ↓reduceIte, b1, b2, ew] <;> rfl)
          refine AW.condT rfl ?_
          refine AW.go ?_
          refine AW.finE (.move rfl (.pv _ .nil)) rfl
      · have b1 : ((v2 : Int) != (v : Int)) = true := by simp; omega
        rw [if_neg (fun h => h1 h.1)]
        refine AW.gg ?_ (by simp only [go_sem, ↓reduceIte, b1] <;> rfl)
        refine AW.condT rfl ?_
        refine AW.go ?_
        refine AW.finE (.move rfl (.pv _ .nil)) rfl
    · rw [if_neg hend, if_pos (by simpa using hend)]
      refine AW.go ?_
      refine AW.condT rfl ?_
      refine AW.go ?_
      refine AW.finE (.move rfl (.pv _ .nil)) rfl
end Go.Ck

set_option linter.unusedVariables false
set_option maxRecDepth 10000
set_option maxHeartbeats 1000000
namespace Go.Ck
open Go.Proofs
theorem refPack_fn (xs : List Nat) (hl : xs.length ≤ 65536) (hx : ∀ x ∈ xs, x < 2 ^ 64) : Fn Tryz.prog 96 [] [.pv (.sl 1 (u64s xs))]
    (fun rs H' => rs = [.own 5 (bytes (packF xs)), .pv (.int .i64 0)] ∧ H' = []) := by
  refine Fn.of_body (fn := Tryz.f96) (n := 87) (res := [.tmp 2, .tmp 3]) (by kernel_rfl) rfl rfl rfl rfl rfl (fun C => ?_)
  have hr : room = 140737488355328 := rfl
  have hgt : decide (65536 < xs.length) = false := decide_eq_false (by omega)
  have hgi : decide ((xs.length : Int) > 65536) = false := decide_eq_false (by omega)
  refine AW.go ?_ (by simp only [go_sem, ↓reduceIte, hgt, hgi] <;> rfl)
  refine AW.condF rfl ?_
  refine AW.go ?_
  refine AW.loopS (fun i : Nat => ⟨87, [(6, .pv (.int .i64 i)), (4, .pv (.int .u64 (lo (xs.take i) : Nat))), (5, .pv (.int .u64 (hi (xs.take i) : Nat))), (0, .pv (.sl 1 (u64s xs)))], []⟩) (fun i => i ≤ xs.length) (fun i => xs.length - i) [6, 4, 5, 0] [] 0 (Nat.zero_le _) ?_
  rintro i hiu K hK
  refine AW.go ?_
  refine AW.cond rfl (fun hc => ?_) (fun hc => ?_)
  · have hlt : i < xs.length := by simpa using hc
    have hget := u64s_get hlt
    have hto := lo_take (l := xs) (i := i) hlt
    have hti := hi_take (l := xs) (i := i) hlt
    have h1 := lo_take1 (l := xs) (by omega)
    have ei : IntKind.i64.wrap ((i : Int) + 1) = ((i + 1 : Nat) : Int) := wrap_i64_succ (by omega)
    by_cases h0 : i = 0
    · subst h0
      have e0 : (((0 : Nat) : Int) == 0) = true := rfl
      refine AW.gg ?_ (by simp only [go_sem, ↓reduceIte, e0] <;> rfl)
      refine AW.condT rfl ?_
      refine AW.gg ?_ (by simp only [go_sem, ↓reduceIte, hget, e0] <;> rfl)
      refine AW.condT rfl ?_
      refine AW.go ?_ (by simp only [go_sem, ↓reduceIte, hget, ei] <;> rfl)
      refine AW.again hK 1 hlt (by omega) (by simp only [go_sem, ↓reduceIte]) (by simp only [go_sem, ↓reduceIte, h1.1, h1.2] <;> rfl)
    · have e0 : ((i : Int) == 0) = false := by simp; omega
      have hto := hto h0
      have hti := hti h0
      generalize xs[i] = x at *
      generalize lo (xs.take i) = a at *
      generalize hi (xs.take i) = b at *
      by_cases hxa : x < a
      · have d1 : decide (x < a) = true := decide_eq_true hxa
        have hto : lo (xs.take (i + 1)) = x := by omega
        refine AW.gg ?_ (by simp only [go_sem, ↓reduceIte, e0, hget, d1] <;> rfl)
        refine AW.condT rfl ?_
        by_cases hxb : b < x
        · have d2 : decide (b < x) = true := decide_eq_true hxb
          have d2i : decide ((x : Int) > (b : Int)) = true := decide_eq_true (by omega)
          have hti : hi (xs.take (i + 1)) = x := by omega
          refine AW.gg ?_ (by simp only [go_sem, ↓reduceIte, hget, e0, d2, d2i] <;> rfl)
          refine AW.condT rfl ?_
          refine AW.go ?_ (by simp only [go_sem, ↓reduceIte, hget, ei] <;> rfl)
          refine AW.again hK (i + 1) hlt (by omega) (by simp only [go_sem, ↓reduceIte]) (by simp only [go_sem, ↓reduceIte, hto, hti] <;> rfl)
        · have d2 : decide (b < x) = false := decide_eq_false hxb
          have d2i : decide ((x : Int) > (b : Int)) = false := decide_eq_false (by omega)
          have hti : hi (xs.take (i + 1)) = b := by omega
          refine AW.gg ?_ (by simp only [go_sem, ↓reduceIte, hget, e0, d2, d2i] <;> rfl)
          refine AW.condF rfl ?_
          refine AW.go ?_ (by simp only [go_sem, ↓reduceIte, hget, ei] <;> rfl)
          refine AW.again hK (i + 1) hlt (by omega) (by simp only [go_sem, ↓reduceIte]) (by simp only [go_sem, ↓reduceIte, hto, hti] <;> rfl)
      · have d1 : decide (x < a) = false := decide_eq_false hxa
        have hto : lo (xs.take (i + 1)) = a := by omega
        refine AW.gg ?_ (by simp only [go_sem, ↓reduceIte, e0, hget, d1] <;> rfl)
        refine AW.condF rfl ?_
        by_cases hxb : b < x
        · have d2 : decide (b < x) = true := decide_eq_true hxb
          have d2i : decide ((x : Int) > (b : Int)) = true := decide_eq_true (by omega)
          have hti : hi (xs.take (i + 1)) = x := by omega
          refine AW.gg ?_ (by simp only [go_sem, ↓reduceIte, hget, e0, d2, d2i] <;> rfl)
          refine AW.condT rfl ?_
          refine AW.go ?_ (by simp only [go_sem, ↓reduceIte, hget, ei] <;> rfl)
          refine AW.again hK (i + 1) hlt (by omega) (by simp only [go_sem, ↓reduceIte]) (by simp only [go_sem, ↓reduceIte, hto, hti] <;> rfl)
        · have d2 : decide (b < x) = false := decide_eq_false hxb
          have d2i : decide ((x : Int) > (b : Int)) = false := decide_eq_false (by omega)
          have hti : hi (xs.take (i + 1)) = b := by omega
          refine AW.gg ?_ (by simp only [go_sem, ↓reduceIte, hget, e0, d2, d2i] <;> rfl)
          refine AW.condF rfl ?_
          refine AW.go ?_ (by simp only [go_sem, ↓reduceIte, hget, ei] <;> rfl)
          refine AW.again hK (i + 1) hlt (by omega) (by simp only [go_sem, ↓reduceIte]) (by simp only [go_sem, ↓reduceIte, hto, hti] <;> rfl)
  have hge : ¬ i < xs.length := by simpa using hc
  rw [List.take_of_length_le (by omega)]
  clear hK hc
  have hwd : wF xs = blen (hi xs - lo xs) := rfl
  have hw := wF_le hx
  have hlo := lo_lt (by omega) hx
  have hhi := hi_lt (by omega) hx
  have hlh := lo_hi xs
  have hfit : ∀ x ∈ xs, x - lo xs < 2 ^ wF xs ∧ lo xs ≤ x := fun x h => ⟨wF_fit h, lo_le h⟩
  unfold packF
  generalize wF xs = w at *
  generalize lo xs = v at *
  generalize hi xs = b at *
  have es : IntKind.u64.wrap ((b : Int) - (v : Int)) = ((b - v : Nat) : Int) := by rw [show (b : Int) - (v : Int) = ((b - v : Nat) : Int) by omega]; exact wrap_u64_lt (by omega)
  refine AW.go ?_ (by simp only [go_sem, ↓reduceIte, es] <;> rfl)
  refine AW.callE (fun _ => 0) (refWidth_fn (b - v) (by omega)) (.pv _ .nil) ?_
  rw [← hwd]
  refine AW.go ?_
  refine AW.loopS (fun i : Nat => ⟨87, [(9, .pv (.int .i64 i)), (8, .own 3 (nis (bitsF (xs.take i) v w))), (7, .pv (.int .i64 w)), (4, .pv (.int .u64 v)), (0, .pv (.sl 1 (u64s xs)))], []⟩) (fun i => i ≤ xs.length) (fun i => xs.length - i) [9, 8, 7, 4, 0] [] 0 (Nat.zero_le _) ?_
  rintro i hiu K hK
  refine AW.go ?_
  refine AW.cond rfl (fun hc => ?_) (fun hc => ?_)
  · have hlt : i < xs.length := by simpa using hc
    have hget := u64s_get hlt
    have hti : xs.take (i + 1) = xs.take i ++ [xs[i]] := by simp
    have hxx := hx _ (List.getElem_mem hlt)
    obtain ⟨hf1, hf2⟩ := hfit _ (List.getElem_mem hlt)
    generalize xs[i] = x at *
    have hbl := bitsF_len (xs.take i) v w
    have hbs := bitsF_snoc (xs.take i) x v w
    rw [List.length_take] at hbl
    have hm : min i xs.length * w ≤ 65536 * 64 := Nat.mul_le_mul (by omega) hw
    rw [← hti] at hbs
    have ei : IntKind.i64.wrap ((i : Int) + 1) = ((i + 1 : Nat) : Int) := wrap_i64_succ (by omega)
    have ex : IntKind.u64.wrap ((x : Int) - (v : Int)) = ((x - v : Nat) : Int) := by rw [show (x : Int) - (v : Int) = ((x - v : Nat) : Int) by omega]; exact wrap_u64_lt (by omega)
    have ew1 : IntKind.i64.wrap ((w : Int) - 1) = (w : Int) - 1 := wrap_i64_of (by omega) (by omega)
    have hy : x - v < 2 ^ 64 := by omega
    generalize x - v = y at *
    generalize bitsF (xs.take i) v w = bs at *
    refine AW.go ?_ (by simp only [go_sem, ↓reduceIte, ew1] <;> rfl)
    refine AW.loopS (fun a : List Nat × Nat => ⟨87, [(10, .pv (.int .i64 ((a.2 : Int) - 1))), (9, .pv (.int .i64 i)), (8, .own 3 (nis a.1)), (7, .pv (.int .i64 w)), (4, .pv (.int .u64 v)), (0, .pv (.sl 1 (u64s xs)))], []⟩) (fun a => a.1 ++ binB y a.2 = bs ++ binB y w ∧ a.2 ≤ w) (fun a => a.2) [10, 9, 8, 7, 4, 0] [] (bs, w) ⟨rfl, Nat.le_refl _⟩ ?_
    rintro ⟨o, j⟩ ⟨ho, hj⟩ K' hK'
    simp only at ho hj
    have hol : o.length + j = bs.length + w := by have := congrArg List.length ho; simpa [binB_len] using this
    refine AW.go ?_
    refine AW.cond rfl (fun hc => ?_) (fun hc => ?_)
    · cases j with
      | zero => simp at hc
      | succ j =>
        have e0 : (((j + 1 : Nat) : Int) - 1) = (j : Nat) := by omega
        have e2 : IntKind.u64.wrap ((j : Nat) : Int) = (j : Nat) := wrap_u64_lt (by omega)
        have e4 : IntKind.i64.wrap ((j : Int) - 1) = (j : Int) - 1 := wrap_i64_of (by omega) (by omega)
        have e3 : IntKind.i64.wrap (ibits .and .u64 (shrI .u64 (y : Int) (j : Nat)) 1) = ((y / 2 ^ j % 2 : Nat) : Int) := by
          rw [shrI_nat .u64 y _ (by show j ≤ 64; omega), and_one (Nat.lt_of_le_of_lt (Nat.div_le_self _ _) hy), wrap_i64_nat (by omega)]
        have h1 : (o.length + 1) * 8 ≤ room := by omega
        have h2 : o.length + 1 ≤ room := by omega
        refine AW.go ?_ (by simp only [go_sem, ↓reduceIte, hget, ex, e0, e2, e3, e4, nis_one, h1, h2] <;> rfl)
        refine AW.again hK' (o ++ [y / 2 ^ j % 2], j) ⟨?_, by simp only; omega⟩ (by simp only; omega)
        rw [← ho, binB_succ]; simp
    · cases j with
      | zero =>
        simp only [binB, List.append_nil] at ho
        refine AW.go ?_ (by simp only [go_sem, ↓reduceIte, ei] <;> rfl)
        refine AW.again hK (i + 1) hlt (by omega) (by simp only [go_sem, ↓reduceIte]) (by simp only [go_sem, ↓reduceIte, ho, hbs] <;> rfl)
      | succ j => exact absurd hc (by simp)
  · have hge : ¬ i < xs.length := by simpa using hc
    rw [List.take_of_length_le (by omega)]
    have hbl := bitsF_len xs v w
    have hm : xs.length * w ≤ 65536 * 64 := Nat.mul_le_mul (by omega) hw
    have h10 := leb_len10 hlo
    refine AW.go ?_
    refine AW.callE (fun _ => 0) (refAppend_fn [] v hlo (by simp; omega)) (.nilsP 1 (.pv _ .nil)) ?_
    have eu : IntKind.u8.wrap ((w : Nat) : Int) = (w : Nat) := wrap_u8_lt (by omega)
    have h1 : (leb v).length + 1 ≤ room := by omega
    refine AW.go ?_ (by simp only [go_sem, ↓reduceIte, List.nil_append, eu, bytes_one, h1] <;> rfl)
    refine AW.callE (fun _ => 0) (refBits_fn (bitsF xs v w) (by omega) (bitsF_bit _ _ _)) (.lend rfl co_3 .nil) ?_
    have hpl := pk_len (bitsF xs v w)
    have h3 : (leb v ++ [w]).length + (pk (bitsF xs v w)).length ≤ room := by rw [List.length_append, hpl, hbl]; simp; omega
    have hap : leb v ++ [w] ++ pk (bitsF xs v w) = leb v ++ (w :: pk (bitsF xs v w)) := by simp
    refine AW.go ?_ (by simp only [go_sem, ↓reduceIte, h3, hap] <;> rfl)
    refine AW.finE (.move rfl (.pv _ .nil)) rfl

def outF (q : List Nat) (w n v : Nat) : List Nat := (List.range n).map fun i => (valF q w i + v) % 2 ^ 64
theorem outF_len (q : List Nat) (w n v : Nat) : (outF q w n v).length = n := by simp [outF]
theorem outF_succ (q : List Nat) (w n v : Nat) : outF q w (n + 1) v = outF q w n v ++ [(valF q w n + v) % 2 ^ 64] := by simp [outF, List.range_succ]
theorem outF_ok {q : List Nat} {w n v : Nat} (h : okF q w n v = true) : outF q w n v = valsF q w n v := by
  unfold outF valsF
  refine List.map_congr_left (fun i hi => ?_)
  rw [okF, List.all_eq_true] at h
  have := h i hi
  exact Nat.mod_eq_of_lt (by simpa using this)

theorem refUnpack_fn (l : List Nat) (n : Nat) (hn : n ≤ 65536) (hl : l.length ≤ 2 ^ 40) (hb : ∀ x ∈ l, x < 256) : Fn Tryz.prog 82 [] [.pv (.sl 1 (bytes l)), .pv (.int .i64 n)]
    (fun rs H' => rs = [.own 39 (u64s (unF l n).1), .pv (.int .i64 (unF l n).2)] ∧ H' = []) := by
  refine Fn.of_body (fn := Tryz.f82) (n := 102) (res := [.tmp 4, .tmp 5]) (by kernel_rfl) rfl rfl rfl rfl rfl (fun C => ?_)
  have hr : room = 140737488355328 := rfl
  have hle := readV_le l
  have hlt := readV_lt hb
  have hcan := readV_canon hb
  refine AW.gg ?_
  refine AW.condF (by simp only [go_sem, ↓reduceIte]; congr 3; simp; omega) ?_
  refine AW.go ?_
  refine AW.callE (fun _ => 0) (refRead_fn l (by omega) hb) (.pv _ .nil) ?_
  refine AW.go ?_
  unfold unF
  have hbr : ∀ x ∈ l.drop (readV l).2.1, x < 256 := fun x hx => hb x (List.mem_of_mem_drop hx)
  have hlr : (l.drop (readV l).2.1).length = l.length - (readV l).2.1 := by simp
  generalize hrd : l.drop (readV l).2.1 = r at *
  generalize (readV l).1 = v at *
  generalize (readV l).2.2 = e at *
  generalize (readV l).2.1 = k at *
  refine AW.cond rfl (fun hc => ?_) (fun hc => ?_)
  · have he : e ≠ 0 := by simpa using hc
    simp only [if_pos he]
    refine AW.go ?_
    refine AW.finE (.move rfl (.pv _ .nil)) rfl
  have he : ¬ e ≠ 0 := by simpa using hc
  simp only [if_neg he]
  have hcan := hcan (by simpa using he)
  cases r with
  | nil =>
    have hkl : ((k : Int) == (l.length : Int)) = true := by simp at hlr ⊢; omega
    refine AW.go ?_ (by simp only [go_sem, ↓reduceIte, hkl] <;> rfl)
    refine AW.condT rfl ?_
    refine AW.go ?_
    refine AW.finE (.move rfl (.pv _ .nil)) rfl
  | cons w q =>
    simp only [List.length_cons] at hlr
    have hbq : ∀ x ∈ q, x < 256 := fun x hx => hbr x (by simp [hx])
    have hw8 := hbr w (by simp)
    have hkl : ((k : Int) == (l.length : Int)) = false := by simp; omega
    have hk : k < l.length := by omega
    have hget : (bytes l)[k]? = some (.int .u8 w) := by
      have h1 : l[k]? = some w := by
        have := congrArg (·[0]?) hrd
        simpa using this
      rw [bytes, List.getElem?_map, h1]; rfl
    have hk1 : k + 1 ≤ l.length := hk
    have hdq : l.drop (k + 1) = q := by rw [← List.drop_drop, hrd]; rfl
    have ew : IntKind.i64.wrap ((w : Nat) : Int) = (w : Nat) := wrap_i64_nat (by omega)
    have ek1 : IntKind.i64.wrap ((k : Int) + 1) = ((k + 1 : Nat) : Int) := wrap_i64_succ (by omega)
    refine AW.go ?_ (by simp only [go_sem, ↓reduceIte, hkl] <;> rfl)
    refine AW.condF rfl ?_
    refine AW.go ?_ (by simp only [go_sem, ↓reduceIte, hget, hk, ew] <;> rfl)
    simp only [unF1]
    refine AW.cond rfl (fun hc2 => ?_) (fun hc2 => ?_)
    · have hw : 64 < w := by simp at hc2; omega
      simp only [if_pos hw]
      refine AW.go ?_
      refine AW.finE (.move rfl (.pv _ .nil)) rfl
    have hw : ¬ 64 < w := by simp at hc2; omega
    simp only [if_neg hw]
    have hnw : n * w ≤ 65536 * 64 := Nat.mul_le_mul hn (by omega)
    have em : IntKind.i64.wrap (((n * w : Nat) : Int)) = ((n * w : Nat) : Int) := wrap_i64_nat (by omega)
    have e8 : IntKind.i64.wrap (8 * IntKind.i64.wrap (IntKind.i64.wrap ((l.length : Int) - (k : Int)) - 1)) = ((8 * q.length : Nat) : Int) := by
      rw [wrap_i64_of (n := (l.length : Int) - (k : Int)) (by omega) (by omega), wrap_i64_of (n := (l.length : Int) - (k : Int) - 1) (by omega) (by omega), wrap_i64_of (by omega) (by omega)]
      omega
    refine AW.go ?_ (by simp only [go_sem, ↓reduceIte, em, e8] <;> rfl)
    refine AW.cond rfl (fun hc3 => ?_) (fun hc3 => ?_)
    · have h2 : 8 * q.length < n * w := by simp at hc3; omega
      simp only [if_pos h2]
      refine AW.go ?_
      refine AW.finE (.move rfl (.pv _ .nil)) rfl
    have h2 : ¬ 8 * q.length < n * w := by simp at hc3; omega
    simp only [if_neg h2]
    have e : (((l.length : Int) - ((k + 1 : Nat) : Int)).toNat) = l.length - (k + 1) := by omega
    have e2 : (bytes (l.drop (k + 1))).take (l.length - (k + 1)) = bytes q := by rw [hdq]; exact List.take_of_length_le (by simp [bytes]; omega)
    refine AW.go ?_ (by simp only [go_sem, ↓reduceIte, ek1, hk1, e]; rw [← bytes_take, e2] <;> rfl)
    refine AW.callE (fun _ => 0) (refOf_fn q (by omega) hbq) (.pv _ .nil) ?_
    refine AW.freeze (p := .slot 59) (by simp only [go_sem, ↓reduceIte, freeze, freezeO] <;> rfl) ?_
    refine AW.go ?_
    unfold unF2
    refine AW.loopS (fun j : Nat => ⟨102, [(13, .pv (.int .i64 j)), (1, .pv (.int .i64 n)), (12, .pv (.bool (!okF q w j v))), (11, .own 39 (u64s (outF q w j v))), (10, .pv (.sl 1 (nis ((unb q).drop (j * w))))), (9, .pv (.int .i64 w)), (6, .pv (.int .u64 v)), (0, .pv (.sl 1 (bytes l)))], []⟩) (fun j => j ≤ n) (fun j => n - j) [13, 1, 12, 11, 10, 9, 6, 0] [] 0 (Nat.zero_le _) ?_ (by simp only [go_sem, ↓reduceIte]) (by simp only [go_sem, ↓reduceIte, Nat.zero_mul, List.drop_zero] <;> rfl)
    clear hc2 hc3
    rintro j hj K hK
    have hol := outF_len q w j v
    refine AW.go ?_
    refine AW.cond rfl (fun hc => ?_) (fun hc => ?_)
    · have hlt2 : j < n := by simpa using hc
      have hm : (j + 1) * w ≤ n * w := Nat.mul_le_mul_right _ hlt2
      rw [Nat.succ_mul] at hm
      have hul := unb_len q
      have hgl : w ≤ ((unb q).drop (j * w)).length := by rw [List.length_drop]; omega
      refine AW.go ?_
      refine AW.callE (fun _ => 0) (refGet_fn ((unb q).drop (j * w)) w (by omega) (fun x hx => unb_bit q x (List.mem_of_mem_drop hx))) (.pv _ (.pv _ .nil)) ?_
      simp only [if_pos hgl]
      have hix : binN (((unb q).drop (j * w)).take w) = valF q w j := rfl
      have hdd : ((unb q).drop (j * w)).drop w = (unb q).drop ((j + 1) * w) := by rw [List.drop_drop, Nat.succ_mul]
      have hvl : valF q w j < 2 ^ 64 := by
        have h1 := binN_lt (((unb q).drop (j * w)).take w) (fun x hx => unb_bit q x (List.mem_of_mem_drop (List.mem_of_mem_take hx)))
        have h2 : 2 ^ (((unb q).drop (j * w)).take w).length ≤ 2 ^ 64 := Nat.pow_le_pow_right (by omega) (by simp; omega)
        exact Nat.lt_of_lt_of_le h1 h2
      have hvs := outF_succ q w j v
      have hos := okF_succ q w j v
      rw [hix, hdd]
      generalize valF q w j = y at *
      have es : IntKind.u64.wrap ((y : Int) + (v : Int)) = (((y + v) % 2 ^ 64 : Nat) : Int) := wrap_u64 (y + v)
      have ec : IntKind.u64.wrap (18446744073709551615 - (v : Int)) = ((2 ^ 64 - 1 - v : Nat) : Int) := by
        rw [show (18446744073709551615 - (v : Int)) = ((2 ^ 64 - 1 - v : Nat) : Int) by omega]; exact wrap_u64_lt (by omega)
      have hd : decide (2 ^ 64 - 1 - v < y) = !decide (y + v < 2 ^ 64) := by
        by_cases h : y + v < 2 ^ 64
        · rw [decide_eq_true h, decide_eq_false (by omega)]; rfl
        · rw [decide_eq_false h, decide_eq_true (by omega)]; rfl
      have h1 : (j + 1) * 8 ≤ room := by omega
      have h2 : j + 1 ≤ room := by omega
      have ei : IntKind.i64.wrap ((j : Int) + 1) = ((j + 1 : Nat) : Int) := wrap_i64_succ (by omega)
      generalize hcv : 2 ^ 64 - 1 - v = cv at *
      generalize hz : (y + v) % 2 ^ 64 = z at *
      generalize decide (y + v < 2 ^ 64) = bb at *
      cases hok : okF q w j v with
      | true =>
        rw [hok, Bool.true_and] at hos
        refine AW.gg ?_ (by simp only [go_sem, ↓reduceIte, hok, Bool.not_true, Bool.not_false, ec, hd, es, hol, u64s_one, h1, h2, ei, ← hvs] <;> rfl)
        refine AW.again hK (j + 1) hlt2 (by omega) (by simp only [go_sem, ↓reduceIte]) (by simp only [go_sem, ↓reduceIte, hos] <;> rfl)
      | false =>
        rw [hok, Bool.false_and] at hos
        refine AW.gg ?_ (by simp only [go_sem, ↓reduceIte, hok, Bool.not_true, Bool.not_false, ec, hd, es, hol, u64s_one, h1, h2, ei, ← hvs] <;> rfl)
        refine AW.again hK (j + 1) hlt2 (by omega) (by simp only [go_sem, ↓reduceIte]) (by simp only [go_sem, ↓reduceIte, hos] <;> rfl)
    have hge : j = n := by simp at hc; omega
    subst hge
    have hul := unb_len q
    refine AW.go ?_
    refine AW.callE (fun _ => 0) (refEnd_fn ((unb q).drop (j * w)) (by rw [List.length_drop]; omega)) (.pv _ .nil) ?_
    have hend : endF q (j * w) = decide (((unb q).drop (j * w)).length < 8 ∧ ∀ x ∈ (unb q).drop (j * w), x = 0) := by
      rw [endF, List.length_drop, hul, ← Bool.decide_and]
    by_cases hE : ((unb q).drop (j * w)).length < 8 ∧ ∀ x ∈ (unb q).drop (j * w), x = 0
    · rw [decide_eq_true hE] at hend
      rw [if_pos hE]
      cases hok : okF q w j v with
      | false =>
        rw [if_pos rfl]
        refine AW.gg ?_ (by simp only [go_sem, ↓reduceIte, hok, Bool.not_true, Bool.not_false] <;> rfl)
        refine AW.condT rfl ?_
        refine AW.go ?_
        refine AW.finE (.move rfl (.pv _ .nil)) rfl
      | true =>
        rw [if_neg (by simp), hend, if_neg (by simp)]
        refine AW.gg ?_ (by simp only [go_sem, ↓reduceIte, hok, Bool.not_true, Bool.not_false] <;> rfl)
        refine AW.condF rfl ?_
        rw [outF_ok hok]
        have hvl := valsF_len q w j v
        have hpb := pack_back (w := w) (n := j) hb hlt hcan (by omega) hend hok
        have hpy : (packF (valsF q w j v)).length ≤ room := by
          have h10 := leb_len10 (lo_lt (by omega) (okF_lt hok))
          have hw2 := wF_le (okF_lt hok)
          have hm : (valsF q w j v).length * wF (valsF q w j v) ≤ 65536 * 64 := Nat.mul_le_mul (by omega) hw2
          unfold packF
          rw [List.length_append, List.length_cons, pk_len, bitsF_len]
          omega
        refine AW.go ?_
        refine AW.callE (fun _ => 0) (refPack_fn (valsF q w j v) (by omega) (okF_lt hok)) (.lend rfl co_39 .nil) ?_
        refine AW.go ?_
        refine AW.callE (fun _ => 0) (ref01Same_fn (packF (valsF q w j v)) l hpy) (.lend rfl co_5 (.pv _ .nil)) ?_
        refine AW.go ?_
        by_cases hq : packF (valsF q w j v) = l
        · rw [decide_eq_true hq, if_pos (hpb.1 hq)]
          refine AW.condF rfl ?_
          refine AW.go ?_
          refine AW.finE (.move rfl (.pv _ .nil)) rfl
        · rw [decide_eq_false hq, if_neg (fun h => hq (hpb.2 h))]
          refine AW.condT rfl ?_
          refine AW.go ?_
          refine AW.finE (.move rfl (.pv _ .nil)) rfl
    · rw [decide_eq_false hE] at hend
      rw [if_neg hE]
      have hfin : (if okF q w j v = false then (([] : List Nat), (3 : Int)) else if endF q (j * w) = false then ([], 3) else if lo (valsF q w j v) = v ∧ wF (valsF q w j v) = w then (valsF q w j v, 0) else ([], 3)) = ([], 3) := by
        rw [hend, if_pos rfl, ite_self]
      rw [hfin]
      refine AW.gg ?_
      refine AW.condT rfl ?_
      refine AW.go ?_
      refine AW.finE (.move rfl (.pv _ .nil)) rfl
end Go.Ck

set_option linter.unusedVariables false
namespace Go.Ck
def cntL : List Nat := [240, 120, 60, 30, 20, 15, 12, 10, 8, 7, 6, 5, 4, 3, 2, 1]
def widL : List Nat := [0, 0, 1, 2, 3, 4, 5, 6, 7, 8, 10, 12, 15, 20, 30, 60]
def cn (s : Nat) : Nat := cntL.getD s 0
def wn (s : Nat) : Nat := widL.getD s 0
theorem cw (s : Nat) (h : s < 16) : 1 ≤ cn s ∧ cn s ≤ 240 ∧ wn s ≤ 60 ∧ cn s * wn s ≤ 60 := by
  have : ∀ i : Fin 16, 1 ≤ cn i.val ∧ cn i.val ≤ 240 ∧ wn i.val ≤ 60 ∧ cn i.val * wn i.val ≤ 60 := by decide
  exact this ⟨s, h⟩
def fitS (l : List Nat) (s : Nat) : Bool := decide (cn s ≤ l.length) && (l.take (cn s)).all fun x => decide (x < 2 ^ wn s)
def fstS (l : List Nat) : Nat := ((List.range 16).find? (fitS l)).getD 15
theorem find_range (p : Nat → Bool) : ∀ (n s : Nat), s < n → (∀ t, t < s → p t = false) → p s = true → (List.range n).find? p = some s := by
  intro n
  induction n with
  | zero => intro s h; omega
  | succ n ih =>
    intro s hs hn hp
    rw [List.range_succ, List.find?_append]
    by_cases h : s < n
    · rw [ih s h hn hp]; rfl
    · have e : s = n := by omega
      subst e
      have : (List.range s).find? p = none := by
        rw [List.find?_eq_none]
        intro x hx
        rw [hn x (by simpa using hx)]; simp
      rw [this]
      simp [hp]
theorem fstS_eq {l : List Nat} {s : Nat} (hs : s < 16) (hn : ∀ t, t < s → fitS l t = false) (hp : fitS l s = true) : fstS l = s := by
  unfold fstS
  rw [find_range (fitS l) 16 s hs hn hp]; rfl
theorem fitS_last {l : List Nat} (h : l ≠ []) (hx : ∀ x ∈ l, x < 2 ^ 60) : fitS l 15 = true := by
  cases l with
  | nil => exact absurd rfl h
  | cons a r =>
    have e1 : cn 15 = 1 := rfl
    have e2 : wn 15 = 60 := rfl
    unfold fitS
    rw [e1, e2]
    simp
    exact hx a (by simp)
theorem fstS_lt (l : List Nat) : fstS l < 16 := by
  unfold fstS
  cases h : (List.range 16).find? (fitS l) with
  | none => simp
  | some s =>
    have := List.mem_of_find?_eq_some h
    simpa using this
/-- Numbers of w bits, the first the greatest. -/
def hornB (w : Nat) (l : List Nat) : Nat := l.foldl (fun a x => a * 2 ^ w + x) 0
theorem hornB_snoc (w : Nat) (l : List Nat) (x : Nat) : hornB w (l ++ [x]) = hornB w l * 2 ^ w + x := by simp [hornB]
theorem hornB_lt {w : Nat} : ∀ {l : List Nat}, (∀ x ∈ l, x < 2 ^ w) → hornB w l < 2 ^ (l.length * w) := by
  intro l
  induction l using snoc_ind with
  | h0 => intro _; simp [hornB]
  | h1 l b ih =>
    intro h
    have h1 := ih (fun x hx => h x (by simp [hx]))
    have h2 := h b (by simp)
    rw [hornB_snoc, List.length_append, List.length_singleton, Nat.add_mul, Nat.one_mul, Nat.pow_add]
    have := Nat.mul_le_mul_right (2 ^ w) (show hornB w l + 1 ≤ 2 ^ (l.length * w) by omega)
    rw [Nat.add_mul, Nat.one_mul] at this
    omega
def wordS (l : List Nat) (s : Nat) : Nat := s * 2 ^ 60 + hornB (wn s) (l.take (cn s)) * 2 ^ (60 - cn s * wn s)
def encS (l : List Nat) : List Nat := if h : l = [] then [] else beB (wordS l (fstS l)) 8 ++ encS (l.drop (cn (fstS l)))
termination_by l.length
decreasing_by
  have := (cw (fstS l) (fstS_lt l)).1
  have : l.length ≠ 0 := fun e => h (List.length_eq_zero_iff.1 e)
  rw [List.length_drop]; omega
theorem encS_nil : encS [] = [] := by rw [encS]; simp
theorem encS_cons {l : List Nat} (h : l ≠ []) : encS l = beB (wordS l (fstS l)) 8 ++ encS (l.drop (cn (fstS l))) := by rw [encS, dif_neg h]
def big60 (l : List Nat) : Bool := l.any fun x => decide (2 ^ 60 ≤ x)
def encSW (l : List Nat) : List Nat × Int := if big60 l = true then ([], 1) else (encS l, 0)
theorem big60_false {l : List Nat} (h : ∀ x ∈ l, x < 2 ^ 60) : big60 l = false := by
  unfold big60
  rw [List.any_eq_false]
  intro x hx
  have := h x hx
  simp; omega
theorem encS_len (n : Nat) : ∀ (l : List Nat), l.length ≤ n → (encS l).length ≤ 8 * l.length := by
  induction n with
  | zero => intro l h; rw [List.length_eq_zero_iff.1 (Nat.le_zero.1 h), encS_nil]; simp
  | succ n ih =>
    intro l h
    by_cases h0 : l = []
    · subst h0; rw [encS_nil]; simp
    · have hc := (cw (fstS l) (fstS_lt l)).1
      have : l.length ≠ 0 := fun e => h0 (List.length_eq_zero_iff.1 e)
      rw [encS_cons h0, List.length_append, beB_len]
      have := ih (l.drop (cn (fstS l))) (by rw [List.length_drop]; omega)
      rw [List.length_drop] at this
      omega
theorem encS_byte (n : Nat) : ∀ (l : List Nat), l.length ≤ n → ∀ x ∈ encS l, x < 256 := by
  induction n with
  | zero => intro l h; rw [List.length_eq_zero_iff.1 (Nat.le_zero.1 h), encS_nil]; simp
  | succ n ih =>
    intro l h
    by_cases h0 : l = []
    · subst h0; rw [encS_nil]; simp
    · have hc := (cw (fstS l) (fstS_lt l)).1
      have : l.length ≠ 0 := fun e => h0 (List.length_eq_zero_iff.1 e)
      rw [encS_cons h0]
      intro x hx
      rcases List.mem_append.1 hx with hx | hx
      · exact beB_byte _ _ x hx
      · exact ih (l.drop (cn (fstS l))) (by rw [List.length_drop]; omega) x hx
theorem wordS_lt {l : List Nat} {s : Nat} (hs : s < 16) (h : fitS l s = true) : hornB (wn s) (l.take (cn s)) * 2 ^ (60 - cn s * wn s) < 2 ^ 60 ∧ wordS l s < 2 ^ 64 := by
  obtain ⟨c1, c2, c3, c4⟩ := cw s hs
  simp only [fitS, Bool.and_eq_true, decide_eq_true_eq, List.all_eq_true] at h
  have h1 := hornB_lt (w := wn s) (l := l.take (cn s)) (fun x hx => h.2 x hx)
  rw [List.length_take, Nat.min_eq_left h.1] at h1
  have h2 := Nat.mul_lt_mul_of_pos_right h1 (Nat.two_pow_pos (60 - cn s * wn s))
  rw [← Nat.pow_add, show cn s * wn s + (60 - cn s * wn s) = 60 by omega] at h2
  refine ⟨h2, ?_⟩
  unfold wordS
  have : s * 2 ^ 60 ≤ 15 * 2 ^ 60 := Nat.mul_le_mul_right _ (by omega)
  omega
/-- Read back. -/
def valsS (word : Nat) (m : Nat) : List Nat := (List.range m).map fun i => word / 2 ^ (60 - (i + 1) * wn (word / 2 ^ 60)) % 2 ^ wn (word / 2 ^ 60)
theorem valsS_len (word m : Nat) : (valsS word m).length = m := by simp [valsS]
theorem valsS_succ (word m : Nat) : valsS word (m + 1) = valsS word m ++ [word / 2 ^ (60 - (m + 1) * wn (word / 2 ^ 60)) % 2 ^ wn (word / 2 ^ 60)] := by simp [valsS, List.range_succ]
def unS (word : Nat) : List Nat := valsS word (cn (word / 2 ^ 60))
theorem unS_lt {word : Nat} (h : word < 2 ^ 64) : ∀ x ∈ unS word, x < 2 ^ 60 := by
  intro x hx
  simp only [unS, valsS, List.mem_map, List.mem_range] at hx
  obtain ⟨i, hi, rfl⟩ := hx
  have hc := (cw (word / 2 ^ 60) (by omega)).2.2.1
  exact Nat.lt_of_lt_of_le (Nat.mod_lt _ (Nat.two_pow_pos _)) (Nat.pow_le_pow_right (by omega) hc)
def rdS (n : Nat) (acc l : List Nat) : List Nat × List Nat × Int :=
  if acc.length < n then (if h : l.length < 8 then ([], [], 2) else rdS n (acc ++ unS (beN (l.take 8))) (l.drop 8)) else (acc, l, 0)
termination_by l.length
decreasing_by rw [List.length_drop]; omega
theorem rdS_end {n : Nat} {acc l : List Nat} (h : ¬ acc.length < n) : rdS n acc l = (acc, l, 0) := by rw [rdS, if_neg h]
theorem rdS_short {n : Nat} {acc l : List Nat} (h : acc.length < n) (h8 : l.length < 8) : rdS n acc l = ([], [], 2) := by rw [rdS, if_pos h, dif_pos h8]
theorem rdS_step {n : Nat} {acc l : List Nat} (h : acc.length < n) (h8 : ¬ l.length < 8) : rdS n acc l = rdS n (acc ++ unS (beN (l.take 8))) (l.drop 8) := by rw [rdS, if_pos h, dif_neg h8]
def decS (l : List Nat) (n : Nat) : List Nat × Int :=
  let r := rdS n [] l
  if r.2.2 ≠ 0 then ([], r.2.2) else if n < r.1.length then ([], 3) else if r.2.1 ≠ [] then ([], 3) else if encS r.1 = l then (r.1, 0) else ([], 3)
end Go.Ck
