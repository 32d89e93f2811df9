/- What is proved here: parts of the proofs of this seat's statements (a verified evaluator for calls over pure values, its laws, and contracts of functions). No condition. -/
import Derived.Test.YtnbkoemhcpjceaaDoorKl
set_option linter.all false
set_option linter.unusedVariables false
namespace Go.Ck
/-- What differs, or why that is not told; the place behind it; the window behind it. -/
structure GN where
  x : Nat
  e : Int
  k : Nat
  a : Int
  z : Int
def gNy (bs : List Nat) (k : Nat) (a z : Int) : GN :=
  if (a = -1 ∧ z = 0) ∨ z < 0 then ⟨0, 3, k, a, z⟩
  else if k + (64 - a - z).toNat ≤ bs.length then ⟨getB bs k (64 - a - z).toNat * 2 ^ z.toNat % 2 ^ 64, 0, k + (64 - a - z).toNat, a, z⟩ else ⟨0, 2, k, a, z⟩
def gNx (bs : List Nat) (k : Nat) (a z : Int) : GN :=
  if bs.length < k + 1 then ⟨0, 2, k, a, z⟩
  else if getB bs k 1 = 0 then ⟨0, 0, k + 1, a, z⟩
  else if bs.length < k + 2 then ⟨0, 2, k + 1, a, z⟩
  else if getB bs (k + 1) 1 = 1 then
    if bs.length < k + 7 then ⟨0, 2, k + 2, a, z⟩
    else if bs.length < k + 13 then ⟨0, 2, k + 7, a, z⟩
    else gNy bs (k + 13) (getB bs (k + 2) 5 : Nat) (63 - (getB bs (k + 2) 5 : Nat) - (getB bs (k + 7) 6 : Nat))
  else gNy bs (k + 2) a z
/-- A window that may be. -/
def wOK (a z : Int) : Prop := (a = -1 ∧ z = 0) ∨ (0 ≤ a ∧ a ≤ 31 ∧ 0 ≤ z ∧ a + z ≤ 63)
theorem getB_lt {bs : List Nat} (hb : ∀ x ∈ bs, x < 2) (k n : Nat) : getB bs k n < 2 ^ n := by
  have := binN_lt ((bs.drop k).take n) (fun x hx => hb x (List.mem_of_mem_drop (List.mem_of_mem_take hx)))
  exact Nat.lt_of_lt_of_le this (Nat.pow_le_pow_right (by omega) (by simp; omega))
/-- A window as it is read, or the one that was. -/
def wRd (a z : Int) : Prop := (a = -1 ∧ z = 0) ∨ (0 ≤ a ∧ a ≤ 31 ∧ a + z ≤ 63 ∧ -63 ≤ z)
theorem wOK.rd {a z : Int} (h : wOK a z) : wRd a z := by unfold wOK at h; unfold wRd; omega
theorem gNy_ok {bs : List Nat} {k : Nat} {a z : Int} (hw : wRd a z) (hk : k ≤ bs.length) : (gNy bs k a z).k ≤ bs.length ∧ (gNy bs k a z).x < 2 ^ 64 ∧ ((gNy bs k a z).e = 0 → wOK (gNy bs k a z).a (gNy bs k a z).z) := by
  unfold gNy
  split
  · exact ⟨hk, by simp, fun h => by simp at h⟩
  · rename_i h
    split
    · rename_i h2
      exact ⟨h2, Nat.mod_lt _ (by omega), fun _ => by simp only; unfold wRd at hw; unfold wOK; omega⟩
    · exact ⟨hk, by simp, fun h => by simp at h⟩
theorem gNx_ok {bs : List Nat} {k : Nat} {a z : Int} (hb : ∀ x ∈ bs, x < 2) (hw : wOK a z) (hk : k ≤ bs.length) : (gNx bs k a z).k ≤ bs.length ∧ (gNx bs k a z).x < 2 ^ 64 ∧ ((gNx bs k a z).e = 0 → wOK (gNx bs k a z).a (gNx bs k a z).z) := by
  unfold gNx
  split
  · exact ⟨hk, by simp, fun h => by simp at h⟩
  split
  · exact ⟨by simp only; omega, by simp, fun _ => hw⟩
  split
  · exact ⟨by simp only; omega, by simp, fun h => by simp at h⟩
  split
  · split
    · exact ⟨by simp only; omega, by simp, fun h => by simp at h⟩
    split
    · exact ⟨by simp only; omega, by simp, fun h => by simp at h⟩
    · have h5 := getB_lt hb (k + 2) 5
      have h6 := getB_lt hb (k + 7) 6
      exact gNy_ok (by unfold wRd; omega) (by omega)
  · exact gNy_ok hw.rd (by omega)
/-- So many patterns: those so far, why there are no more, the place, the window. -/
structure GS where
  o : List Nat
  e : Int
  k : Nat
  a : Int
  z : Int
def gRs (bs : List Nat) (r : GS) : GS :=
  if r.e ≠ 0 then r
  else if r.o.length = 0 then (if r.k + 64 ≤ bs.length then ⟨[getB bs r.k 64], 0, r.k + 64, r.a, r.z⟩ else ⟨[], 2, r.k, r.a, r.z⟩)
  else ⟨if (gNx bs r.k r.a r.z).e = 0 then r.o ++ [(gNx bs r.k r.a r.z).x ^^^ r.o.getD (r.o.length - 1) 0] else r.o, (gNx bs r.k r.a r.z).e, (gNx bs r.k r.a r.z).k, (gNx bs r.k r.a r.z).a, (gNx bs r.k r.a r.z).z⟩
def gR (bs : List Nat) : Nat → GS
  | 0 => ⟨[], 0, 0, -1, 0⟩
  | n + 1 => gRs bs (gR bs n)
theorem gR_stop {bs : List Nat} {i n : Nat} (hi : i ≤ n) (h : (gR bs i).e ≠ 0) : gR bs n = gR bs i := by
  induction n with
  | zero => rw [show i = 0 by omega]
  | succ n ih =>
    by_cases h1 : i = n + 1
    · rw [h1]
    · rw [gR, ih (by omega), gRs, if_pos h]
structure gOK (bs : List Nat) (n : Nat) : Prop where
  len : (gR bs n).o.length = n
  k : (gR bs n).k ≤ bs.length
  w : wOK (gR bs n).a (gR bs n).z
  lt : ∀ x ∈ (gR bs n).o, x < 2 ^ 64
theorem getD_lt {l : List Nat} {b : Nat} (h : ∀ x ∈ l, x < b) (hb : 0 < b) (i : Nat) : l.getD i 0 < b := by
  rw [List.getD_eq_getElem?_getD]
  cases hg : l[i]? with
  | none => exact hb
  | some z => exact h z (List.mem_of_getElem? hg)
theorem gR_ok {bs : List Nat} (hb : ∀ x ∈ bs, x < 2) : ∀ n, (gR bs n).e = 0 → gOK bs n
  | 0, _ => ⟨rfl, Nat.zero_le _, .inl ⟨rfl, rfl⟩, by simp [gR]⟩
  | n + 1, h => by
    by_cases h0 : (gR bs n).e = 0
    · obtain ⟨h1, h2, h3, h4⟩ := gR_ok hb n h0
      have hg := gNx_ok hb h3 h2
      have hlast : (gR bs n).o.getD ((gR bs n).o.length - 1) 0 < 2 ^ 64 := getD_lt h4 (by omega) _
      have hdef : gR bs (n + 1) = gRs bs (gR bs n) := rfl
      constructor <;> rw [hdef] at h ⊢ <;> generalize gR bs n = r at * <;> unfold gRs at h ⊢ <;> rw [if_neg (by simpa using h0)] at h ⊢
      · split
        · rename_i hl
          rw [if_pos hl] at h
          split
          · simp; omega
          · rename_i h6; rw [if_neg h6] at h; simp at h
        · rename_i hl
          rw [if_neg hl] at h
          simp only at h
          simp only [if_pos h, List.length_append, List.length_singleton]
          omega
      · split
        · split
          · assumption
          · exact h2
        · exact hg.1
      · split
        · split <;> exact h3
        · rename_i hl
          rw [if_neg hl] at h
          exact hg.2.2 h
      · split
        · split
          · intro x hx
            simp at hx
            subst hx
            exact getB_lt hb _ _
          · simp
        · rename_i hl
          rw [if_neg hl] at h
          simp only at h
          intro x hx
          simp only [if_pos h, List.mem_append, List.mem_singleton] at hx
          rcases hx with hx | rfl
          · exact h4 x hx
          · exact Nat.xor_lt_two_pow hg.2.1 hlast
    · have : gR bs (n + 1) = gR bs n := gR_stop (by omega) h0
      rw [this] at h
      exact absurd h h0
def dec09 (l : List Nat) (n : Nat) : List Nat × Int :=
  if (gR (unb l) n).e ≠ 0 then ([], (gR (unb l) n).e) else if enc09 (gR (unb l) n).o = l then ((gR (unb l) n).o, 0) else ([], 3)
theorem enc09_byte (xs : List Nat) : ∀ x ∈ enc09 xs, x < 256 := pk_byte _ (gF_bit xs)
end Go.Ck

set_option linter.unusedVariables false
set_option maxRecDepth 10000
set_option maxHeartbeats 1000000
namespace Go.Ck
open Go.Proofs
abbrev gwO (l : List Nat) (k : Nat) (a z : Int) : List (Nat × HO) := [(1000, .cells 136 [.pv (.sl 1 (bytes l)), .pv (.int .i64 k)]), (1001, .cells 92 [.pv (.int .i64 a), .pv (.int .i64 z)])]
attribute [go_sem] gwO
theorem gnext_fn (l : List Nat) (k : Nat) (a z : Int) (hk : k ≤ 8 * l.length) (hl : 8 * l.length ≤ room) (hb : ∀ x ∈ l, x < 256) (hw : wOK a z) : Fn Tryd.prog 102 (gwO l k a z) [.ptr 1000 0, .ptr 1001 0]
    (fun rs H' => rs = [.pv (.int .u64 (gNx (unb l) k a z).x), .pv (.int .i64 (gNx (unb l) k a z).e)] ∧ H' = gwO l (gNx (unb l) k a z).k (gNx (unb l) k a z).a (gNx (unb l) k a z).z) := by
  refine Fn.of_body (fn := Tryd.f102) (n := 90) (res := [.tmp 4, .tmp 5]) (by kernel_rfl) rfl rfl rfl rfl rfl (fun C => ?_)
  have hr : room < 2 ^ 62 := by decide
  have hul := unb_len l
  have hub := unb_bit l
  refine AW.go ?_
  refine AW.callE id (rdGet_fn l k 1 (by omega) hk hl hb) (.ptr rfl (.pv _ .nil)) ?_
  by_cases h1 : 8 * l.length < k + 1
  · have hs : gNx (unb l) k a z = ⟨0, 2, k, a, z⟩ := by rw [gNx, if_pos (by omega)]
    simp only [if_neg (Nat.not_le.2 h1), hs]
    refine AW.gg ?_
    refine AW.condT rfl ?_
    refine AW.go ?_
    refine AW.finE (.pv _ (.pv _ .nil)) rfl
  have h1' : k + 1 ≤ 8 * l.length := by omega
  simp only [if_pos h1']
  by_cases h2 : getB (unb l) k 1 = 0
  · have hs : gNx (unb l) k a z = ⟨0, 0, k + 1, a, z⟩ := by rw [gNx, if_neg (by omega), if_pos h2]
    simp only [h2, hs]
    refine AW.gg ?_
    refine AW.condT rfl ?_
    refine AW.go ?_
    refine AW.finE (.pv _ (.pv _ .nil)) rfl
  have e2 : (((getB (unb l) k 1 : Nat) : Int) == 0) = false := by simpa using h2
  refine AW.gg ?_ (by simp only [go_sem, ↓reduceIte, e2] <;> rfl)
  refine AW.condF rfl ?_
  refine AW.go ?_
  refine AW.callE id (rdGet_fn l (k + 1) 1 (by omega) h1' hl hb) (.ptr rfl (.pv _ .nil)) ?_
  by_cases h3 : 8 * l.length < k + 2
  · have hs : gNx (unb l) k a z = ⟨0, 2, k + 1, a, z⟩ := by rw [gNx, if_neg (by omega), if_neg h2, if_pos (by omega)]
    simp only [if_neg (Nat.not_le.2 h3), hs]
    refine AW.go ?_
    refine AW.condT rfl ?_
    refine AW.go ?_
    refine AW.finE (.pv _ (.pv _ .nil)) rfl
  have h3' : k + 2 ≤ 8 * l.length := by omega
  simp only [if_pos h3']
  refine AW.go ?_
  refine AW.condF rfl ?_
  refine AW.go ?_
  refine AW.joinS (fun q : Nat × Int × Int => ⟨90, [(0, .ptr 1000 0), (1, .ptr 1001 0)], gwO l q.1 q.2.1 q.2.2⟩) (fun q => q.1 ≤ 8 * l.length ∧ wRd q.2.1 q.2.2 ∧ gNx (unb l) k a z = gNy (unb l) q.1 q.2.1 q.2.2) [0, 1] [1000, 1001] ?_ ?_
  · intro K hK
    refine AW.cond rfl (fun hc => ?_) (fun hc => ?_)
    · have h4 : getB (unb l) (k + 1) 1 = 1 := by simp at hc; omega
      refine AW.go ?_
      refine AW.callE id (rdGet_fn l (k + 2) 5 (by omega) h3' hl hb) (.ptr rfl (.pv _ .nil)) ?_
      by_cases h5 : 8 * l.length < k + 7
      · have hs : gNx (unb l) k a z = ⟨0, 2, k + 2, a, z⟩ := by rw [gNx, if_neg (by omega), if_neg h2, if_neg (by omega), if_pos h4, if_pos (by omega)]
        simp only [if_neg (show ¬ k + 2 + 5 ≤ 8 * l.length by omega), hs]
        refine AW.go ?_
        refine AW.condT rfl ?_
        refine AW.go ?_
        refine AW.finE (.pv _ (.pv _ .nil)) rfl
      have h5' : k + 2 + 5 ≤ 8 * l.length := by omega
      simp only [if_pos h5']
      refine AW.go ?_
      refine AW.condF rfl ?_
      refine AW.go ?_
      refine AW.callE id (rdGet_fn l (k + 7) 6 (by omega) h5' hl hb) (.ptr rfl (.pv _ .nil)) ?_
      by_cases h6 : 8 * l.length < k + 13
      · have hs : gNx (unb l) k a z = ⟨0, 2, k + 7, a, z⟩ := by rw [gNx, if_neg (by omega), if_neg h2, if_neg (by omega), if_pos h4, if_neg (by omega), if_pos (by omega)]
        simp only [if_neg (show ¬ k + 7 + 6 ≤ 8 * l.length by omega), hs]
        refine AW.go ?_
        refine AW.condT rfl ?_
        refine AW.go ?_
        refine AW.finE (.pv _ (.pv _ .nil)) rfl
      have h6' : k + 7 + 6 ≤ 8 * l.length := by omega
      simp only [if_pos h6']
      have hs : gNx (unb l) k a z = gNy (unb l) (k + 13) (getB (unb l) (k + 2) 5 : Nat) (63 - (getB (unb l) (k + 2) 5 : Nat) - (getB (unb l) (k + 7) 6 : Nat)) := by rw [gNx, if_neg (by omega), if_neg h2, if_neg (by omega), if_pos h4, if_neg (by omega), if_neg (by omega)]
      have b5 := getB_lt hub (k + 2) 5
      have b6 := getB_lt hub (k + 7) 6
      generalize getB (unb l) (k + 2) 5 = u at *
      generalize getB (unb l) (k + 7) 6 = v at *
      have w1 : IntKind.i64.wrap (u : Int) = u := wrap_i64_nat (by omega)
      have w2 : IntKind.i64.wrap (v : Int) = v := wrap_i64_nat (by omega)
      have w3 : IntKind.i64.wrap (IntKind.i64.wrap (63 - (u : Int)) - (v : Int)) = 63 - (u : Int) - (v : Int) := by rw [wrap_i64_of (n := 63 - (u : Int)) (by omega) (by omega), wrap_i64_of (by omega) (by omega)]
      refine AW.go ?_
      refine AW.condF rfl ?_
      refine AW.go ?_ (by simp only [go_sem, ↓reduceIte, w1, w2, w3] <;> rfl)
      exact AW.meet hK (k + 13, (u : Int), 63 - (u : Int) - (v : Int)) ⟨by simp only; omega, by unfold wRd; simp only; omega, hs⟩
    · have h4 : ¬ getB (unb l) (k + 1) 1 = 1 := by simp at hc; omega
      have hs : gNx (unb l) k a z = gNy (unb l) (k + 2) a z := by rw [gNx, if_neg (by omega), if_neg h2, if_neg (by omega), if_neg h4]
      refine AW.go ?_
      exact AW.meet hK (k + 2, a, z) ⟨h3', hw.rd, hs⟩
  clear hw hk h1 h1' h2 e2 h3 h3'
  rintro ⟨k', a', z'⟩ ⟨hk, hw, hs⟩
  simp only at hk hw hs
  rw [hs]
  clear hs
  refine AW.go ?_
  refine AW.any0 mixed ?_
  refine via (T := ?T1) (fun hT => ?_) ?_
  rotate_left
  · refine AW.branch (rs := [0, 3]) ?_ (by decide +kernel) (by simp)
    intro j hj
    simp only [List.mem_cons, List.not_mem_nil, or_false] at hj
    rcases hj with rfl | rfl
    · refine AW.go ?_
      refine AW.branch (fuel := 10) (rs := [1, 3]) ?_ (by decide +kernel) (by simp)
      intro j hj
      simp only [List.mem_cons, List.not_mem_nil, or_false] at hj
      rcases hj with rfl | rfl
      · refine AW.go ?_
        refine AW.branch (fuel := 9) (rs := [2, 3]) ?_ (by decide +kernel) (by simp)
        intro j hj
        simp only [List.mem_cons, List.not_mem_nil, or_false] at hj
        rcases hj with rfl | rfl
        · refine AW.go ?_
          refine AW.seqs (fuel := 8) (listed' := #[true, true, true, true, false, false, false, false, false, false, false, false]) [3] ?_ (by decide +kernel)
          refine AW.go ?_
          refine AW.callE (fun _ => 0) none_fn .nil ?_
          refine AW.go ?_
          refine AW.keepB [0, 1, 64, 65] [1000, 1001] (by simp only [go_sem, ↓reduceIte]) (by simp only [go_sem, ↓reduceIte] <;> rfl) ?_
          exact hT ()
        · refine AW.go ?_
          refine AW.callE (fun _ => 0) none_fn .nil ?_
          refine AW.seqs (fuel := 8) (listed' := #[true, true, true, true, false, false, false, false, false, false, false, false]) [2] ?_ (by decide +kernel)
          refine AW.go ?_
          refine AW.keepB [0, 1, 64, 65] [1000, 1001] (by simp only [go_sem, ↓reduceIte]) (by simp only [go_sem, ↓reduceIte] <;> rfl) ?_
          exact hT ()
      · refine AW.go ?_
        refine AW.callE (fun _ => 0) none_fn .nil ?_
        refine AW.seqs (fuel := 8) (listed' := #[true, true, true, true, false, false, false, false, false, false, false, false]) [1, 2] ?_ (by decide +kernel)
        refine AW.go ?_
        refine AW.keepB [0, 1, 64, 65] [1000, 1001] (by simp only [go_sem, ↓reduceIte]) (by simp only [go_sem, ↓reduceIte] <;> rfl) ?_
        exact hT ()
    · refine AW.go ?_
      refine AW.callE (fun _ => 0) none_fn .nil ?_
      refine AW.seqs (fuel := 8) (listed' := #[true, true, true, true, false, false, false, false, false, false, false, false]) [0, 1, 2] ?_ (by decide +kernel)
      refine AW.go ?_
      refine AW.keepB [0, 1, 64, 65] [1000, 1001] (by simp only [go_sem, ↓reduceIte]) (by simp only [go_sem, ↓reduceIte] <;> rfl) ?_
      exact hT ()
  refine AW.seqs (fuel := 7) (listed' := #[true, true, true, true, true, false, false, false, false, false, false, false]) [4] ?_ (by decide +kernel)
  refine AW.go ?_
  refine AW.eq2 (ho := rfl) eqWin rfl rfl ?_
  by_cases hn : a' = -1 ∧ z' = 0
  · have hs : gNy (unb l) k' a' z' = ⟨0, 3, k', a', z'⟩ := by rw [gNy, if_pos (.inl hn)]
    obtain ⟨rfl, rfl⟩ := hn
    rw [hs]
    refine AW.gg ?_
    refine AW.seqs (fuel := 0) (listed' := #[true, true, true, true, true, true, true, true, true, true, true, true]) [5, 6, 7, 8, 9, 10, 11] ?_ (by decide +kernel)
    refine AW.gg ?_
    refine AW.anyDone (by decide +kernel) ?_
    refine AW.condT rfl ?_
    refine AW.go ?_
    refine AW.finE (.pv _ (.pv _ .nil)) rfl
  have en : (a' == -1 && z' == 0) = false := by simp; intro h; exact fun h2 => hn ⟨h, h2⟩
  rw [en]
  by_cases hz : z' < 0
  · have hs : gNy (unb l) k' a' z' = ⟨0, 3, k', a', z'⟩ := by rw [gNy, if_pos (.inr hz)]
    rw [hs]
    have ez : decide (z' < 0) = true := decide_eq_true hz
    refine AW.gg ?_
    refine AW.seqs (fuel := 0) (listed' := #[true, true, true, true, true, true, true, true, true, true, true, true]) [5, 6, 7, 8, 9, 10, 11] ?_ (by decide +kernel)
    refine AW.gg ?_ (by simp only [go_sem, ↓reduceIte, ez] <;> rfl)
    refine AW.anyDone (by decide +kernel) ?_
    refine AW.condT rfl ?_
    refine AW.go ?_
    refine AW.finE (.pv _ (.pv _ .nil)) rfl
  have ez : decide (z' < 0) = false := decide_eq_false hz
  refine AW.gg ?_
  refine AW.seqs (fuel := 0) (listed' := #[true, true, true, true, true, true, true, true, true, true, true, true]) [5, 6, 7, 8, 9, 10, 11] ?_ (by decide +kernel)
  refine AW.gg ?_ (by simp only [go_sem, ↓reduceIte, ez] <;> rfl)
  refine AW.anyDone (by decide +kernel) ?_
  refine AW.condF rfl ?_
  have hnz : ¬ ((a' = -1 ∧ z' = 0) ∨ z' < 0) := fun h => h.elim hn hz
  have hs : gNy (unb l) k' a' z' = if k' + (64 - a' - z').toNat ≤ 8 * l.length then ⟨getB (unb l) k' (64 - a' - z').toNat * 2 ^ z'.toNat % 2 ^ 64, 0, k' + (64 - a' - z').toNat, a', z'⟩ else ⟨0, 2, k', a', z'⟩ := by rw [gNy, if_neg hnz, hul]
  rw [hs]
  clear hs en ez
  unfold wRd at hw
  obtain ⟨u, rfl⟩ : ∃ u : Nat, a' = u := ⟨a'.toNat, by omega⟩
  obtain ⟨t, rfl⟩ : ∃ t : Nat, z' = t := ⟨z'.toNat, by omega⟩
  have eR : (64 - (u : Int) - (t : Int)).toNat = 64 - u - t := by omega
  rw [eR, Int.toNat_natCast]
  refine AW.go ?_
  refine AW.callE (fun _ => 0) (rest_fn u t (by omega)) (.pv _ .nil) ?_
  refine AW.go ?_
  refine AW.callE id (rdGet_fn l k' (64 - u - t) (by omega) hk hl hb) (.ptr rfl (.pv _ .nil)) ?_
  by_cases h7 : k' + (64 - u - t) ≤ 8 * l.length
  · simp only [if_pos h7]
    generalize getB (unb l) k' (64 - u - t) = y at *
    have e7 := shlI_nat64 y t (by omega)
    refine AW.go ?_ (by simp only [go_sem, ↓reduceIte, e7] <;> rfl)
    refine AW.finE (.pv _ (.pv _ .nil)) rfl
  · simp only [if_neg h7]
    have e7 : shlI .u64 ((0 : Nat) : Int) (t : Int) = ((0 : Nat) : Int) := by have := shlI_nat64 0 t (by omega); simpa using this
    refine AW.go ?_ (by simp only [go_sem, ↓reduceIte, e7] <;> rfl)
    refine AW.finE (.pv _ (.pv _ .nil)) rfl

theorem gorDec_fn (l : List Nat) (n : Nat) (hn : n ≤ 65536) (hl : l.length ≤ 2 ^ 40) (hb : ∀ x ∈ l, x < 256) : Fn Tryd.prog 77 [] [.pv (.sl 1 (bytes l)), .pv (.int .i64 n)]
    (fun rs H' => rs = [.own 38 (u64s (dec09 l n).1), .pv (.int .i64 (dec09 l n).2)] ∧ H' = []) := by
  refine Fn.of_body (fn := Tryd.f77) (n := 64) (res := [.tmp 4, .tmp 5]) (by kernel_rfl) rfl rfl rfl rfl rfl (fun C => ?_)
  have hr : room = 140737488355328 := rfl
  have hub := unb_bit l
  have hul := unb_len l
  refine AW.gg ?_
  refine AW.condF (by simp only [go_sem, ↓reduceIte]; congr 3; simp; omega) ?_
  refine AW.go ?_
  refine AW.callE (fun o => if o = 6 then 21 else 0) (rdNew_fn l (by omega)) (.pv _ .nil) ?_
  refine AW.go ?_
  refine AW.callE (fun _ => 0) none_fn .nil ?_
  refine AW.go ?_
  unfold dec09
  generalize hbs : unb l = bs at *
  refine AW.loopS (fun i : Nat => ⟨64, [(24, .pv (.int .i64 i)), (23, .pv (.int .i64 n)), (8, .own 38 (u64s (gR bs i).o)), (7, .ptr 7 0), (6, .ptr 21 0), (0, .pv (.sl 1 (bytes l)))], [(21, .cells 136 [.pv (.sl 1 (bytes l)), .pv (.int .i64 (gR bs i).k)]), (7, .cells 92 [.pv (.int .i64 (gR bs i).a), .pv (.int .i64 (gR bs i).z)])]⟩) (fun i => i ≤ n ∧ (gR bs i).e = 0) (fun i => n - i) [24, 23, 8, 7, 6, 0] [21, 7] 0 ⟨Nat.zero_le _, rfl⟩ ?_
  rintro i ⟨hi, he⟩ K hK
  obtain ⟨o1, o2, o3, o4⟩ := gR_ok hub i he
  refine AW.go ?_
  refine AW.cond rfl (fun hc => ?_) (fun hc => ?_)
  · have hlt : i < n := by simpa using hc
    have hsu : gR bs (i + 1) = gRs bs (gR bs i) := rfl
    have hstop := @gR_stop bs (i + 1) n hlt
    generalize hrr : gR bs (i + 1) = r' at hsu hstop
    generalize gR bs i = r at *
    obtain ⟨o, e, k, a, z⟩ := r
    simp only at he o1 o2 o3 o4 hsu ⊢
    subst he
    have h1 : (i + 1) * 8 ≤ room := by omega
    have h2 : i + 1 ≤ room := by omega
    have ei : IntKind.i64.wrap ((i : Int) + 1) = ((i + 1 : Nat) : Int) := wrap_i64_succ (by omega)
    by_cases h0 : i = 0
    · subst h0
      unfold gRs at hsu
      rw [if_neg (by simp), if_pos (by simpa using o1)] at hsu
      simp only at hsu
      have ho : o = [] := List.length_eq_zero_iff.1 o1
      subst ho
      refine AW.go ?_
      refine AW.condT rfl ?_
      refine AW.go ?_
      refine AW.callE (fun _ => 21) (rdGet_fn l k 64 (by omega) (by omega) (by omega) hb) (.ptr rfl (.pv _ .nil)) ?_
      rw [hbs]
      by_cases h64 : k + 64 ≤ 8 * l.length
      · rw [if_pos (by omega)] at hsu
        simp only [if_pos h64]
        refine AW.go ?_
        refine AW.condF rfl ?_
        refine AW.go ?_ (by simp only [go_sem, ↓reduceIte, u64s_one, ei] <;> rfl)
        rw [hsu] at hrr
        refine AW.again hK 1 ⟨hlt, by rw [show gR bs 1 = _ from hrr]⟩ (by omega) (by simp only [go_sem, ↓reduceIte]) (by simp only [go_sem, ↓reduceIte, show gR bs 1 = _ from hrr] <;> rfl)
      · rw [if_neg (by omega)] at hsu
        have hst := hstop (by rw [hsu]; simp)
        rw [hsu] at hst
        simp only [if_neg h64, hst]
        refine AW.go ?_
        refine AW.condT rfl ?_
        refine AW.go ?_
        refine AW.finE (.move rfl (.pv _ .nil)) rfl
    · unfold gRs at hsu
      rw [if_neg (by simp), if_neg (by simp only; omega)] at hsu
      simp only at hsu
      have c0 : ((i : Int) == 0) = false := by simpa using h0
      have ei1 : IntKind.i64.wrap ((i : Int) - 1) = ((i - 1 : Nat) : Int) := by rw [wrap_i64_of (by omega) (by omega)]; omega
      have hlo : i - 1 < o.length := by omega
      have hget : (u64s o)[i - 1]? = some (.int .u64 (o.getD (o.length - 1) 0 : Nat)) := by rw [u64s_get hlo, getD_get hlo, o1]
      have hy := getD_lt o4 (by omega) (o.length - 1)
      have hgn := gNx_ok hub o3 (a := a) (z := z) (k := k) (by omega)
      have hnx := gnext_fn l k a z (by omega) (by omega) hb o3
      rw [hbs] at hnx
      refine AW.go ?_ (by simp only [go_sem, ↓reduceIte, c0] <;> rfl)
      refine AW.condF rfl ?_
      refine AW.go ?_
      refine AW.callE (fun o => if o = 1000 then 21 else if o = 1001 then 7 else 0) hnx (.ptr rfl (.ptr rfl .nil)) ?_
      generalize gNx bs k a z = q at *
      obtain ⟨x, e, k2, a2, z2⟩ := q
      simp only at hgn hsu ⊢
      generalize o.getD (o.length - 1) 0 = y at *
      have hxy := ibits_xor64 hgn.2.1 hy
      refine AW.go ?_ (by simp only [go_sem, ↓reduceIte, ei1, hlo, hget, hxy] <;> rfl)
      refine AW.cond rfl (fun hc2 => ?_) (fun hc2 => ?_)
      · have hne : e ≠ 0 := by simpa using hc2
        have hst := hstop (by rw [hsu]; exact hne)
        rw [hsu] at hst
        simp only [hst, if_pos hne]
        refine AW.go ?_
        refine AW.finE (.move rfl (.pv _ .nil)) rfl
      · have hne : e = 0 := by simpa using hc2
        subst hne
        rw [if_pos rfl] at hsu
        refine AW.go ?_ (by simp only [go_sem, ↓reduceIte, o1, h1, h2, u64s_one, ei] <;> rfl)
        rw [hsu] at hrr
        refine AW.again hK (i + 1) ⟨hlt, by rw [hrr]⟩ (by omega) (by simp only [go_sem, ↓reduceIte]) (by simp only [go_sem, ↓reduceIte, hrr] <;> rfl)
  have hge : i = n := by simp at hc; omega
  subst hge
  simp only [if_neg (show ¬ (gR bs i).e ≠ 0 from fun h => h he)]
  generalize (gR bs i).o = o at *
  have hle : o.length ≤ 65536 := by omega
  refine AW.go ?_
  refine AW.callE (fun _ => 0) (gorEnc_fn o o4) (.lend rfl co_38 .nil) ?_
  simp only [if_pos hle]
  refine AW.go ?_
  refine AW.callE (fun _ => 0) (bytesEqual_fn (enc09 o) l (enc09_byte _) hb) (.lend rfl co_5 (.pv _ .nil)) ?_
  refine AW.go ?_
  refine AW.cond rfl (fun hc2 => ?_) (fun hc2 => ?_)
  · have hne : ¬ enc09 o = l := by simpa using hc2
    simp only [if_neg hne]
    refine AW.go ?_
    refine AW.finE (.move rfl (.pv _ .nil)) rfl
  · have hne : enc09 o = l := by simpa using hc2
    simp only [if_pos hne]
    refine AW.go ?_
    refine AW.finE (.move rfl (.pv _ .nil)) rfl
end Go.Ck

set_option linter.unusedVariables false
namespace Go.Ck
def zr (a z : Int) : Int := if a = -1 then -1 else z
/-- The reference's reading, between two rounds. -/
structure RQ where
  i : Nat
  o : List Nat
  rest : List Nat
  bad : Int
  a : Int
  z : Int
def RQ.ok (bs : List Nat) (n : Nat) (q : RQ) : Prop := q.i ≤ n ∧ q.o.length = q.i ∧ (∀ x ∈ q.o, x < 2 ^ 64) ∧ (gR bs q.i).e = q.bad ∧
  (q.bad = 0 → q.o = (gR bs q.i).o ∧ q.rest = bs.drop (gR bs q.i).k ∧ q.a = (gR bs q.i).a ∧ q.z = zr (gR bs q.i).a (gR bs q.i).z)
/-- n patterns out of bytes, some way. -/
def rd11 (l : List Nat) (n t : Nat) : List Nat × Int :=
  if t = 2 then dec10 l n else if t = 3 then dec09 l n
  else if l.length < 8 * (if t = 1 then 1 else n) then ([], 2) else if l.length ≠ 8 * (if t = 1 then 1 else n) then ([], 3)
  else (if t = 1 then List.replicate n (beN (l.take 8)) else dic l n, 0)
def dec11 (l : List Nat) (n : Int) : List Nat × Int :=
  if n < 0 ∨ 65536 < n then ([], 1) else if l = [] then ([], 2) else if 4 ≤ l.headD 0 then ([], 3)
  else if (rd11 l.tail n.toNat (l.headD 0)).2 ≠ 0 then ([], (rd11 l.tail n.toNat (l.headD 0)).2)
  else if (encV (rd11 l.tail n.toNat (l.headD 0)).1).1 = l then ((rd11 l.tail n.toNat (l.headD 0)).1, 0) else ([], 3)
/-- What fixed reads: the patterns, why not, what is left. -/
def fx (l : List Nat) (n : Nat) : List Nat × Int × List Nat :=
  if 8 * n ≤ l.length then (dic l n, if l.drop (8 * n) = [] then 0 else 3, l.drop (8 * n)) else ([], 2, l.drop (8 * (l.length / 8)))
def vR (l : List Nat) (n t : Nat) : List Nat × Int × List Nat :=
  if t = 0 then fx l n
  else if t = 1 then (if (fx l 1).2.1 ≠ 0 then ([], (fx l 1).2.1, (fx l 1).2.2) else (List.replicate n (beN (l.take 8)), 0, (fx l 1).2.2))
  else if t = 2 then ((dec10 l n).1, (dec10 l n).2, []) else ((dec09 l n).1, (dec09 l n).2, [])
theorem fx_err (l : List Nat) (n : Nat) : (fx l n).2.1 = if l.length < 8 * n then 2 else if l.length ≠ 8 * n then 3 else 0 := by
  unfold fx
  by_cases h : 8 * n ≤ l.length
  · rw [if_pos h]
    have h1 : ¬ l.length < 8 * n := by omega
    by_cases h2 : l.length ≤ 8 * n
    · have h3 : ¬ l.length ≠ 8 * n := by omega
      simp only [List.drop_eq_nil_iff, if_pos h2, if_neg h1, if_neg h3]
    · have h3 : l.length ≠ 8 * n := by omega
      simp only [List.drop_eq_nil_iff, if_neg h2, if_neg h1, if_pos h3]
  · rw [if_neg h, if_pos (by omega)]
theorem vR_rd {l : List Nat} {n t : Nat} (ht : t < 4) : (vR l n t).2.1 = (rd11 l n t).2 ∧ ((rd11 l n t).2 = 0 → (vR l n t).1 = (rd11 l n t).1) := by
  have hc : t = 0 ∨ t = 1 ∨ t = 2 ∨ t = 3 := by omega
  rcases hc with rfl | rfl | rfl | rfl
  · have e := fx_err l n
    simp only [vR, rd11, if_true, Nat.reduceEqDiff, if_false] at *
    constructor
    · rw [e]; split
      · rfl
      · split <;> rfl
    · split
      · intro h; simp at h
      · split
        · intro h; simp at h
        · intro _; unfold fx; rw [if_pos (by omega)]
  · have e := fx_err l 1
    simp only [vR, rd11, if_true, Nat.reduceEqDiff, if_false, Nat.one_ne_zero] at *
    rw [e]
    split
    · simp
    · split <;> simp
  · simp [vR, rd11]
  · simp [vR, rd11]
theorem dec10_lt {l : List Nat} (hb : ∀ x ∈ l, x < 256) (n : Nat) : ∀ x ∈ (dec10 l n).1, x < 2 ^ 64 := by
  unfold dec10 dec10b
  split
  · simp
  split
  · simp
  split
  · simp
  split
  · simp
  split
  · simp
  split
  · exact pats_lt _ _ _ (fun x hx => hb x (List.mem_of_mem_drop hx))
  · simp
theorem dec09_lt (l : List Nat) (n : Nat) : ∀ x ∈ (dec09 l n).1, x < 2 ^ 64 := by
  unfold dec09
  split
  · simp
  · rename_i h
    split
    · exact (gR_ok (unb_bit l) n (by simpa using h)).lt
    · simp
theorem rd11_lt {l : List Nat} (hb : ∀ x ∈ l, x < 256) (n t : Nat) : ∀ x ∈ (rd11 l n t).1, x < 2 ^ 64 := by
  unfold rd11
  by_cases h2 : t = 2
  · rw [if_pos h2]; exact dec10_lt hb n
  rw [if_neg h2]
  by_cases h3 : t = 3
  · rw [if_pos h3]; exact dec09_lt l n
  rw [if_neg h3]
  generalize 8 * (if t = 1 then 1 else n) = m
  by_cases h4 : l.length < m
  · rw [if_pos h4]; intro x hx; cases hx
  rw [if_neg h4]
  by_cases h5 : l.length ≠ m
  · rw [if_pos h5]; intro x hx; cases hx
  rw [if_neg h5]
  by_cases h1 : t = 1
  · rw [if_pos h1]
    intro x hx
    rw [List.eq_of_mem_replicate hx]
    exact be8_lt l hb
  · rw [if_neg h1]
    exact dic_lt l n hb
theorem encP_byte (xs : List Nat) : ∀ x ∈ encP xs, x < 256 := by
  intro x hx
  simp only [encP, List.mem_flatMap] at hx
  obtain ⟨y, _, hx⟩ := hx
  exact beB_byte _ _ x hx
theorem wayS_byte (xs : List Nat) (w : Int) : ∀ x ∈ (wayS xs w).1, x < 256 := by
  unfold wayS
  split
  · simp
  split
  · simp
  split
  · exact enc10_byte xs
  split
  · exact enc09_byte xs
  split
  · exact encP_byte xs
  split
  · simp
  · exact encP_byte _
theorem bestB_byte (xs : List Nat) (n : Nat) : ∀ x ∈ (bestB xs n).2, x < 256 := by
  induction n with
  | zero => rw [bestB_zero]; exact encP_byte xs
  | succ n ih =>
    rw [bestB_succ, stepB]
    split
    · exact wayS_byte xs _
    · exact ih
theorem encV_byte (xs : List Nat) : ∀ x ∈ (encV xs).1, x < 256 := by
  unfold encV
  split
  · simp
  · intro x hx
    rcases List.mem_cons.1 hx with rfl | hx
    · have := bestB_tag xs 3; omega
    · exact bestB_byte xs 3 x hx
theorem dec11_arg {l : List Nat} {n : Int} (h : n < 0 ∨ 65536 < n) : dec11 l n = ([], 1) := by rw [dec11, if_pos h]
theorem dec11_nil {n : Int} (h : ¬ (n < 0 ∨ 65536 < n)) : dec11 [] n = ([], 2) := by rw [dec11, if_neg h]; rfl
theorem dec11_cons (t : Nat) (r : List Nat) {n : Nat} (h : ¬ ((n : Int) < 0 ∨ 65536 < (n : Int))) : dec11 (t :: r) n = if 4 ≤ t then ([], 3) else if (rd11 r n t).2 ≠ 0 then ([], (rd11 r n t).2)
    else if (encV (rd11 r n t).1).1 = t :: r then ((rd11 r n t).1, 0) else ([], 3) := by
  rw [dec11, if_neg h, if_neg (by simp)]; rfl
theorem encV_len (xs : List Nat) : (encV xs).1.length ≤ 8 * xs.length + 1 := by
  unfold encV
  split
  · simp
  · have := bestB_le xs 3; simp only [List.length_cons]; omega
end Go.Ck

set_option linter.unusedVariables false
set_option maxRecDepth 10000
set_option maxHeartbeats 1000000
namespace Go.Ck
open Go.Proofs
abbrev rrO (bs : List Nat) (e : Int) : List (Nat × HO) := [(1000, .cells 130 [.pv (.sl 1 (nis bs)), .pv (.int .i64 e)])]
attribute [go_sem] rrO
end Go.Ck

set_option linter.unusedVariables false
set_option maxRecDepth 10000
set_option maxHeartbeats 1000000
namespace Go.Ck
open Go.Proofs
theorem dic_one (l : List Nat) : dic l 1 = [beN (l.take 8)] := rfl
theorem vread_fn (l : List Nat) (n t : Nat) (ht : t < 4) (hn : n ≤ 65536) (hl : l.length ≤ 2 ^ 40) (hb : ∀ x ∈ l, x < 256) : Fn Tryd.prog 38 (curO l) [.ptr 1000 0, .pv (.int .i64 n), .pv (.int .i64 t)]
    (fun rs H' => rs = [.own 38 (u64s (vR l n t).1), .pv (.int .i64 (vR l n t).2.1)] ∧ H' = curO (vR l n t).2.2) := by
  refine Fn.of_body (fn := Tryd.f38) (n := 61) (res := [.tmp 6, .tmp 7]) (by kernel_rfl) rfl rfl rfl rfl rfl (fun C => ?_)
  have hr : room = 140737488355328 := rfl
  have hfx : ∀ m : Nat, m ≤ 65536 → Fn Tryd.prog 74 (curO l) [.ptr 1000 0, .pv (.int .i64 m)] (fun rs H' => rs = [.own 38 (u64s (fx l m).1), .pv (.int .i64 (fx l m).2.1)] ∧ H' = curO (fx l m).2.2) := by
    intro m hm
    refine (fixed_fn l m hm hl hb).mono (fun rs H' h => ?_)
    unfold fx
    by_cases h8 : 8 * m ≤ l.length
    · simp only [if_pos h8] at h ⊢; exact h
    · simp only [if_neg h8] at h ⊢; exact h
  have hc : t = 0 ∨ t = 1 ∨ t = 2 ∨ t = 3 := by omega
  rcases hc with rfl | rfl | rfl | rfl
  · have hs : vR l n 0 = fx l n := by simp [vR]
    rw [hs]
    refine AW.go ?_
    refine AW.condT rfl ?_
    refine AW.go ?_
    refine AW.callE id (hfx n hn) (.ptr rfl (.pv _ .nil)) ?_
    refine AW.go ?_
    refine AW.finE (.move rfl (.pv _ .nil)) rfl
  · have hs : vR l n 1 = if (fx l 1).2.1 ≠ 0 then ([], (fx l 1).2.1, (fx l 1).2.2) else (List.replicate n (beN (l.take 8)), 0, (fx l 1).2.2) := by simp [vR]
    rw [hs]
    refine AW.go ?_
    refine AW.condF rfl ?_
    refine AW.go ?_
    refine AW.condT rfl ?_
    refine AW.go ?_
    refine AW.callE id (hfx 1 (by omega)) (.ptr rfl (.pv _ .nil)) ?_
    refine AW.go ?_
    refine AW.cond rfl (fun hc => ?_) (fun hc => ?_)
    · have he : (fx l 1).2.1 ≠ 0 := by simpa using hc
      simp only [if_pos he]
      refine AW.go ?_
      refine AW.finE (.move rfl (.pv _ .nil)) rfl
    have he : ¬ (fx l 1).2.1 ≠ 0 := by simpa using hc
    have h1 : (fx l 1).1 = [beN (l.take 8)] := by
      have := fx_err l 1
      unfold fx at he ⊢
      split
      · exact dic_one l
      · rename_i h; rw [if_neg h] at he; simp at he
    simp only [if_neg he, h1]
    generalize beN (l.take 8) = v at *
    refine AW.go ?_
    refine AW.loopS (fun i : Nat => ⟨61, [(32, .pv (.int .i64 i)), (31, .pv (.int .i64 n)), (10, .own 38 (u64s (List.replicate i v))), (8, .own 38 (u64s [v])), (0, .ptr 1000 0)], curO (fx l 1).2.2⟩) (fun i => i ≤ n) (fun i => n - i) [32, 31, 10, 8, 0] [1000] 0 (Nat.zero_le _) ?_
    rintro i hi K hK
    refine AW.go ?_
    refine AW.cond rfl (fun hc => ?_) (fun hc => ?_)
    · have hlt : i < n := by simpa using hc
      have k1 : (i + 1) * 8 ≤ room := by omega
      have k2 : i + 1 ≤ room := by omega
      have ei : IntKind.i64.wrap ((i : Int) + 1) = ((i + 1 : Nat) : Int) := wrap_i64_succ (by omega)
      have er : List.replicate i v ++ [v] = List.replicate (i + 1) v := List.replicate_append_replicate (n := i) (m := 1)
      refine AW.go ?_ (by simp only [go_sem, ↓reduceIte, List.length_replicate, List.length_singleton, u64s_one, k1, k2, ei, er] <;> rfl)
      refine AW.again hK (i + 1) hlt (by omega)
    · have hge : i = n := by simp at hc; omega
      subst hge
      refine AW.go ?_
      refine AW.finE (.move rfl (.pv _ .nil)) rfl
  · have hs : vR l n 2 = ((dec10 l n).1, (dec10 l n).2, []) := by simp [vR]
    rw [hs]
    refine AW.go ?_
    refine AW.condF rfl ?_
    refine AW.go ?_
    refine AW.condF rfl ?_
    refine AW.go ?_
    refine AW.callE id (curLeft_fn l) (.ptr rfl .nil) ?_
    refine AW.go ?_
    refine AW.callE id (curBytes_fn l l.length (by omega)) (.ptr rfl (.pv _ .nil)) ?_
    simp only [if_pos (Nat.le_refl _), List.take_length, List.drop_length]
    refine AW.go ?_
    refine AW.condT rfl ?_
    refine AW.go ?_
    refine AW.callE (fun _ => 0) (dictDec_fn l n hn hl hb) (.lend rfl co_5 (.pv _ .nil)) ?_
    refine AW.go ?_
    refine AW.finE (.move rfl (.pv _ .nil)) rfl
  · have hs : vR l n 3 = ((dec09 l n).1, (dec09 l n).2, []) := by simp [vR]
    rw [hs]
    refine AW.go ?_
    refine AW.condF rfl ?_
    refine AW.go ?_
    refine AW.condF rfl ?_
    refine AW.go ?_
    refine AW.callE id (curLeft_fn l) (.ptr rfl .nil) ?_
    refine AW.go ?_
    refine AW.callE id (curBytes_fn l l.length (by omega)) (.ptr rfl (.pv _ .nil)) ?_
    simp only [if_pos (Nat.le_refl _), List.take_length, List.drop_length]
    refine AW.go ?_
    refine AW.condF rfl ?_
    refine AW.go ?_
    refine AW.callE (fun _ => 0) (gorDec_fn l n hn hl hb) (.lend rfl co_5 (.pv _ .nil)) ?_
    refine AW.go ?_
    refine AW.finE (.move rfl (.pv _ .nil)) rfl

theorem vdec_fn (l : List Nat) (n : Int) (hl : l.length ≤ 2 ^ 40) (hb : ∀ x ∈ l, x < 256) : Fn Tryd.prog 20 [] [.pv (.sl 1 (bytes l)), .pv (.int .i64 n)]
    (fun rs H' => rs = [.own 38 (u64s (dec11 l n).1), .pv (.int .i64 (dec11 l n).2)] ∧ H' = []) := by
  refine Fn.of_body (fn := Tryd.f20) (n := 53) (res := [.tmp 4, .tmp 5]) (by kernel_rfl) rfl rfl rfl rfl rfl (fun C => ?_)
  have hr : room = 140737488355328 := rfl
  by_cases hn : n < 0 ∨ 65536 < n
  · rw [dec11_arg hn]
    by_cases h0 : n < 0
    · have d1 : decide (n < 0) = true := decide_eq_true h0
      refine AW.gg ?_ (by simp only [go_sem, ↓reduceIte, d1] <;> rfl)
      refine AW.condT rfl ?_
      refine AW.go ?_
      refine AW.finE (.move rfl (.pv _ .nil)) rfl
    · have d1 : decide (n < 0) = false := decide_eq_false h0
      have d2 : decide (n > 65536) = true := decide_eq_true (by omega)
      refine AW.gg ?_ (by simp only [go_sem, ↓reduceIte, d1, d2] <;> rfl)
      refine AW.condT rfl ?_
      refine AW.go ?_
      refine AW.finE (.move rfl (.pv _ .nil)) rfl
  have d1 : decide (n < 0) = false := decide_eq_false (by omega)
  have d2 : decide (n > 65536) = false := decide_eq_false (by omega)
  refine AW.gg ?_ (by simp only [go_sem, ↓reduceIte, d1, d2] <;> rfl)
  refine AW.condF rfl ?_
  obtain ⟨n, rfl⟩ : ∃ m : Nat, n = m := ⟨n.toNat, by omega⟩
  refine AW.go ?_
  refine AW.callE (fun o => if o = 7 then 19 else 0) (curNew_fn l (by omega)) (.pv _ .nil) ?_
  refine AW.go ?_
  refine AW.callE (fun _ => 19) (curByte_fn l (by omega)) (.ptr rfl .nil) ?_
  by_cases hnil : l = []
  · subst hnil
    rw [dec11_nil hn]
    simp only [if_true]
    refine AW.go ?_
    refine AW.condT rfl ?_
    refine AW.go ?_
    refine AW.finE (.move rfl (.pv _ .nil)) rfl
  simp only [if_neg hnil]
  obtain ⟨t, r, rfl⟩ : ∃ t r, l = t :: r := by cases l with | nil => exact absurd rfl hnil | cons t r => exact ⟨t, r, rfl⟩
  rw [dec11_cons t r hn]
  simp only [List.headD_cons, List.tail_cons]
  have ht : t < 256 := hb t (by simp)
  have hbr : ∀ x ∈ r, x < 256 := fun x hx => hb x (by simp [hx])
  refine AW.go ?_
  refine AW.condF rfl ?_
  refine AW.go ?_
  refine AW.cond rfl (fun hc => ?_) (fun hc => ?_)
  · have h4 : 4 ≤ t := by simp at hc; omega
    simp only [if_pos h4]
    refine AW.go ?_
    refine AW.finE (.move rfl (.pv _ .nil)) rfl
  have h4 : ¬ 4 ≤ t := by simp at hc; omega
  simp only [if_neg h4]
  have et : IntKind.i64.wrap (t : Int) = t := wrap_i64_nat (by omega)
  have hlr : r.length ≤ 2 ^ 40 := by simp at hl; omega
  refine AW.go ?_ (by simp only [go_sem, ↓reduceIte, et] <;> rfl)
  refine AW.callE (fun _ => 19) (vread_fn r n t (by omega) (by omega) hlr hbr) (.ptr rfl (.pv _ (.pv _ .nil))) ?_
  obtain ⟨he, hx⟩ := @vR_rd r n t (by omega)
  have hlt := rd11_lt hbr n t
  generalize vR r n t = v at *
  generalize rd11 r n t = q at *
  obtain ⟨xs, e, rest⟩ := v
  obtain ⟨ys, e'⟩ := q
  simp only at he hx hlt ⊢
  subst he
  refine AW.go ?_
  refine AW.cond rfl (fun hc2 => ?_) (fun hc2 => ?_)
  · have hne : e ≠ 0 := by simpa using hc2
    simp only [if_pos hne]
    refine AW.go ?_
    refine AW.finE (.move rfl (.pv _ .nil)) rfl
  have hne : ¬ e ≠ 0 := by simpa using hc2
  simp only [if_neg hne]
  have hxy := hx (by simpa using hne)
  subst hxy
  refine AW.go ?_
  refine AW.callE (fun _ => 0) (encV_fn xs hlt) (.lend rfl co_38 .nil) ?_
  refine AW.go ?_
  refine AW.callE (fun _ => 0) (bytesEqual_fn (encV xs).1 (t :: r) (encV_byte _) hb) (.lend rfl co_5 (.pv _ .nil)) ?_
  refine AW.go ?_
  refine AW.cond rfl (fun hc2 => ?_) (fun hc2 => ?_)
  · have hne : ¬ (encV xs).1 = t :: r := by simpa using hc2
    simp only [if_neg hne]
    refine AW.go ?_
    refine AW.finE (.move rfl (.pv _ .nil)) rfl
  · have hne : (encV xs).1 = t :: r := by simpa using hc2
    simp only [if_pos hne]
    refine AW.go ?_
    refine AW.finE (.move rfl (.pv _ .nil)) rfl
end Go.Ck

set_option linter.unusedVariables false
namespace Go.Ck
/-- As many as asked for. -/
theorem dec10_n (l : List Nat) (n : Nat) (h : (dec10 l n).2 = 0) : (dec10 l n).1.length = n := by
  unfold dec10 dec10b at *
  split at h <;> rename_i h1
  · exact absurd h h1
  rw [if_neg h1]
  split at h <;> rename_i h2
  · cases h
  rw [if_neg h2]
  split at h <;> rename_i h3
  · cases h
  rw [if_neg h3]
  split at h <;> rename_i h4
  · cases h
  rw [if_neg h4]
  split at h <;> rename_i h5
  · cases h
  rw [if_neg h5]
  split at h <;> rename_i h6
  · rw [if_pos h6]; exact pats_len _ _ _
  · cases h
theorem dec09_n (l : List Nat) (n : Nat) (h : (dec09 l n).2 = 0) : (dec09 l n).1.length = n := by
  unfold dec09 at *
  split at h <;> rename_i h1
  · exact absurd h h1
  rw [if_neg h1]
  split at h <;> rename_i h2
  · rw [if_pos h2]; exact (gR_ok (unb_bit l) n (by simpa using h1)).len
  · cases h
theorem rd11_n (l : List Nat) (n t : Nat) (h : (rd11 l n t).2 = 0) : (rd11 l n t).1.length = n := by
  unfold rd11 at *
  by_cases h2 : t = 2
  · rw [if_pos h2] at h ⊢; exact dec10_n l n h
  rw [if_neg h2] at h ⊢
  by_cases h3 : t = 3
  · rw [if_pos h3] at h ⊢; exact dec09_n l n h
  rw [if_neg h3] at h ⊢
  generalize 8 * (if t = 1 then 1 else n) = m at *
  by_cases h4 : l.length < m
  · rw [if_pos h4] at h; cases h
  rw [if_neg h4] at h ⊢
  by_cases h5 : l.length ≠ m
  · rw [if_pos h5] at h; cases h
  rw [if_neg h5]
  by_cases h1 : t = 1
  · simp [h1]
  · simp [h1, dic_len]
/-- What a decoding that went well tells. -/
theorem dec11_ok {l : List Nat} {n : Int} (h : (dec11 l n).2 = 0) : 0 ≤ n ∧ n ≤ 65536 ∧ ∃ t r, l = t :: r ∧ t < 4 ∧ (rd11 r n.toNat t).2 = 0 ∧ (dec11 l n).1 = (rd11 r n.toNat t).1 ∧ (encV (dec11 l n).1).1 = l := by
  by_cases hn : n < 0 ∨ 65536 < n
  · rw [dec11_arg hn] at h; cases h
  refine ⟨by omega, by omega, ?_⟩
  obtain ⟨n, rfl⟩ : ∃ m : Nat, n = m := ⟨n.toNat, by omega⟩
  cases l with
  | nil => rw [dec11_nil hn] at h; cases h
  | cons t r =>
    rw [dec11_cons t r hn] at h ⊢
    rw [Int.toNat_natCast]
    split at h <;> rename_i h1
    · cases h
    rw [if_neg h1]
    split at h <;> rename_i h2
    · exact absurd h h2
    rw [if_neg h2]
    split at h <;> rename_i h3
    · rw [if_pos h3]
      exact ⟨t, r, rfl, by omega, by simpa using h2, rfl, h3⟩
    · cases h
theorem dec11_n {l : List Nat} {n : Int} (h : (dec11 l n).2 = 0) : (dec11 l n).1.length = n.toNat := by
  obtain ⟨_, _, t, r, rfl, _, h1, h2, _⟩ := dec11_ok h
  rw [h2, rd11_n r _ t h1]
theorem dec11_bad {l : List Nat} {n : Int} (h : (dec11 l n).2 ≠ 0) : (dec11 l n).1 = [] := by
  by_cases hn : n < 0 ∨ 65536 < n
  · rw [dec11_arg hn]
  obtain ⟨n, rfl⟩ : ∃ m : Nat, n = m := ⟨n.toNat, by omega⟩
  cases l with
  | nil => rw [dec11_nil hn]
  | cons t r =>
    rw [dec11_cons t r hn] at h ⊢
    split at h <;> rename_i h1
    · rw [if_pos h1]
    rw [if_neg h1]
    split at h <;> rename_i h2
    · rw [if_pos h2]
    rw [if_neg h2]
    split at h <;> rename_i h3
    · exact absurd rfl h
    · rw [if_neg h3]
end Go.Ck

set_option linter.unusedVariables false
namespace Go.Ck
theorem foldl_base (b : Nat) : ∀ (l : List Nat) (a : Nat), l.foldl (fun a x => a * b + x) a = a * b ^ l.length + l.foldl (fun a x => a * b + x) 0
  | [], a => by simp
  | x :: r, a => by
    rw [List.foldl_cons, foldl_base b r (a * b + x), List.foldl_cons, foldl_base b r (0 * b + x), List.length_cons, Nat.pow_succ, Nat.zero_mul, Nat.zero_add, Nat.add_mul, Nat.mul_assoc, Nat.mul_comm b (b ^ r.length), Nat.add_assoc]
theorem beN_cons (x : Nat) (l : List Nat) : beN (x :: l) = x * 256 ^ l.length + beN l := by
  have := foldl_base 256 l (0 * 256 + x)
  rw [beN, List.foldl_cons, this, Nat.zero_mul, Nat.zero_add]; rfl
theorem binN_cons (x : Nat) (l : List Nat) : binN (x :: l) = x * 2 ^ l.length + binN l := by
  have := foldl_base 2 l (0 * 2 + x)
  rw [binN, List.foldl_cons, this, Nat.zero_mul, Nat.zero_add]; rfl
theorem beN_beB (v n : Nat) : beN (beB v n) = v % 256 ^ n := by
  induction n with
  | zero => simp [beB, beN, Nat.mod_one]
  | succ n ih => rw [beB, beN_cons, beB_len, ih, Nat.pow_succ, Nat.mod_mul]; rw [Nat.mul_comm, Nat.add_comm]
theorem binN_binB (v n : Nat) : binN (binB v n) = v % 2 ^ n := by
  induction n with
  | zero => simp [binB, binN, Nat.mod_one]
  | succ n ih => rw [binB, binN_cons, binB_len, ih, Nat.pow_succ, Nat.mod_mul]; rw [Nat.mul_comm, Nat.add_comm]
theorem beN8 {x : Nat} (h : x < 2 ^ 64) : beN (beB x 8) = x := by
  rw [beN_beB]; exact Nat.mod_eq_of_lt (by omega)
theorem rdv_leb (n : Nat) : ∀ (v : Nat), v ≤ n → ∀ (k acc : Nat) (r : List Nat), v * 128 ^ k < 2 ^ 64 → (k = 0 ∨ v ≠ 0) → k ≤ 9 → rdv k acc (leb v ++ r) = (acc + v * 128 ^ k, k + (leb v).length, 0) := by
  induction n using Nat.strongRecOn with
  | _ n ih =>
    intro v hv k acc r hlt h0 hk
    have h9 : k = 9 → v < 2 := by
      rintro rfl
      have : v * 128 ^ 9 < 2 * 128 ^ 9 := by omega
      exact Nat.lt_of_mul_lt_mul_right this
    by_cases h : v < 128
    · rw [leb_lt h, List.singleton_append, rdv, if_neg (by omega), if_neg (by omega), if_neg (by omega)]; rfl
    · rw [leb_ge h, List.cons_append, rdv, if_neg (by omega), if_pos (by omega)]
      have hp : 128 ^ (k + 1) = 128 ^ k * 128 := Nat.pow_succ ..
      have hd : v = v / 128 * 128 + v % 128 := by omega
      have he : v * 128 ^ k = v / 128 * 128 ^ (k + 1) + v % 128 * 128 ^ k := by
        rw [hp, Nat.mul_comm (128 ^ k), ← Nat.mul_assoc, ← Nat.add_mul, ← hd]
      have hk9 : k ≠ 9 := fun e => by have := h9 e; omega
      rw [show (v % 128 + 128) % 128 = v % 128 by omega, ih (v / 128) (by omega) (v / 128) (Nat.le_refl _) (k + 1) _ r (by omega) (.inr (by omega)) (by omega), List.length_cons]
      refine Prod.ext ?_ (Prod.ext ?_ rfl)
      · simp only; omega
      · simp only; omega
theorem readV_leb {v : Nat} (h : v < 2 ^ 64) (r : List Nat) : readV (leb v ++ r) = (v, (leb v).length, 0) := by
  rw [readV_eq, rdv_leb v v (Nat.le_refl _) 0 0 r (by simpa using h) (.inl rfl) (by omega)]
  simp
/-- The bits of packed bits. -/
theorem pk_bits (l : List Nat) : (∀ x ∈ l, x < 2) → ∀ k, (pk l).getD (k / 8) 0 / 2 ^ (7 - k % 8) % 2 = l.getD k 0 := by
  induction l using snoc_ind with
  | h0 => intro _ k; simp [pk]
  | h1 l b ih =>
    intro hb k
    have ih := ih (fun x hx => hb x (by simp [hx]))
    have hb2 := hb b (by simp)
    have hk := pk_len l
    have e0 : (l ++ [b]).getD k 0 = if k = l.length then b else l.getD k 0 := by
      simp only [List.getD_eq_getElem?_getD, List.getElem?_append]
      by_cases h1 : k < l.length
      · rw [if_pos h1, if_neg (by omega)]
      · rw [if_neg h1]
        by_cases h2 : k = l.length
        · subst h2; simp
        · rw [if_neg h2, List.getElem?_eq_none (l := [b]) (by simp only [List.length_singleton]; omega), List.getElem?_eq_none (l := l) (by omega)]
    have key : ∀ (q m i : Nat), m < 8 → i < 8 → i ≠ m → (q * 2 ^ (8 - m) + b * 2 ^ (7 - m)) / 2 ^ (7 - i) % 2 = q * 2 ^ (8 - m) / 2 ^ (7 - i) % 2 := by
      intro q m i hm hi hne
      have e8 : 2 ^ (8 - m) = 2 * 2 ^ (7 - m) := by rw [← Nat.pow_succ']; congr 1; omega
      have eq1 : q * 2 ^ (8 - m) + b * 2 ^ (7 - m) = (2 * q + b) * 2 ^ (7 - m) := by rw [e8, ← Nat.mul_assoc, ← Nat.add_mul, Nat.mul_comm q 2]
      have eq2 : q * 2 ^ (8 - m) = (2 * q) * 2 ^ (7 - m) := by rw [e8, ← Nat.mul_assoc, Nat.mul_comm q 2]
      rw [eq1, eq2]
      by_cases him : i < m
      · have e7 : 2 ^ (7 - i) = 2 ^ (7 - m) * 2 ^ (m - i) := by rw [← Nat.pow_add]; congr 1; omega
        rw [e7, ← Nat.div_div_eq_div_mul, ← Nat.div_div_eq_div_mul, Nat.mul_div_cancel _ (Nat.two_pow_pos _), Nat.mul_div_cancel _ (Nat.two_pow_pos _)]
        have e1 : 2 ^ (m - i) = 2 * 2 ^ (m - i - 1) := by rw [← Nat.pow_succ']; congr 1; omega
        rw [e1, ← Nat.div_div_eq_div_mul, ← Nat.div_div_eq_div_mul, show (2 * q + b) / 2 = q by omega, show 2 * q / 2 = q by omega]
      · have e7 : 2 ^ (7 - m) = 2 ^ (i - m - 1) * 2 * 2 ^ (7 - i) := by rw [← Nat.pow_succ, ← Nat.pow_add]; congr 1; omega
        rw [e7, ← Nat.mul_assoc, ← Nat.mul_assoc (2 * q), Nat.mul_div_cancel _ (Nat.two_pow_pos _), Nat.mul_div_cancel _ (Nat.two_pow_pos _), ← Nat.mul_assoc, ← Nat.mul_assoc, Nat.mul_mod_left, Nat.mul_mod_left]
    have same : ∀ (q m : Nat), m < 8 → (q * 2 ^ (8 - m) + b * 2 ^ (7 - m)) / 2 ^ (7 - m) % 2 = b := by
      intro q m hm
      have e8 : 2 ^ (8 - m) = 2 * 2 ^ (7 - m) := by rw [← Nat.pow_succ']; congr 1; omega
      have eq1 : q * 2 ^ (8 - m) + b * 2 ^ (7 - m) = (2 * q + b) * 2 ^ (7 - m) := by rw [e8, ← Nat.mul_assoc, ← Nat.add_mul, Nat.mul_comm q 2]
      rw [eq1, Nat.mul_div_cancel _ (Nat.two_pow_pos _)]
      omega
    rw [e0, pk_snoc]
    by_cases h8 : l.length % 8 = 0
    · rw [if_pos h8]
      have e1 : (pk l ++ [b * 128]).getD (k / 8) 0 = if k / 8 = l.length / 8 then b * 128 else (pk l).getD (k / 8) 0 := by
        simp only [List.getD_eq_getElem?_getD, List.getElem?_append]
        by_cases h1 : k / 8 < (pk l).length
        · rw [if_pos h1, if_neg (by omega)]
        · rw [if_neg h1]
          by_cases h2 : k / 8 = l.length / 8
          · rw [if_pos h2, show k / 8 - (pk l).length = 0 by omega]; rfl
          · rw [if_neg h2, List.getElem?_eq_none (l := [b * 128]) (by simp only [List.length_singleton]; omega), List.getElem?_eq_none (l := pk l) (by omega)]
      rw [e1]
      by_cases h2 : k / 8 = l.length / 8
      · rw [if_pos h2]
        by_cases h3 : k = l.length
        · rw [if_pos h3]
          have := same 0 0 (by omega)
          rw [show k % 8 = 0 by omega]; simpa using this
        · rw [if_neg h3]
          have h4 : l.getD k 0 = 0 := by rw [List.getD_eq_getElem?_getD, List.getElem?_eq_none (by omega)]; rfl
          have := key 0 0 (k % 8) (by omega) (by omega) (by omega)
          rw [h4]; simpa using this
      · rw [if_neg h2, if_neg (fun e => h2 (by rw [e]))]
        exact ih k
    · rw [if_neg h8, getD_set]
      by_cases h2 : l.length / 8 = k / 8
      · rw [if_pos ⟨h2, by omega⟩]
        have hdiv : (pk l).getD (l.length / 8) 0 = (pr l).getD (l.length / 8) 0 * 2 ^ (8 - l.length % 8) := by
          have := pr_pk l (l.length / 8)
          rw [if_pos rfl, show (8 - l.length % 8) % 8 = 8 - l.length % 8 by omega] at this
          exact this
        have ihk := ih k
        rw [← h2, hdiv] at ihk
        rw [hdiv]
        by_cases h3 : k = l.length
        · rw [if_pos h3, h3]; exact same _ _ (by omega)
        · rw [if_neg h3, key _ _ (k % 8) (by omega) (by omega) (by omega)]
          exact ihk
      · rw [if_neg (fun h => h2 h.1), if_neg (fun e => h2 (by rw [e]))]
        exact ih k
theorem unb_pk {l : List Nat} (h : ∀ x ∈ l, x < 2) : unb (pk l) = l ++ List.replicate (8 * ((l.length + 7) / 8) - l.length) 0 := by
  refine ext_getD (by rw [unb_len, pk_len, List.length_append, List.length_replicate]; omega) (fun k => ?_)
  have e1 : (unb (pk l)).getD k 0 = (pk l).getD (k / 8) 0 / 2 ^ (7 - k % 8) % 2 := by
    by_cases hk : k / 8 < (pk l).length
    · rw [List.getD_eq_getElem?_getD, unb_get _ _ hk, getD_get hk]; rfl
    · rw [List.getD_eq_getElem?_getD, List.getElem?_eq_none (by rw [unb_len]; omega), List.getD_eq_getElem?_getD, List.getElem?_eq_none (by omega)]; simp
  rw [e1, pk_bits l h]
  simp only [List.getD_eq_getElem?_getD, List.getElem?_append]
  by_cases hk : k < l.length
  · rw [if_pos hk]
  · rw [if_neg hk, List.getElem?_eq_none (by omega), List.getElem?_replicate]
    split <;> rfl
end Go.Ck

set_option linter.unusedVariables false
namespace Go.Ck
theorem flat_dropN {α : Type} (f : α → List Nat) (w : Nat) (hf : ∀ x, (f x).length = w) : ∀ (xs : List α) (i : Nat), (xs.flatMap f).drop (w * i) = (xs.drop i).flatMap f
  | xs, 0 => by simp
  | [], i + 1 => by simp
  | x :: r, i + 1 => by
    rw [List.flatMap_cons, List.drop_succ_cons, Nat.mul_succ, Nat.add_comm, ← List.drop_drop, ← hf x, List.drop_left, hf x, flat_dropN f w hf r i]
theorem flat_takeN {α : Type} (f : α → List Nat) (w : Nat) (hf : ∀ x, (f x).length = w) (xs : List α) (c : List Nat) (i : Nat) (h : i < xs.length) : ((xs.flatMap f ++ c).drop (w * i)).take w = f xs[i] := by
  have hlen : w * i ≤ (xs.flatMap f).length := by
    have e : (xs.flatMap f).length = w * xs.length := by
      clear h
      induction xs with
      | nil => simp
      | cons x r ih => rw [List.flatMap_cons, List.length_append, hf, ih, List.length_cons, Nat.mul_succ, Nat.add_comm]
    rw [e]; exact Nat.mul_le_mul_left _ (by omega)
  rw [List.drop_append_of_le_length hlen, flat_dropN f w hf, List.drop_eq_getElem_cons h, List.flatMap_cons, List.append_assoc, ← hf xs[i], List.take_left]
theorem dic_flat {d : List Nat} (hd : ∀ x ∈ d, x < 2 ^ 64) (c : List Nat) : dic ((d.flatMap fun x => beB x 8) ++ c) d.length = d := by
  refine List.ext_getElem (dic_len _ _) (fun i h1 h2 => ?_)
  simp only [dic, List.getElem_map, List.getElem_range]
  rw [flat_takeN (fun x => beB x 8) 8 (fun x => beB_len x 8) d c i h2]
  exact beN8 (hd _ (List.getElem_mem h2))
theorem dic_encP {xs : List Nat} (hx : ∀ x ∈ xs, x < 2 ^ 64) : dic (encP xs) xs.length = xs := by
  have := dic_flat hx []
  rwa [List.append_nil] at this
theorem ixs_enc {xs : List Nat} {i : Nat} (h : i < xs.length) : ixs ((dd xs).flatMap (fun x => beB x 8) ++ pk (bits10 (dd xs) xs)) (dd xs).length i = (plc xs[i] (dd xs) 0).toNat := by
  have hl : ((dd xs).flatMap fun x => beB x 8).length = 8 * (dd xs).length := be8_len _
  unfold ixs
  rw [← hl, List.drop_left, unb_pk (bits10_bit _ _)]
  unfold getB
  rw [Nat.mul_comm i]
  unfold bits10
  rw [flat_takeN (fun x => binB (plc x (dd xs) 0).toNat (wd (dd xs).length)) (wd (dd xs).length) (fun x => binB_len _ _) xs _ i h, binN_binB]
  obtain ⟨k, h1, h2, _⟩ := plc_mem (i := 0) ((dd_mem xs xs[i]).2 (List.getElem_mem h))
  rw [h1]
  simp only [Nat.zero_add, Int.toNat_natCast]
  exact Nat.mod_eq_of_lt (wd_lt h2)
theorem dec10_enc10 {xs : List Nat} (hx : ∀ x ∈ xs, x < 2 ^ 64) (hl : xs.length ≤ 65536) : dec10 (enc10 xs) xs.length = (xs, 0) := by
  have hdl := dd_len xs
  have hu : (dd xs).length < 2 ^ 64 := by omega
  have hr := readV_leb hu ((dd xs).flatMap (fun x => beB x 8) ++ pk (bits10 (dd xs) xs))
  have he : enc10 xs = leb (dd xs).length ++ ((dd xs).flatMap (fun x => beB x 8) ++ pk (bits10 (dd xs) xs)) := by rw [enc10, head10, List.append_assoc]
  have hrl : ((dd xs).flatMap (fun x => beB x 8) ++ pk (bits10 (dd xs) xs)).length = 8 * (dd xs).length + (wd (dd xs).length * xs.length + 7) / 8 := by
    rw [List.length_append, be8_len, pk_len, bits10_len]
  have hix : ∀ i, (h : i < xs.length) → ixs ((dd xs).flatMap (fun x => beB x 8) ++ pk (bits10 (dd xs) xs)) (dd xs).length i < (dd xs).length ∧ (dd xs).getD (ixs ((dd xs).flatMap (fun x => beB x 8) ++ pk (bits10 (dd xs) xs)) (dd xs).length i) 0 = xs[i] := by
    intro i h
    rw [ixs_enc h]
    obtain ⟨k, h1, h2, h3⟩ := plc_mem (i := 0) ((dd_mem xs xs[i]).2 (List.getElem_mem h))
    rw [h1]
    simp only [Nat.zero_add, Int.toNat_natCast]
    exact ⟨h2, by rw [List.getD_eq_getElem?_getD, h3]; rfl⟩
  unfold dec10
  rw [he, hr]
  simp only [ne_eq, not_true, if_false, List.drop_left]
  rw [if_neg (by omega)]
  generalize hR : (dd xs).flatMap (fun x => beB x 8) ++ pk (bits10 (dd xs) xs) = r at *
  have hfit : fit10 r (dd xs).length xs.length = true := by
    rw [fit10, List.all_eq_true]
    intro i hi
    simp only [List.mem_range] at hi
    simpa using (hix i hi).1
  have hdd : ∀ x ∈ dd xs, x < 2 ^ 64 := fun x h => hx x ((dd_mem xs x).1 h)
  have hpat : pats r (dd xs).length xs.length = xs := by
    refine List.ext_getElem (pats_len _ _ _) (fun i h1 h2 => ?_)
    simp only [pats, List.getElem_map, List.getElem_range]
    rw [← hR, dic_flat hdd, hR]
    exact (hix i h2).2
  unfold dec10b
  rw [if_neg (by omega), if_neg (by rw [Nat.mul_comm xs.length]; omega), hfit, if_neg (by simp), hpat, he, if_pos rfl]
def wa : Option (Nat × Nat) → Int
  | none => -1
  | some (l, _) => l
def wz : Option (Nat × Nat) → Int
  | none => 0
  | some (_, t) => t
theorem tzn_dvd (n : Nat) : ∀ (x : Nat), x ≤ n → x ≠ 0 → x % 2 ^ tzn x = 0 := by
  induction n using Nat.strongRecOn with
  | _ n ih =>
    intro x hx h0
    by_cases h : x % 2 = 1
    · rw [tzn_odd h]; simp [Nat.mod_one]
    · rw [tzn_even h0 (by omega), Nat.pow_succ', Nat.mod_mul, ih (x / 2) (by omega) (x / 2) (Nat.le_refl _) (by omega)]
      omega
theorem shift_back {x t : Nat} (h0 : x ≠ 0) (h : t ≤ tzn x) : x / 2 ^ t * 2 ^ t = x := by
  have h1 := tzn_dvd x x (Nat.le_refl _) h0
  have h2 : 2 ^ t ∣ 2 ^ tzn x := Nat.pow_dvd_pow 2 h
  exact Nat.div_mul_cancel (Nat.dvd_trans h2 (Nat.dvd_of_mod_eq_zero h1))
theorem getB_at {B p rest : List Nat} {k : Nat} (h : B.drop k = p ++ rest) {j n : Nat} (hj : j + n ≤ p.length) : getB B (k + j) n = binN ((p.drop j).take n) := by
  unfold getB
  rw [← List.drop_drop, h, List.drop_append_of_le_length (by omega), List.take_append_of_le_length (by simp; omega)]
theorem len_at {B p rest : List Nat} {k : Nat} (h : B.drop k = p ++ rest) (hp : 0 < p.length) : k + p.length ≤ B.length := by
  have := congrArg List.length h
  simp at this
  omega
theorem fitsW_some {w : Option (Nat × Nat)} {x : Nat} (h : fitsW w x = true) : ∃ l t, w = some (l, t) ∧ l ≤ 64 - blen x ∧ t ≤ tzn x := by
  rcases w with _ | ⟨l, t⟩
  · simp [fitsW] at h
  · simp [fitsW] at h; exact ⟨l, t, rfl, h.1, h.2⟩
theorem binN_take1 (a : Nat) (r : List Nat) : binN (List.take 1 (a :: r)) = a := by simp [binN]
theorem gNy_val {B p rest : List Nat} {k l t x : Nat} (hp : B.drop k = binB (x / 2 ^ t) (64 - l - t) ++ rest) (hx : x < 2 ^ 64) (h0 : x ≠ 0) (hl : l ≤ 64 - blen x) (ht : t ≤ tzn x) (hlt : l + t ≤ 63) :
    gNy B k (l : Int) (t : Int) = ⟨x, 0, k + (64 - l - t), l, t⟩ := by
  have hR : (64 - (l : Int) - (t : Int)).toNat = 64 - l - t := by omega
  have hlen := len_at hp (by rw [binB_len]; omega)
  rw [binB_len] at hlen
  have hg := getB_at hp (j := 0) (n := 64 - l - t) (by rw [binB_len]; omega)
  rw [Nat.add_zero, List.drop_zero, List.take_of_length_le (by rw [binB_len]; omega), binN_binB, Nat.mod_eq_of_lt (fit_lt hx hl hlt)] at hg
  rw [gNy, if_neg (by omega), hR, Int.toNat_natCast, if_pos hlen, hg, shift_back h0 ht, Nat.mod_eq_of_lt hx]
theorem gNx_step {B rest : List Nat} {k x : Nat} {w : Option (Nat × Nat)} (h : B.drop k = (gStep w x).1 ++ rest) (hx : x < 2 ^ 64) (hw : winOK w) :
    gNx B k (wa w) (wz w) = ⟨x, 0, k + (gStep w x).1.length, wa (gStep w x).2, wz (gStep w x).2⟩ := by
  by_cases h0 : x = 0
  · subst h0
    rw [gStep_zero] at h ⊢
    simp only at h ⊢
    have hlen := len_at h (by simp)
    have hg := getB_at h (j := 0) (n := 1) (by simp)
    rw [Nat.add_zero, List.drop_zero, binN_take1] at hg
    simp only [List.length_singleton] at hlen ⊢
    rw [gNx, if_neg (by omega), if_pos hg]
  cases hf : fitsW w x with
  | true =>
    obtain ⟨l, t, rfl, hl, ht⟩ := fitsW_some hf
    have hlt := (hw l t rfl).1
    rw [gStep_fits h0 hf] at h ⊢
    simp only at h ⊢
    have hlen := len_at h (by simp)
    have hg0 := getB_at h (j := 0) (n := 1) (by simp)
    have hg1 := getB_at h (j := 1) (n := 1) (by simp)
    rw [Nat.add_zero, List.drop_zero, List.cons_append, binN_take1] at hg0
    rw [List.cons_append, List.drop_succ_cons, List.drop_zero, List.cons_append, binN_take1] at hg1
    have hd : B.drop (k + 2) = binB (x / 2 ^ t) (64 - l - t) ++ rest := by
      rw [← List.drop_drop, h]; rfl
    have hy := gNy_val (p := []) hd hx h0 hl ht hlt
    simp only [List.length_append, List.length_cons, List.length_nil, binB_len] at hlen ⊢
    rw [gNx, if_neg (by omega), if_neg (by omega), if_neg (by omega), if_neg (by omega)]
    simp only [wa, wz]
    rw [hy]
    simp only [GN.mk.injEq, true_and, and_true]
    omega
  | false =>
    obtain ⟨n1, n2⟩ := newW_ok h0 hx
    obtain ⟨m1, m2⟩ := @newW_fits x
    rw [gStep_new h0 hf] at h ⊢
    generalize hq : newW x = q at *
    obtain ⟨l, t⟩ := q
    simp only at h n1 n2 m1 m2 ⊢
    have hlen := len_at h (by simp)
    simp only [List.length_append, List.length_cons, List.length_nil, binB_len] at hlen ⊢
    have hpl : ([1, 1] ++ binB l 5 ++ binB (63 - l - t) 6 ++ binB (x / 2 ^ t) (64 - l - t)).length = 13 + (64 - l - t) := by simp [binB_len]; omega
    have hg0 := getB_at h (j := 0) (n := 1) (by omega)
    have hg1 := getB_at h (j := 1) (n := 1) (by omega)
    have hg2 := getB_at h (j := 2) (n := 5) (by omega)
    have hg7 := getB_at h (j := 7) (n := 6) (by omega)
    have e0 : binN (List.take 1 (List.drop 0 ([1, 1] ++ binB l 5 ++ binB (63 - l - t) 6 ++ binB (x / 2 ^ t) (64 - l - t)))) = 1 := rfl
    have e1 : binN (List.take 1 (List.drop 1 ([1, 1] ++ binB l 5 ++ binB (63 - l - t) 6 ++ binB (x / 2 ^ t) (64 - l - t)))) = 1 := rfl
    have e2 : List.take 5 (List.drop 2 ([1, 1] ++ binB l 5 ++ binB (63 - l - t) 6 ++ binB (x / 2 ^ t) (64 - l - t))) = binB l 5 := rfl
    have e7 : List.take 6 (List.drop 7 ([1, 1] ++ binB l 5 ++ binB (63 - l - t) 6 ++ binB (x / 2 ^ t) (64 - l - t))) = binB (63 - l - t) 6 := rfl
    rw [e0, Nat.add_zero] at hg0
    rw [e1] at hg1
    rw [e2, binN_binB, Nat.mod_eq_of_lt (by omega)] at hg2
    rw [e7, binN_binB, Nat.mod_eq_of_lt (by omega)] at hg7
    have hd : B.drop (k + 13) = binB (x / 2 ^ t) (64 - l - t) ++ rest := by
      rw [← List.drop_drop, h]; rfl
    have hy := gNy_val (p := []) hd hx h0 m1 m2 n1
    rw [gNx, if_neg (by omega), if_neg (by omega), if_neg (by omega), if_pos hg1, if_neg (by omega), if_neg (by omega), hg2, hg7]
    have e3 : (63 - (l : Int) - ((63 - l - t : Nat) : Int)) = (t : Int) := by omega
    rw [e3, hy]
    simp only [wa, wz, GN.mk.injEq, true_and, and_true]
    omega
theorem gF_prefix (xs : List Nat) : ∀ i, i ≤ xs.length → ∃ s, (gF xs).1 = (gF (xs.take i)).1 ++ s := by
  induction xs using snoc_ind with
  | h0 => intro i hi; exact ⟨[], by simp⟩
  | h1 l b ih =>
    intro i hi
    by_cases h : i ≤ l.length
    · rw [List.take_append_of_le_length h]
      by_cases h0 : l = []
      · subst h0
        have : i = 0 := by simpa using h
        subst this
        exact ⟨_, by simp [gF]; rfl⟩
      · obtain ⟨s, hs⟩ := ih i h
        rw [gF_snoc, gS]
        have hlast := gF_last l
        cases hp : (gF l).2.2 with
        | none => rw [hp] at hlast; exact absurd (List.getLast?_eq_none_iff.1 hlast.symm) h0
        | some p => exact ⟨s ++ (gStep (gF l).2.1 (b ^^^ p)).1, by show (gF l).1 ++ _ = _; rw [hs, List.append_assoc]⟩
    · rw [List.take_of_length_le (by simp at hi ⊢; omega)]
      exact ⟨[], by simp⟩
theorem gR_enc {xs : List Nat} (hx : ∀ x ∈ xs, x < 2 ^ 64) (c : List Nat) : ∀ i, i ≤ xs.length → gR ((gF xs).1 ++ c) i = ⟨xs.take i, 0, (gF (xs.take i)).1.length, wa (gF (xs.take i)).2.1, wz (gF (xs.take i)).2.1⟩
  | 0, _ => by simp [gR, gF, wa, wz]
  | i + 1, hi => by
    have ih := gR_enc hx c i (by omega)
    have hlt : i < xs.length := hi
    have hti : xs.take (i + 1) = xs.take i ++ [xs[i]] := by simp
    obtain ⟨s, hs⟩ := gF_prefix xs (i + 1) hi
    have hxt : ∀ x ∈ xs.take i, x < 2 ^ 64 := fun x h => hx x (List.mem_of_mem_take h)
    have hxi := hx _ (List.getElem_mem hlt)
    have hok := gF_ok (xs.take i) hxt
    have hlast := gF_last (xs.take i)
    by_cases h0 : i = 0
    · subst h0
      have ih0 : gR ((gF xs).1 ++ c) 0 = ⟨[], 0, 0, -1, 0⟩ := rfl
      rw [gR, ih0, gRs, if_neg (by simp)]
      simp only [List.length_nil, if_true, Nat.zero_add]
      have hg : gF (xs.take 1) = (binB xs[0] 64, none, some xs[0]) := by rw [hti]; rfl
      rw [hg] at hs ⊢
      simp only [binB_len]
      simp only at hs
      have hlen : ((gF xs).1 ++ c).length = 64 + (s.length + c.length) := by rw [hs]; simp [binB_len, Nat.add_assoc]
      have hgb := getB_at (B := (gF xs).1 ++ c) (k := 0) (p := binB xs[0] 64) (rest := s ++ c) (by rw [List.drop_zero, hs, List.append_assoc]) (j := 0) (n := 64) (by simp [binB_len])
      rw [List.drop_zero, List.take_of_length_le (by simp [binB_len]), binN_binB, Nat.mod_eq_of_lt hxi, Nat.zero_add] at hgb
      rw [if_pos (by omega), hgb]
      rw [hti]; rfl
    · rw [gR, ih, gRs, if_neg (by simp)]
      simp only
      have htl : (xs.take i).length = i := by rw [List.length_take]; omega
      rw [if_neg (by rw [htl]; exact h0)]
      have hlp : (xs.take i).getLast? = some (xs.getD (i - 1) 0) := by
        rw [List.getLast?_eq_getElem?, List.length_take, List.getElem?_take, List.getD_eq_getElem?_getD]
        rw [show min i xs.length = i by omega, if_pos (by omega), List.getElem?_eq_getElem (by omega)]
        rfl
      rw [hlp] at hlast
      have hpd : (xs.take i).getD ((xs.take i).length - 1) 0 = xs.getD (i - 1) 0 := by
        rw [htl, List.getD_eq_getElem?_getD, List.getD_eq_getElem?_getD, List.getElem?_take, if_pos (by omega)]
      have hpl : xs.getD (i - 1) 0 < 2 ^ 64 := getD_lt hx (by omega) _
      have hg : gF (xs.take (i + 1)) = ((gF (xs.take i)).1 ++ (gStep (gF (xs.take i)).2.1 (xs[i] ^^^ xs.getD (i - 1) 0)).1, (gStep (gF (xs.take i)).2.1 (xs[i] ^^^ xs.getD (i - 1) 0)).2, some xs[i]) := by
        rw [hti, gF_snoc, gS, hlast]
      rw [hg] at hs ⊢
      simp only at hs ⊢
      have hstep := gNx_step (B := (gF xs).1 ++ c) (k := (gF (xs.take i)).1.length) (w := (gF (xs.take i)).2.1) (x := xs[i] ^^^ xs.getD (i - 1) 0) (rest := s ++ c)
        (by rw [hs, List.append_assoc, List.append_assoc, List.drop_left]) (Nat.xor_lt_two_pow hxi hpl) hok
      rw [hstep]
      simp only [if_true]
      rw [hpd, Nat.xor_assoc, Nat.xor_self, Nat.xor_zero, ← hti]
      simp only [List.length_append]
theorem dec09_enc09 {xs : List Nat} (hx : ∀ x ∈ xs, x < 2 ^ 64) : dec09 (enc09 xs) xs.length = (xs, 0) := by
  have h : unb (enc09 xs) = (gF xs).1 ++ List.replicate (8 * (((gF xs).1.length + 7) / 8) - (gF xs).1.length) 0 := unb_pk (gF_bit xs)
  unfold dec09
  rw [h, gR_enc hx _ xs.length (Nat.le_refl _)]
  simp
end Go.Ck

set_option linter.unusedVariables false
namespace Go.Ck
theorem wayS_cases {xs : List Nat} {t : Nat} (ht : t < 4) (hl : xs.length ≤ 65536) : (t = 0 ∧ wayS xs t = (encP xs, 0)) ∨ (t = 1 ∧ wayS xs t = if oneV xs = false ∨ xs = [] then ([], 1) else (encP (xs.take 1), 0)) ∨ (t = 2 ∧ wayS xs t = (enc10 xs, 0)) ∨ (t = 3 ∧ wayS xs t = (enc09 xs, 0)) := by
  have hl' : ¬ 65536 < xs.length := by omega
  have hc : t = 0 ∨ t = 1 ∨ t = 2 ∨ t = 3 := by omega
  rcases hc with rfl | rfl | rfl | rfl
  · exact .inl ⟨rfl, wayS_zero hl'⟩
  · refine .inr (.inl ⟨rfl, ?_⟩)
    rw [wayS, if_neg (by omega), if_neg hl']; rfl
  · refine .inr (.inr (.inl ⟨rfl, ?_⟩))
    rw [wayS, if_neg (by omega), if_neg hl']; rfl
  · refine .inr (.inr (.inr ⟨rfl, ?_⟩))
    rw [wayS, if_neg (by omega), if_neg hl']; rfl
theorem oneV_rep {xs : List Nat} (h : oneV xs = true) : xs = List.replicate xs.length (xs.getD 0 0) := by
  refine List.eq_replicate_of_mem (fun x hx => ?_)
  simpa using List.all_eq_true.1 h x hx
theorem rd11_way {xs : List Nat} {t : Nat} (hx : ∀ x ∈ xs, x < 2 ^ 64) (ht : t < 4) (hl : xs.length ≤ 65536) (h : (wayS xs t).2 = 0) : rd11 (wayS xs t).1 xs.length t = (xs, 0) := by
  rcases wayS_cases ht hl with ⟨rfl, e⟩ | ⟨rfl, e⟩ | ⟨rfl, e⟩ | ⟨rfl, e⟩
  · rw [e]
    unfold rd11
    rw [if_neg (by omega), if_neg (by omega), if_neg (show ¬ (0 = 1) by omega), encP_len, if_neg (by omega), if_neg (by omega), if_neg (by omega), dic_encP hx]
  · rw [e] at h ⊢
    split at h
    · cases h
    · rename_i hn
      rw [if_neg hn]
      have h1 : oneV xs = true := by cases ho : oneV xs <;> simp [ho] at hn ⊢
      have h2 : xs ≠ [] := fun h => hn (.inr h)
      have hr := oneV_rep h1
      obtain ⟨y, r, rfl⟩ : ∃ y r, xs = y :: r := by cases xs with | nil => exact absurd rfl h2 | cons y r => exact ⟨y, r, rfl⟩
      have he : encP ((y :: r).take 1) = beB y 8 := by simp [encP]
      unfold rd11
      rw [he, if_neg (by omega), if_neg (by omega), if_pos rfl, beB_len, if_neg (by omega), if_neg (by omega), if_pos rfl, List.take_of_length_le (by rw [beB_len]; omega), beN8 (hx y (by simp))]
      have hr2 : y :: r = List.replicate (y :: r).length y := hr
      rw [← hr2]
  · rw [e]; simp only [rd11, if_true]; exact dec10_enc10 hx hl
  · rw [e]; unfold rd11; rw [if_neg (by omega), if_pos rfl]; exact dec09_enc09 hx
theorem bestB_way {xs : List Nat} (hl : ¬ 65536 < xs.length) (n : Nat) : (wayS xs (bestB xs n).1).2 = 0 ∧ (bestB xs n).2 = (wayS xs (bestB xs n).1).1 := by
  induction n with
  | zero =>
    rw [bestB_zero]
    have : wayS xs ((0 : Nat) : Int) = (encP xs, 0) := wayS_zero hl
    rw [this]
    exact ⟨rfl, rfl⟩
  | succ n ih =>
    rw [bestB_succ, stepB]
    split
    · rename_i h; exact ⟨h.1, rfl⟩
    · exact ih
theorem encV_ok {xs : List Nat} (hl : xs.length ≤ 65536) : encV xs = ((bestB xs 3).1 :: (bestB xs 3).2, 0) := by rw [encV, if_neg (by omega)]
theorem dec11_encV {xs : List Nat} (hx : ∀ x ∈ xs, x < 2 ^ 64) (hl : xs.length ≤ 65536) : dec11 (encV xs).1 xs.length = (xs, 0) := by
  have ht := bestB_tag xs 3
  obtain ⟨h1, h2⟩ := bestB_way (xs := xs) (by omega) 3
  have hr := rd11_way hx (t := (bestB xs 3).1) (by omega) hl h1
  rw [← h2] at hr
  have he := encV_ok hl
  rw [he]
  simp only
  rw [dec11_cons _ _ (by omega), hr, if_neg (by omega)]
  simp only [ne_eq, not_true, if_false]
  rw [he]
  simp
end Go.Ck

set_option linter.unusedVariables false
namespace Go.Ck
/-- The lowest bits of an int. -/
theorem and_low (c : Int) (k : Nat) (hk : k ≤ 62) : ∃ m : Nat, m < 2 ^ k ∧ ibits .and .i64 c ((2 ^ k - 1 : Nat) : Int) = (m : Int) := by
  refine ⟨(BitVec.ofInt 64 c).toNat % 2 ^ k, Nat.mod_lt _ (Nat.two_pow_pos k), ?_⟩
  have h1 : 2 ^ k ≤ 2 ^ 62 := Nat.pow_le_pow_right (by omega) hk
  have h0 := Nat.two_pow_pos k
  simp only [ibits, ofInt_nat, BitVec.toNat_and, BitVec.toNat_ofNat]
  rw [show IntKind.i64.bits = 64 from rfl, Nat.mod_eq_of_lt (a := 2 ^ k - 1) (by omega), Nat.and_two_pow_sub_one_eq_mod]
  have h2 := Nat.mod_lt (BitVec.ofInt 64 c).toNat h0
  exact wrap_i64_nat (by omega)
end Go.Ck

set_option linter.unusedVariables false
namespace Go.Ck
def zig (n : Int) : Nat := if 0 ≤ n then (2 * n).toNat else (2 * (-(n + 1)) + 1).toNat
def zag (v : Nat) : Int := if v % 2 = 0 then ((v / 2 : Nat) : Int) else -((v / 2 : Nat) : Int) - 1
def i64r (n : Int) : Prop := -2 ^ 63 ≤ n ∧ n < 2 ^ 63
theorem zig_lt {n : Int} (h : i64r n) : zig n < 2 ^ 64 := by unfold i64r at h; unfold zig; split <;> omega
theorem zag_zig {n : Int} : zag (zig n) = n := by
  unfold zig
  split
  · unfold zag; rw [if_pos (by omega)]; omega
  · unfold zag; rw [if_neg (by omega)]; omega
theorem zag_r {v : Nat} (h : v < 2 ^ 64) : i64r (zag v) := by unfold zag i64r; split <;> omega
theorem xor_ones {a : Nat} (h : a < 2 ^ 64) : ibits .xor .u64 (a : Int) ((2 ^ 64 - 1 : Nat) : Int) = ((2 ^ 64 - 1 - a : Nat) : Int) := by
  have e : (BitVec.ofNat 64 (2 ^ 64 - 1)) = BitVec.allOnes 64 := by decide
  simp only [ibits, ofInt_nat]
  rw [show IntKind.u64.bits = 64 from rfl, e, BitVec.xor_allOnes, BitVec.toNat_not, BitVec.toNat_ofNat, Nat.mod_eq_of_lt h, wrap_u64_lt (by omega)]
theorem xor_zero {a : Nat} (h : a < 2 ^ 64) : ibits .xor .u64 (a : Int) 0 = (a : Int) := by
  have := ibits_xor64 (a := a) (b := 0) h (by omega)
  simpa using this
theorem wrap_i64_r (n : Int) : i64r (IntKind.i64.wrap n) := by rw [IntKind.wrap_i64]; unfold i64r; omega
theorem zig_val {n : Int} (h : i64r n) : ibits .xor .u64 (shlI .u64 (IntKind.u64.wrap n) 1) (IntKind.u64.wrap (shrI .i64 n 63)) = (zig n : Int) := by
  have h1 : IntKind.u64.wrap n = ((n % 2 ^ 64).toNat : Int) := by rw [IntKind.wrap_u64]; omega
  have hs : shrI .i64 n 63 = if 0 ≤ n then 0 else -1 := by
    unfold i64r at h
    unfold shrI
    have e : (2 : Int) ^ (min (63 : Int).toNat IntKind.i64.bits) = 9223372036854775808 := by decide
    rw [e, Int.fdiv_eq_ediv_of_nonneg _ (by omega)]
    split <;> omega
  have h2 := shlI_nat64 (n % 2 ^ 64).toNat 1 (by omega)
  rw [h1, hs]
  rw [show ((1 : Nat) : Int) = 1 from rfl] at h2
  rw [h2]
  unfold i64r at h
  by_cases h0 : 0 ≤ n
  · rw [if_pos h0, show IntKind.u64.wrap 0 = 0 by decide, xor_zero (Nat.mod_lt _ (by omega))]
    unfold zig; rw [if_pos h0]; omega
  · rw [if_neg h0, show IntKind.u64.wrap (-1) = ((2 ^ 64 - 1 : Nat) : Int) by decide, xor_ones (Nat.mod_lt _ (by omega))]
    unfold zig; rw [if_neg h0]; omega
theorem xor_i64 {a : Nat} (h : a < 2 ^ 63) : ibits .xor .i64 (a : Int) (-1) = -(a : Int) - 1 := by
  have e : (BitVec.ofInt 64 (-1)) = BitVec.allOnes 64 := by decide
  simp only [ibits, ofInt_nat]
  rw [show IntKind.i64.bits = 64 from rfl, e, BitVec.xor_allOnes, BitVec.toNat_not, BitVec.toNat_ofNat, Nat.mod_eq_of_lt (by omega), IntKind.wrap_i64]
  omega
theorem xor_i64_0 {a : Nat} (h : a < 2 ^ 63) : ibits .xor .i64 (a : Int) 0 = (a : Int) := by
  have e : (BitVec.ofInt 64 0) = 0#64 := by decide
  simp only [ibits, ofInt_nat]
  rw [show IntKind.i64.bits = 64 from rfl, e, BitVec.xor_zero, BitVec.toNat_ofNat, Nat.mod_eq_of_lt (by omega), wrap_i64_nat h]
theorem zag_val {v : Nat} (h : v < 2 ^ 64) : ibits .xor .i64 (IntKind.i64.wrap (shrI .u64 (v : Int) 1)) (IntKind.i64.wrap (0 - IntKind.i64.wrap (ibits .and .u64 (v : Int) 1))) = zag v := by
  have h1 := shrI_nat .u64 v 1 (by decide)
  rw [show ((1 : Nat) : Int) = 1 from rfl] at h1
  rw [h1, and_one h, wrap_i64_nat (n := v / 2 ^ 1) (by omega), wrap_i64_nat (n := v % 2) (by omega)]
  unfold zag
  by_cases h0 : v % 2 = 0
  · rw [h0, if_pos rfl, show IntKind.i64.wrap (0 - ((0 : Nat) : Int)) = 0 by decide]
    exact xor_i64_0 (by omega)
  · rw [if_neg h0, show v % 2 = 1 by omega, show IntKind.i64.wrap (0 - ((1 : Nat) : Int)) = -1 by decide]
    exact xor_i64 (by omega)
/-- What lies between numbers, behind one that stands ahead. -/
def dif : Int → List Int → List Int
  | _, [] => []
  | p, x :: r => IntKind.i64.wrap (x - p) :: dif x r
def acc : Int → List Int → List Int
  | _, [] => []
  | p, x :: r => IntKind.i64.wrap (x + p) :: acc (IntKind.i64.wrap (x + p)) r
theorem dif_len : ∀ (p : Int) (l : List Int), (dif p l).length = l.length
  | _, [] => rfl
  | p, x :: r => by simp [dif, dif_len x r]
theorem acc_len : ∀ (p : Int) (l : List Int), (acc p l).length = l.length
  | _, [] => rfl
  | p, x :: r => by simp [acc, acc_len _ r]
theorem dif_r : ∀ (p : Int) (l : List Int), ∀ x ∈ dif p l, i64r x
  | _, [] => by simp [dif]
  | p, x :: r => by
    intro y hy
    rcases List.mem_cons.1 hy with rfl | hy
    · exact wrap_i64_r _
    · exact dif_r x r y hy
theorem acc_r : ∀ (p : Int) (l : List Int), ∀ x ∈ acc p l, i64r x
  | _, [] => by simp [acc]
  | p, x :: r => by
    intro y hy
    rcases List.mem_cons.1 hy with rfl | hy
    · exact wrap_i64_r _
    · exact acc_r _ r y hy
theorem acc_dif : ∀ (p : Int) (l : List Int), (∀ x ∈ l, i64r x) → acc p (dif p l) = l
  | _, [], _ => rfl
  | p, x :: r, h => by
    have hx := h x (by simp)
    have e : IntKind.i64.wrap (IntKind.i64.wrap (x - p) + p) = x := by
      rw [IntKind.wrap_i64, IntKind.wrap_i64]; unfold i64r at hx; omega
    rw [dif, acc, e, acc_dif x r (fun y hy => h y (by simp [hy]))]
/-- From place j + 1 on. -/
def stepD (j : Nat) (l : List Int) : List Int := l.take (j + 1) ++ dif (l.getD j 0) (l.drop (j + 1))
def stepA (j : Nat) (l : List Int) : List Int := l.take (j + 1) ++ acc (l.getD j 0) (l.drop (j + 1))
theorem stepD_len (j : Nat) (l : List Int) : (stepD j l).length = l.length := by simp [stepD, dif_len]; omega
theorem stepA_len (j : Nat) (l : List Int) : (stepA j l).length = l.length := by simp [stepA, acc_len]; omega
theorem step_parts {l d : List Int} {j : Nat} (hd : d.length = l.length - (j + 1)) : (l.take (j + 1) ++ d).take (j + 1) = l.take (j + 1) ∧ (l.take (j + 1) ++ d).drop (j + 1) = d ∧ (l.take (j + 1) ++ d).getD j 0 = l.getD j 0 := by
  by_cases h : j + 1 ≤ l.length
  · have hl : (l.take (j + 1)).length = j + 1 := by simp; omega
    refine ⟨?_, ?_, ?_⟩
    · rw [List.take_append_of_le_length (by omega), List.take_of_length_le (l := l.take (j + 1)) (by omega)]
    · rw [List.drop_append_of_le_length (by omega), List.drop_of_length_le (l := l.take (j + 1)) (by omega), List.nil_append]
    · rw [List.getD_eq_getElem?_getD, List.getElem?_append_left (by omega), List.getElem?_take, if_pos (by omega), List.getD_eq_getElem?_getD]
  · have hd0 : d = [] := List.length_eq_zero_iff.1 (by omega)
    subst hd0
    have ht : l.take (j + 1) = l := List.take_of_length_le (by omega)
    rw [List.append_nil, ht]
    exact ⟨ht, List.drop_of_length_le (by omega), rfl⟩
theorem stepA_D (j : Nat) {l : List Int} (h : ∀ x ∈ l, i64r x) : stepA j (stepD j l) = l := by
  obtain ⟨h1, h2, h3⟩ := step_parts (l := l) (d := dif (l.getD j 0) (l.drop (j + 1))) (j := j) (by rw [dif_len]; simp)
  rw [stepA, stepD, h1, h2, h3, acc_dif _ _ (fun x hx => h x (List.mem_of_mem_drop hx)), List.take_append_drop]
theorem stepD_r (j : Nat) {l : List Int} (h : ∀ x ∈ l, i64r x) : ∀ x ∈ stepD j l, i64r x := by
  intro x hx
  rcases List.mem_append.1 hx with hx | hx
  · exact h x (List.mem_of_mem_take hx)
  · exact dif_r _ _ x hx
theorem stepA_r (j : Nat) {l : List Int} (h : ∀ x ∈ l, i64r x) : ∀ x ∈ stepA j l, i64r x := by
  intro x hx
  rcases List.mem_append.1 hx with hx | hx
  · exact h x (List.mem_of_mem_take hx)
  · exact acc_r _ _ x hx
def diffS (l : List Int) : Nat → List Int
  | 0 => l
  | k + 1 => stepD k (diffS l k)
def sumS (l : List Int) : Nat → List Int
  | 0 => l
  | k + 1 => sumS (stepA k l) k
theorem diffS_len (l : List Int) : ∀ k, (diffS l k).length = l.length
  | 0 => rfl
  | k + 1 => by rw [diffS, stepD_len, diffS_len l k]
theorem sumS_len : ∀ (k : Nat) (l : List Int), (sumS l k).length = l.length
  | 0, l => rfl
  | k + 1, l => by rw [sumS, sumS_len k, stepA_len]
theorem diffS_r {l : List Int} (h : ∀ x ∈ l, i64r x) : ∀ k, ∀ x ∈ diffS l k, i64r x
  | 0 => h
  | k + 1 => stepD_r k (diffS_r h k)
theorem sumS_r : ∀ (k : Nat) {l : List Int} (h : ∀ x ∈ l, i64r x), ∀ x ∈ sumS l k, i64r x
  | 0, l, h => h
  | k + 1, l, h => sumS_r k (stepA_r k h)
theorem sum_diff : ∀ (k : Nat) {l : List Int}, (∀ x ∈ l, i64r x) → sumS (diffS l k) k = l
  | 0, l, h => rfl
  | k + 1, l, h => by rw [diffS, sumS, stepA_D k (diffS_r h k), sum_diff k h]
theorem stepD_big {l : List Int} {j : Nat} (h : l.length ≤ j + 1) : stepD j l = l := by
  rw [stepD, List.take_of_length_le h, List.drop_of_length_le h]; simp [dif]
theorem stepA_big {l : List Int} {j : Nat} (h : l.length ≤ j + 1) : stepA j l = l := by
  rw [stepA, List.take_of_length_le h, List.drop_of_length_le h]; simp [acc]
/-- Steps that find nothing behind their place. -/
theorem diffS_min (l : List Int) : ∀ k, diffS l k = diffS l (min k l.length)
  | 0 => by simp
  | k + 1 => by
    by_cases h : k + 1 ≤ l.length
    · rw [Nat.min_eq_left h]
    · rw [diffS, stepD_big (by rw [diffS_len]; omega), diffS_min l k, Nat.min_eq_right (by omega), Nat.min_eq_right (by omega)]
theorem sumS_min : ∀ (k : Nat) (l : List Int), sumS l k = sumS l (min k l.length)
  | 0, l => by simp
  | k + 1, l => by
    by_cases h : k + 1 ≤ l.length
    · rw [Nat.min_eq_left h]
    · rw [sumS, stepA_big (by omega), sumS_min k l, Nat.min_eq_right (by omega), Nat.min_eq_right (by omega)]
end Go.Ck
namespace Go.Ck
/-- How often a way takes differences. -/
def oft (t : Nat) : Nat := if t = 0 then 0 else if t = 3 ∨ t = 4 then 2 else 1
theorem oft_le (t : Nat) : oft t ≤ 3 := by unfold oft; split <;> (try split) <;> omega
end Go.Ck
