/- What is proved here: parts of the proofs of this seat's statements (a verified evaluator for calls over pure values, its laws, and contracts of functions). No condition. -/
import Derived.Test.YtnbkoemhcpjceaaGreatDoorKo
import Derived.Test.YtnbkoemhcpjceaaGreatDoorKk
set_option linter.all false
set_option linter.unusedVariables false
set_option maxRecDepth 10000
set_option maxHeartbeats 1000000
namespace Go.Ck
open Go.Proofs
abbrev roomsV : List PV := [.int .i64 240, .int .i64 0, .int .i64 120, .int .i64 0, .int .i64 60, .int .i64 1, .int .i64 30, .int .i64 2, .int .i64 20, .int .i64 3, .int .i64 15, .int .i64 4, .int .i64 12, .int .i64 5, .int .i64 10, .int .i64 6, .int .i64 8, .int .i64 7, .int .i64 7, .int .i64 8, .int .i64 6, .int .i64 10, .int .i64 5, .int .i64 12, .int .i64 4, .int .i64 15, .int .i64 3, .int .i64 20, .int .i64 2, .int .i64 30, .int .i64 1, .int .i64 60]
theorem rooms_fn : Fn Tryz.prog 139 [] [] (fun rs H' => rs = [.pv (.agg roomsV)] ∧ H' = []) := by
  refine Fn.of_body (fn := Tryz.f139) (n := 18) (res := [.cell 0 144]) (by kernel_rfl) rfl rfl rfl rfl rfl (fun C => ?_)
  refine AW.go ?_
  refine AW.finE (.pv _ .nil) rfl
theorem roomsAt (s : Nat) (hs : s < 16) : subP (.agg roomsV) (s * 2) (some (2, true)) = some (.agg [.int .i64 (cn s : Nat), .int .i64 (wn s : Nat)]) := by
  have h : s = 0 ∨ s = 1 ∨ s = 2 ∨ s = 3 ∨ s = 4 ∨ s = 5 ∨ s = 6 ∨ s = 7 ∨ s = 8 ∨ s = 9 ∨ s = 10 ∨ s = 11 ∨ s = 12 ∨ s = 13 ∨ s = 14 ∨ s = 15 := by omega
  rcases h with rfl | rfl | rfl | rfl | rfl | rfl | rfl | rfl | rfl | rfl | rfl | rfl | rfl | rfl | rfl | rfl <;> rfl
theorem room_fn (s : Nat) (hs : s < 16) : Fn Tryz.prog 127 [] [.pv (.int .i64 s)] (fun rs H' => rs = [.pv (.int .i64 (cn s : Nat)), .pv (.int .i64 (wn s : Nat))] ∧ H' = []) := by
  refine Fn.of_body (fn := Tryz.f127) (n := 18) (res := [.tmp 2, .tmp 3]) (by kernel_rfl) rfl rfl rfl rfl rfl (fun C => ?_)
  have hg : decide (16 ≤ s) = false := decide_eq_false (by omega)
  have hgi : decide ((16 : Int) ≤ (s : Int)) = false := decide_eq_false (by omega)
  have hgj : decide ((s : Int) ≥ 16) = false := decide_eq_false (by omega)
  refine AW.gg ?_ (by simp only [go_sem, ↓reduceIte, hg, hgi, hgj] <;> rfl)
  refine AW.condF rfl ?_
  refine AW.go ?_
  refine AW.callE (fun _ => 0) rooms_fn .nil ?_
  refine AW.go ?_
  refine AW.indexArr (ho := rfl) (n := s) rfl rfl tk_144 hs tsh_143 (roomsAt s hs) ?_
  refine AW.go ?_
  refine AW.sr mixed (by decide +kernel) ?_
  refine AW.go ?_
  refine AW.finE (.pv _ (.pv _ .nil)) rfl
theorem refRoom_fn (s : Nat) (hs : s < 16) : Fn Tryz.prog 119 [] [.pv (.int .i64 s)] (fun rs H' => rs = [.pv (.int .i64 (cn s : Nat)), .pv (.int .i64 (wn s : Nat))] ∧ H' = []) := by
  refine Fn.of_body (fn := Tryz.f119) (n := 22) (res := [.tmp 2, .tmp 3]) (by kernel_rfl) rfl rfl rfl rfl rfl (fun C => ?_)
  have hg : decide (15 < s) = false := decide_eq_false (by omega)
  have hgj : decide ((s : Int) > 15) = false := decide_eq_false (by omega)
  have h16 : decide (s < 16) = true := decide_eq_true hs
  have h1 : (nis cntL)[s]? = some (.int .i64 (cn s : Nat)) := by
    have h : cntL[s]? = some (cn s) := by unfold cn; rw [List.getD_eq_getElem?_getD, List.getElem?_eq_getElem (show s < cntL.length from hs)]; rfl
    rw [nis, List.getElem?_map, h]; rfl
  have h2 : (nis widL)[s]? = some (.int .i64 (wn s : Nat)) := by
    have h : widL[s]? = some (wn s) := by unfold wn; rw [List.getD_eq_getElem?_getD, List.getElem?_eq_getElem (show s < widL.length from hs)]; rfl
    rw [nis, List.getElem?_map, h]; rfl
  have hl1 : (nis cntL).length = 16 := rfl
  have hl2 : (nis widL).length = 16 := rfl
  have f1 : [PV.int .i64 240, .int .i64 120, .int .i64 60, .int .i64 30, .int .i64 20, .int .i64 15, .int .i64 12, .int .i64 10, .int .i64 8, .int .i64 7, .int .i64 6, .int .i64 5, .int .i64 4, .int .i64 3, .int .i64 2, .int .i64 1] = nis cntL := rfl
  have f2 : [PV.int .i64 0, .int .i64 0, .int .i64 1, .int .i64 2, .int .i64 3, .int .i64 4, .int .i64 5, .int .i64 6, .int .i64 7, .int .i64 8, .int .i64 10, .int .i64 12, .int .i64 15, .int .i64 20, .int .i64 30, .int .i64 60] = nis widL := rfl
  generalize hq1 : nis cntL = q1 at *
  generalize hq2 : nis widL = q2 at *
  have r16 : 16 ≤ room := by decide
  refine AW.gg ?_ (by simp only [go_sem, ↓reduceIte, hg, hgj, f1, f2] <;> rfl)
  refine AW.condF rfl ?_
  refine AW.go ?_
  refine AW.sr mixed (by decide +kernel) ?_ (by simp only [go_sem, ↓reduceIte, h1, h2, h16, hl1, hl2, hs] <;> rfl)
  refine AW.go ?_
  refine AW.finE (.pv _ (.pv _ .nil)) rfl
end Go.Ck

set_option linter.unusedVariables false
namespace Go.Ck
theorem or_add {a b w : Nat} (hb : b < 2 ^ w) (h : a * 2 ^ w + b < 2 ^ 64) : ibits .or .u64 ((a * 2 ^ w : Nat) : Int) (b : Int) = ((a * 2 ^ w + b : Nat) : Int) := by
  rw [ibits_or64 (by omega) (by omega)]
  have := Nat.two_pow_add_eq_or_of_lt hb a
  rw [Nat.mul_comm (2 ^ w) a] at this
  rw [this]
theorem shl_add {a w : Nat} (hw : w ≤ 64) (h : a * 2 ^ w < 2 ^ 64) : shlI .u64 (a : Int) (w : Int) = ((a * 2 ^ w : Nat) : Int) := by
  rw [shlI_nat64 a w hw, Nat.mod_eq_of_lt h]
theorem fitS_all {l : List Nat} {s : Nat} (h1 : cn s ≤ l.length) (h2 : ∀ x ∈ l.take (cn s), x < 2 ^ wn s) : fitS l s = true := by
  simp only [fitS, Bool.and_eq_true, decide_eq_true_eq, List.all_eq_true]
  exact ⟨h1, h2⟩
theorem fitS_short {l : List Nat} {s : Nat} (h : ¬ cn s ≤ l.length) : fitS l s = false := by
  simp [fitS, h]
theorem fitS_big {l : List Nat} {s : Nat} {x : Nat} (h1 : x ∈ l.take (cn s)) (h2 : ¬ x < 2 ^ wn s) : fitS l s = false := by
  rw [Bool.eq_false_iff]
  intro h
  simp only [fitS, Bool.and_eq_true, decide_eq_true_eq, List.all_eq_true] at h
  exact h2 (h.2 x h1)
theorem fitS_len {l : List Nat} {s : Nat} (h : fitS l s = true) : cn s ≤ l.length ∧ ∀ x ∈ l.take (cn s), x < 2 ^ wn s := by
  simpa only [fitS, Bool.and_eq_true, decide_eq_true_eq, List.all_eq_true] using h
theorem div_zero_iff {x w : Nat} : x / 2 ^ w = 0 ↔ x < 2 ^ w := by
  rw [Nat.div_eq_zero_iff]
  have := Nat.two_pow_pos w
  omega
theorem hornB_lt2 {w m : Nat} {l : List Nat} (h : ∀ x ∈ l, x < 2 ^ w) (hm : l.length * w ≤ m) : hornB w l < 2 ^ m := Nat.lt_of_lt_of_le (hornB_lt h) (Nat.pow_le_pow_right (by omega) hm)
end Go.Ck
namespace Go.Ck
/-- A word, built from the top. -/
def topB (c w s : Nat) (q : List Nat) (i : Nat) : Nat := s * 2 ^ 60 + hornB w (q.take i) * 2 ^ (60 - i * w)
theorem topB_step {w s i : Nat} {q : List Nat} (h : i < q.length) (hi : (i + 1) * w ≤ 60) : topB 0 w s q (i + 1) = topB 0 w s q i + q[i] * 2 ^ (60 - (i + 1) * w) := by
  unfold topB
  have hti : q.take (i + 1) = q.take i ++ [q[i]] := by simp
  rw [hti, hornB_snoc, Nat.add_mul, Nat.add_assoc, Nat.mul_assoc, ← Nat.pow_add]
  rw [show w + (60 - (i + 1) * w) = 60 - i * w by rw [Nat.succ_mul] at hi ⊢; omega]
theorem topB_or {w s i : Nat} {q : List Nat} (h : i < q.length) (hi : (i + 1) * w ≤ 60) (hs : s < 16) (hx : ∀ x ∈ q, x < 2 ^ w) :
    ibits .or .u64 ((topB 0 w s q i : Nat) : Int) ((q[i] * 2 ^ (60 - (i + 1) * w) : Nat) : Int) = ((topB 0 w s q (i + 1) : Nat) : Int) ∧ q[i] * 2 ^ (60 - (i + 1) * w) < 2 ^ 64 := by
  have hxx := hx _ (List.getElem_mem h)
  have h1 := Nat.mul_lt_mul_of_pos_right hxx (Nat.two_pow_pos (60 - (i + 1) * w))
  have hw : w + (60 - (i + 1) * w) = 60 - i * w := by rw [Nat.succ_mul] at hi ⊢; omega
  rw [← Nat.pow_add, hw] at h1
  have h60 : 2 ^ (60 - i * w) ≤ 2 ^ 60 := Nat.pow_le_pow_right (by omega) (by omega)
  have e : topB 0 w s q i = (s * 2 ^ (i * w) + hornB w (q.take i)) * 2 ^ (60 - i * w) := by
    unfold topB
    rw [Nat.add_mul, Nat.mul_assoc s, ← Nat.pow_add, show i * w + (60 - i * w) = 60 by rw [Nat.succ_mul] at hi; omega]
  have hhl : hornB w (q.take i) < 2 ^ (i * w) := by
    have := hornB_lt (w := w) (l := q.take i) (fun x hx' => hx x (List.mem_of_mem_take hx'))
    rwa [List.length_take, Nat.min_eq_left (by omega)] at this
  have h2 := Nat.mul_le_mul_right (2 ^ (60 - i * w)) (show hornB w (q.take i) + 1 ≤ 2 ^ (i * w) by omega)
  rw [← Nat.pow_add, show i * w + (60 - i * w) = 60 by rw [Nat.succ_mul] at hi; omega, Nat.add_mul, Nat.one_mul] at h2
  have hs2 : s * 2 ^ 60 ≤ 15 * 2 ^ 60 := Nat.mul_le_mul_right _ (by omega)
  have ht : topB 0 w s q i = s * 2 ^ 60 + hornB w (q.take i) * 2 ^ (60 - i * w) := rfl
  refine ⟨?_, by omega⟩
  rw [topB_step h hi, e]
  rw [e] at ht
  exact or_add h1 (by omega)
theorem topB_zero (w s : Nat) (q : List Nat) : topB 0 w s q 0 = s * 2 ^ 60 := by simp [topB, hornB]
theorem blen_gt {x w : Nat} : decide (w < blen x) = !decide (x < 2 ^ w) := by
  have := blen_le (v := x) (n := w)
  by_cases h : x < 2 ^ w
  · rw [decide_eq_true h, decide_eq_false (by have := this.2 h; omega)]; rfl
  · rw [decide_eq_false h, decide_eq_true (by have := mt this.1 h; omega)]; rfl
end Go.Ck
namespace Go.Ck
theorem mask_low {a w : Nat} (ha : a < 2 ^ 64) (hw : w ≤ 60) : shlI .u64 1 (w : Int) = ((2 ^ w : Nat) : Int) ∧ IntKind.u64.wrap (((2 ^ w : Nat) : Int) - 1) = ((2 ^ w - 1 : Nat) : Int) ∧ ibits .and .u64 (a : Int) ((2 ^ w - 1 : Nat) : Int) = ((a % 2 ^ w : Nat) : Int) := by
  have h1 : 2 ^ w ≤ 2 ^ 60 := Nat.pow_le_pow_right (by omega) hw
  have h0 := Nat.two_pow_pos w
  refine ⟨?_, ?_, ?_⟩
  · have := shl_add (a := 1) (w := w) (by omega) (by omega)
    rw [Nat.one_mul] at this
    exact this
  · rw [show ((2 ^ w : Nat) : Int) - 1 = ((2 ^ w - 1 : Nat) : Int) by omega]; exact wrap_u64_lt (by omega)
  · rw [ibits_and64 ha (by omega), Nat.and_two_pow_sub_one_eq_mod]
theorem rdS_inv (n : Nat) : ∀ (k : Nat) (acc l : List Nat), l.length ≤ k → (∀ x ∈ acc, x < 2 ^ 60) → (∀ x ∈ l, x < 256) → ∀ x ∈ (rdS n acc l).1, x < 2 ^ 60 := by
  intro k
  induction k with
  | zero =>
    intro acc l hk ha hl
    by_cases h : acc.length < n
    · rw [rdS_short h (by omega)]; simp
    · rw [rdS_end h]; exact ha
  | succ k ih =>
    intro acc l hk ha hl
    by_cases h : acc.length < n
    · by_cases h8 : l.length < 8
      · rw [rdS_short h h8]; simp
      · rw [rdS_step h h8]
        refine ih _ _ (by rw [List.length_drop]; omega) ?_ (fun x hx => hl x (List.mem_of_mem_drop hx))
        intro x hx
        rcases List.mem_append.1 hx with hx | hx
        · exact ha x hx
        · exact unS_lt (be8_lt l hl) x hx
    · rw [rdS_end h]; exact ha
end Go.Ck
namespace Go.Ck
theorem top4 {v w m : Nat} (h1 : w ≤ m) (h2 : m ≤ 60) : v * 2 ^ 4 % 2 ^ 64 / 2 ^ (64 - m) % 2 ^ w = v / 2 ^ (60 - m) % 2 ^ w := by
  have e1 : v * 2 ^ 4 % 2 ^ 64 = v % 2 ^ 60 * 2 ^ 4 := by omega
  have e2 : 2 ^ (64 - m) = 2 ^ 4 * 2 ^ (60 - m) := by rw [← Nat.pow_add]; congr 1; omega
  rw [e1, e2, ← Nat.div_div_eq_div_mul, Nat.mul_div_cancel _ (by omega)]
  have e3 : 2 ^ 60 = 2 ^ (60 - m) * 2 ^ m := by rw [← Nat.pow_add]; congr 1; omega
  rw [e3, Nat.mod_mul_right_div_self]
  exact Nat.mod_mod_of_dvd _ (Nat.pow_dvd_pow 2 h1)
end Go.Ck

set_option linter.unusedVariables false
set_option maxRecDepth 10000
set_option maxHeartbeats 1000000
namespace Go.Ck
open Go.Proofs
theorem fits60_fn (l : List Nat) (s : Nat) (hs : s < 16) (hl : l.length ≤ 65536) (hx : ∀ x ∈ l, x < 2 ^ 64) : Fn Tryz.prog 125 [] [.pv (.sl 1 (u64s l)), .pv (.int .i64 s)] (fun rs H' => rs = [.pv (.bool (fitS l s))] ∧ H' = []) := by
  refine Fn.of_body (fn := Tryz.f125) (n := 31) (res := [.tmp 4]) (by kernel_rfl) rfl rfl rfl rfl rfl (fun C => ?_)
  have hr : room = 140737488355328 := rfl
  obtain ⟨c1, c2, c3, c4⟩ := cw s hs
  refine AW.go ?_
  refine AW.callE (fun _ => 0) (room_fn s hs) (.pv _ .nil) ?_
  have hbig : ∀ x, x ∈ l.take (cn s) → ¬ x < 2 ^ wn s → fitS l s = false := fun x => fitS_big
  have hall := fitS_all (l := l) (s := s)
  have hsh := fitS_short (l := l) (s := s)
  generalize fitS l s = bb at *
  generalize cn s = c at *
  generalize wn s = w at *
  refine AW.go ?_
  refine AW.cond rfl (fun hc => ?_) (fun hc => ?_)
  · have h : ¬ c ≤ l.length := by simp at hc; omega
    rw [hsh h]
    refine AW.go ?_
    refine AW.finE (.pv _ .nil) rfl
  have h : c ≤ l.length := by simp at hc; omega
  have htl : (l.take c).length = c := by simp; omega
  refine AW.go ?_ (by simp only [go_sem, ↓reduceIte, h] <;> rfl)
  refine AW.loopS (fun i : Nat => ⟨31, [(22, .pv (.int .i64 i)), (21, .pv (.int .i64 c)), (20, .pv (.sl 1 (u64s (l.take c)))), (6, .pv (.int .i64 w))], []⟩) (fun i => i ≤ c ∧ ∀ x ∈ (l.take c).take i, x < 2 ^ w) (fun i => c - i) [22, 21, 20, 6] [] 0 ⟨Nat.zero_le _, by simp⟩ ?_ (by simp only [go_sem, ↓reduceIte]) (by simp only [go_sem, ↓reduceIte, htl] <;> rfl)
  have hm : ∀ x ∈ l.take c, x < 2 ^ 64 := fun x h => hx x (List.mem_of_mem_take h)
  generalize l.take c = q at *
  rintro i ⟨hi, hz⟩ K hK
  refine AW.go ?_
  refine AW.cond rfl (fun hc2 => ?_) (fun hc2 => ?_)
  · have hlt : i < q.length := by simp at hc2; omega
    have hget := u64s_get hlt
    have hti : q.take (i + 1) = q.take i ++ [q[i]] := by simp
    have hmem := List.getElem_mem hlt
    have hxx := hm _ hmem
    generalize q[i] = x at *
    have es : shrI .u64 (x : Int) (w : Int) = ((x / 2 ^ w : Nat) : Int) := shrI_nat .u64 x w (by show w ≤ 64; omega)
    have ei : IntKind.i64.wrap ((i : Int) + 1) = ((i + 1 : Nat) : Int) := wrap_i64_succ (by omega)
    have hz0 := div_zero_iff (x := x) (w := w)
    generalize x / 2 ^ w = y at *
    refine AW.go ?_ (by simp only [go_sem, ↓reduceIte, hget, es] <;> rfl)
    refine AW.cond rfl (fun hc3 => ?_) (fun hc3 => ?_)
    · have hy : ¬ x < 2 ^ w := fun h => by have := hz0.2 h; subst this; simp at hc3
      rw [hbig _ hmem hy]
      refine AW.go ?_
      refine AW.finE (.pv _ .nil) rfl
    · have hy : x < 2 ^ w := hz0.1 (by simpa using hc3)
      refine AW.go ?_ (by simp only [go_sem, ↓reduceIte, ei] <;> rfl)
      refine AW.again hK (i + 1) ⟨by omega, ?_⟩ (by omega)
      rw [hti]
      intro z hz'
      rcases List.mem_append.1 hz' with h | h
      · exact hz z h
      · rw [List.mem_singleton.1 h]; exact hy
  · have hge : i = q.length := by simp at hc2; omega
    rw [List.take_of_length_le (by omega)] at hz
    rw [hall h hz]
    refine AW.go ?_
    refine AW.finE (.pv _ .nil) rfl

theorem pack60_fn (l : List Nat) (s : Nat) (hs : s < 16) (hl : l.length ≤ 65536) (hf : fitS l s = true) : Fn Tryz.prog 126 [] [.pv (.sl 1 (u64s l)), .pv (.int .i64 s)] (fun rs H' => rs = [.pv (.int .u64 (wordS l s : Nat))] ∧ H' = []) := by
  refine Fn.of_body (fn := Tryz.f126) (n := 39) (res := [.tmp 4]) (by kernel_rfl) rfl rfl rfl rfl rfl (fun C => ?_)
  have hr : room = 140737488355328 := rfl
  obtain ⟨c1, c2, c3, c4⟩ := cw s hs
  have hwl := wordS_lt hs hf
  unfold wordS at hwl ⊢
  obtain ⟨h, hfit⟩ := fitS_len hf
  refine AW.go ?_
  refine AW.callE (fun _ => 0) (room_fn s hs) (.pv _ .nil) ?_
  generalize cn s = c at *
  generalize wn s = w at *
  have htl : (l.take c).length = c := by simp; omega
  refine AW.go ?_ (by simp only [go_sem, ↓reduceIte, h] <;> rfl)
  refine AW.loopS (fun i : Nat => ⟨39, [(19, .pv (.int .i64 i)), (18, .pv (.int .i64 c)), (17, .pv (.sl 1 (u64s (l.take c)))), (7, .pv (.int .u64 (hornB w ((l.take c).take i) : Nat))), (6, .pv (.int .i64 w)), (5, .pv (.int .i64 c)), (1, .pv (.int .i64 s))], []⟩) (fun i => i ≤ c) (fun i => c - i) [19, 18, 17, 7, 6, 5, 1] [] 0 (Nat.zero_le _) ?_ (by simp only [go_sem, ↓reduceIte]) (by simp only [go_sem, ↓reduceIte, htl] <;> rfl)
  generalize l.take c = q at *
  rintro i hi K hK
  refine AW.go ?_
  refine AW.cond rfl (fun hc2 => ?_) (fun hc2 => ?_)
  · have hlt : i < q.length := by simp at hc2; omega
    have hget := u64s_get hlt
    have hti : q.take (i + 1) = q.take i ++ [q[i]] := by simp
    have hxx := hfit _ (List.getElem_mem hlt)
    generalize q[i] = x at *
    have hm : (i + 1) * w ≤ c * w := Nat.mul_le_mul_right _ (by omega)
    have hhl := hornB_lt2 (w := w) (m := i * w) (l := q.take i) (fun x hx => hfit x (List.mem_of_mem_take hx)) (Nat.mul_le_mul_right _ (by simp; omega))
    have hhs := hornB_snoc w (q.take i) x
    rw [← hti] at hhs
    have hh1 := hornB_lt2 (w := w) (m := 60) (l := q.take (i + 1)) (fun x hx => hfit x (List.mem_of_mem_take hx)) (Nat.le_trans (Nat.mul_le_mul_right _ (by simp; omega)) c4)
    rw [hhs] at hh1
    generalize hornB w (q.take i) = a at *
    have es := shl_add (a := a) (w := w) (by omega) (by omega)
    have eo := or_add (a := a) (b := x) (w := w) hxx (by omega)
    have ei : IntKind.i64.wrap ((i : Int) + 1) = ((i + 1 : Nat) : Int) := wrap_i64_succ (by omega)
    refine AW.go ?_ (by simp only [go_sem, ↓reduceIte, hget, es, eo, ei] <;> rfl)
    refine AW.again hK (i + 1) (by omega) (by omega) (by simp only [go_sem, ↓reduceIte]) (by simp only [go_sem, ↓reduceIte, hhs] <;> rfl)
  · have hge : i = q.length := by simp at hc2; omega
    rw [List.take_of_length_le (by omega)]
    clear hK
    generalize hornB w q = a at *
    have e1 : IntKind.u64.wrap (s : Int) = (s : Int) := wrap_u64_lt (by omega)
    have e2 : shlI .u64 (s : Int) 60 = ((s * 2 ^ 60 : Nat) : Int) := shl_add (a := s) (w := 60) (by omega) (by omega)
    have em : IntKind.i64.wrap ((c * w : Nat) : Int) = ((c * w : Nat) : Int) := wrap_i64_nat (by omega)
    have e6 : IntKind.i64.wrap (60 - ((c * w : Nat) : Int)) = ((60 - c * w : Nat) : Int) := by rw [wrap_i64_of (by omega) (by omega)]; omega
    have e7 := shl_add (a := a) (w := 60 - c * w) (by omega) (by omega)
    have eo := or_add (a := s) (b := a * 2 ^ (60 - c * w)) (w := 60) hwl.1 (by omega)
    generalize a * 2 ^ (60 - c * w) = z at *
    generalize hcw : c * w = m at *
    refine AW.go ?_ (by simp only [go_sem, ↓reduceIte, e1, e2, hcw, em, e6, e7, eo] <;> rfl)
    refine AW.finE (.pv _ .nil) rfl
end Go.Ck

set_option linter.unusedVariables false
set_option maxRecDepth 10000
set_option maxHeartbeats 1000000
namespace Go.Ck
open Go.Proofs
theorem simpleEnc_fn (xs : List Nat) (hl : xs.length ≤ 65536) (hx : ∀ x ∈ xs, x < 2 ^ 64) : Fn Tryz.prog 90 [] [.pv (.sl 1 (u64s xs))]
    (fun rs H' => rs = [.own 5 (bytes (encSW xs).1), .pv (.int .i64 (encSW xs).2)] ∧ H' = []) := by
  refine Fn.of_body (fn := Tryz.f90) (n := 47) (res := [.tmp 2, .tmp 3]) (by kernel_rfl) rfl rfl rfl rfl rfl (fun C => ?_)
  have hr : room = 140737488355328 := rfl
  have hgt : decide (65536 < xs.length) = false := decide_eq_false (by omega)
  have hgi : decide ((xs.length : Int) > 65536) = false := decide_eq_false (by omega)
  refine AW.go ?_ (by simp only [go_sem, ↓reduceIte, hgt, hgi] <;> rfl)
  refine AW.condF rfl ?_
  refine AW.go ?_
  refine AW.loopS (fun i : Nat => ⟨47, [(15, .pv (.int .i64 i)), (14, .pv (.int .i64 xs.length)), (13, .pv (.sl 1 (u64s xs))), (0, .pv (.sl 1 (u64s xs)))], []⟩) (fun i => i ≤ xs.length ∧ ∀ x ∈ xs.take i, x < 2 ^ 60) (fun i => xs.length - i) [15, 14, 13, 0] [] 0 ⟨Nat.zero_le _, by simp⟩ ?_
  rintro i ⟨hi, hz⟩ K hK
  refine AW.go ?_
  refine AW.cond rfl (fun hc => ?_) (fun hc => ?_)
  · have hlt : i < xs.length := by simpa using hc
    have hget := u64s_get hlt
    have hti : xs.take (i + 1) = xs.take i ++ [xs[i]] := by simp
    have hmem := List.getElem_mem hlt
    have hxx := hx _ hmem
    generalize xs[i] = x at *
    have es : shrI .u64 (x : Int) 60 = ((x / 2 ^ 60 : Nat) : Int) := shrI_nat .u64 x 60 (by show 60 ≤ 64; omega)
    have ei : IntKind.i64.wrap ((i : Int) + 1) = ((i + 1 : Nat) : Int) := wrap_i64_succ (by omega)
    have hz0 := div_zero_iff (x := x) (w := 60)
    generalize x / 2 ^ 60 = y at *
    refine AW.go ?_ (by simp only [go_sem, ↓reduceIte, hget, es] <;> rfl)
    refine AW.cond rfl (fun hc3 => ?_) (fun hc3 => ?_)
    · have hy : ¬ x < 2 ^ 60 := fun h => by have := hz0.2 h; subst this; simp at hc3
      have hbig : big60 xs = true := by unfold big60; rw [List.any_eq_true]; exact ⟨x, hmem, by simp; omega⟩
      unfold encSW
      rw [if_pos hbig]
      refine AW.go ?_
      refine AW.finE (.move rfl (.pv _ .nil)) rfl
    · have hy : x < 2 ^ 60 := hz0.1 (by simpa using hc3)
      refine AW.go ?_ (by simp only [go_sem, ↓reduceIte, ei] <;> rfl)
      refine AW.again hK (i + 1) ⟨by omega, ?_⟩ (by omega)
      rw [hti]
      intro z hz'
      rcases List.mem_append.1 hz' with h | h
      · exact hz z h
      · rw [List.mem_singleton.1 h]; exact hy
  have hge : ¬ i < xs.length := by simpa using hc
  rw [List.take_of_length_le (by omega)] at hz
  clear hK hc
  unfold encSW
  rw [if_neg (by rw [big60_false hz]; exact Bool.noConfusion)]
  have hel := encS_len xs.length xs (Nat.le_refl _)
  refine AW.go ?_
  refine AW.loopS (fun a : List Nat × List Nat => ⟨47, [(6, .own 5 (bytes a.1)), (0, .pv (.sl 1 (u64s a.2)))], []⟩) (fun a => a.1 ++ encS a.2 = encS xs ∧ a.2.length ≤ xs.length ∧ ∀ x ∈ a.2, x < 2 ^ 60) (fun a => a.2.length) [6, 0] [] ([], xs) ⟨by simp, Nat.le_refl _, hz⟩ ?_
  rintro ⟨out, q⟩ ⟨he, hql, hq⟩ K hK
  simp only at he hql hq
  refine AW.go ?_
  refine AW.cond rfl (fun hc => ?_) (fun hc => ?_)
  · have hne : q ≠ [] := by rintro rfl; simp at hc
    have hqn : q.length ≠ 0 := fun e => hne (List.length_eq_zero_iff.1 e)
    have hq64 : ∀ x ∈ q, x < 2 ^ 64 := fun x h => Nat.lt_trans (hq x h) (by omega)
    have holn : out.length + (encS q).length = (encS xs).length := by rw [← he]; simp
    have hlast := fitS_last hne hq
    have hfin : ∀ s, s < 16 → (∀ t, t < s → fitS q t = false) → fitS q s = true → out ++ beB (wordS q s) 8 ++ encS (q.drop (cn s)) = encS xs ∧ (out ++ beB (wordS q s) 8).length ≤ 2 ^ 30 := by
      intro s hs hno hf
      have hp := fstS_eq hs hno hf
      have h1 := encS_cons hne
      rw [hp] at h1
      refine ⟨by rw [List.append_assoc, ← h1, he], ?_⟩
      have := congrArg List.length h1
      rw [List.length_append] at this
      rw [List.length_append]
      omega
    refine AW.go ?_
    refine AW.scopeS 0 (fun s : Nat => ⟨47, [(7, .pv (.int .i64 s)), (6, .own 5 (bytes out)), (0, .pv (.sl 1 (u64s q)))], []⟩) (fun s => s < 16 ∧ ∀ t, t < s → fitS q t = false) (fun s => 16 - s) [7, 6, 0] [] rfl ?_ ?_
    · intro K2 hK2
      refine AW.go ?_
      refine AW.callE (fun _ => 0) (fits60_fn q 0 (by omega) (by omega) hq64) (.pv _ (.pv _ .nil)) ?_
      refine AW.go ?_
      refine AW.cond rfl (fun hc2 => ?_) (fun hc2 => ?_)
      · have hf : fitS q 0 = false := by simpa using hc2
        refine AW.go ?_
        refine AW.leap0 hK2 1 ⟨by omega, fun t ht => by rw [show t = 0 by omega]; exact hf⟩
      · have hf : fitS q 0 = true := by simpa using hc2
        obtain ⟨hen, hln⟩ := hfin 0 (by omega) (fun t ht => by omega) hf
        obtain ⟨c1, c2, c3, c4⟩ := cw 0 (by omega)
        have hcl := (fitS_len hf).1
        have hwl := (wordS_lt (by omega) hf).2
        refine AW.go ?_
        refine AW.callE (fun _ => 0) (pack60_fn q 0 (by omega) (by omega) hf) (.pv _ (.pv _ .nil)) ?_
        refine AW.go ?_
        refine AW.callE (fun _ => 0) (fix_fn (wordS q 0) 8 hwl (by omega)) (.pv _ (.pv _ .nil)) ?_
        have h2 : out.length + (beB (wordS q 0) 8).length ≤ room := by rw [← List.length_append]; omega
        refine AW.go ?_ (by simp only [go_sem, ↓reduceIte, h2] <;> rfl)
        refine AW.callE (fun _ => 0) (room_fn 0 (by omega)) (.pv _ .nil) ?_
        have e : (((q.length : Int) - (cn 0 : Nat)).toNat) = q.length - cn 0 := by omega
        have e2 : (u64s (q.drop (cn 0))).take (q.length - cn 0) = u64s (q.drop (cn 0)) := List.take_of_length_le (by simp [u64s])
        generalize cn 0 = c at *
        refine AW.go ?_ (by simp only [go_sem, ↓reduceIte, hcl, e]; rw [← u64s_take, e2] <;> rfl)
        refine AW.again hK (out ++ beB (wordS q 0) 8, q.drop c) ⟨hen, by simp only [List.length_drop]; omega, fun x hx' => hq x (List.mem_of_mem_drop hx')⟩ (by simp only [List.length_drop]; omega)
    · rintro s ⟨hs, hno⟩ K2 hK2
      refine AW.go ?_
      refine AW.callE (fun _ => 0) (fits60_fn q s hs (by omega) hq64) (.pv _ (.pv _ .nil)) ?_
      refine AW.go ?_
      refine AW.cond rfl (fun hc2 => ?_) (fun hc2 => ?_)
      · have hf : fitS q s = false := by simpa using hc2
        have hs15 : s ≠ 15 := by rintro rfl; rw [hlast] at hf; cases hf
        have ei : IntKind.i64.wrap ((s : Int) + 1) = ((s + 1 : Nat) : Int) := wrap_i64_succ (by omega)
        refine AW.go ?_ (by simp only [go_sem, ↓reduceIte, ei] <;> rfl)
        refine AW.leap hK2 (s + 1) ⟨by omega, fun t ht => ?_⟩ (by omega)
        rcases Nat.lt_or_ge t s with h | h
        · exact hno t h
        · rw [show t = s by omega]; exact hf
      · have hf : fitS q s = true := by simpa using hc2
        obtain ⟨hen, hln⟩ := hfin s hs hno hf
        obtain ⟨c1, c2, c3, c4⟩ := cw s hs
        have hcl := (fitS_len hf).1
        have hwl := (wordS_lt hs hf).2
        refine AW.go ?_
        refine AW.callE (fun _ => 0) (pack60_fn q s hs (by omega) hf) (.pv _ (.pv _ .nil)) ?_
        refine AW.go ?_
        refine AW.callE (fun _ => 0) (fix_fn (wordS q s) 8 hwl (by omega)) (.pv _ (.pv _ .nil)) ?_
        have h2 : out.length + (beB (wordS q s) 8).length ≤ room := by rw [← List.length_append]; omega
        refine AW.go ?_ (by simp only [go_sem, ↓reduceIte, h2] <;> rfl)
        refine AW.callE (fun _ => 0) (room_fn s hs) (.pv _ .nil) ?_
        have e : (((q.length : Int) - (cn s : Nat)).toNat) = q.length - cn s := by omega
        have e2 : (u64s (q.drop (cn s))).take (q.length - cn s) = u64s (q.drop (cn s)) := List.take_of_length_le (by simp [u64s])
        generalize cn s = c at *
        refine AW.go ?_ (by simp only [go_sem, ↓reduceIte, hcl, e]; rw [← u64s_take, e2] <;> rfl)
        refine AW.again hK (out ++ beB (wordS q s) 8, q.drop c) ⟨hen, by simp only [List.length_drop]; omega, fun x hx' => hq x (List.mem_of_mem_drop hx')⟩ (by simp only [List.length_drop]; omega)
  · have hqe : q = [] := by
      cases q with
      | nil => rfl
      | cons a r => simp at hc
    subst hqe
    rw [encS_nil, List.append_nil] at he
    rw [he]
    refine AW.go ?_
    refine AW.finE (.move rfl (.pv _ .nil)) rfl
end Go.Ck

set_option linter.unusedVariables false
set_option maxRecDepth 10000
set_option maxHeartbeats 1000000
namespace Go.Ck
open Go.Proofs
theorem refFits60_fn (l : List Nat) (s : Nat) (hs : s < 16) (hl : l.length ≤ 65536) (hx : ∀ x ∈ l, x < 2 ^ 64) : Fn Tryz.prog 131 [] [.pv (.sl 1 (u64s l)), .pv (.int .i64 s)] (fun rs H' => rs = [.pv (.bool (fitS l s))] ∧ H' = []) := by
  refine Fn.of_body (fn := Tryz.f131) (n := 29) (res := [.tmp 4]) (by kernel_rfl) rfl rfl rfl rfl rfl (fun C => ?_)
  have hr : room = 140737488355328 := rfl
  obtain ⟨c1, c2, c3, c4⟩ := cw s hs
  refine AW.go ?_
  refine AW.callE (fun _ => 0) (refRoom_fn s hs) (.pv _ .nil) ?_
  have hbig : ∀ x, x ∈ l.take (cn s) → ¬ x < 2 ^ wn s → fitS l s = false := fun x => fitS_big
  have hall := fitS_all (l := l) (s := s)
  have hsh := fitS_short (l := l) (s := s)
  generalize fitS l s = bb at *
  generalize cn s = c at *
  generalize wn s = w at *
  refine AW.go ?_
  refine AW.cond rfl (fun hc => ?_) (fun hc => ?_)
  · have h : ¬ c ≤ l.length := by simp at hc; omega
    rw [hsh h]
    refine AW.go ?_
    refine AW.finE (.pv _ .nil) rfl
  have h : c ≤ l.length := by simp at hc; omega
  refine AW.go ?_
  refine AW.loopS (fun i : Nat => ⟨29, [(7, .pv (.int .i64 i)), (0, .pv (.sl 1 (u64s l))), (5, .pv (.int .i64 c)), (6, .pv (.int .i64 w))], []⟩) (fun i => i ≤ c ∧ ∀ x ∈ l.take i, x < 2 ^ w) (fun i => c - i) [7, 0, 5, 6] [] 0 ⟨Nat.zero_le _, by simp⟩ ?_
  rintro i ⟨hi, hz⟩ K hK
  refine AW.go ?_
  refine AW.cond rfl (fun hc2 => ?_) (fun hc2 => ?_)
  · have hic : i < c := by simpa using hc2
    have hlt : i < l.length := by omega
    have hget := u64s_get hlt
    have hti : l.take (i + 1) = l.take i ++ [l[i]] := by simp
    have hmem : l[i] ∈ l.take c := by rw [List.mem_take_iff_getElem]; exact ⟨i, by omega, rfl⟩
    have hxx := hx _ (List.getElem_mem hlt)
    generalize l[i] = x at *
    have ei : IntKind.i64.wrap ((i : Int) + 1) = ((i + 1 : Nat) : Int) := wrap_i64_succ (by omega)
    have hb := blen_gt (x := x) (w := w)
    refine AW.go ?_ (by simp only [go_sem, ↓reduceIte, hget, hlt] <;> rfl)
    refine AW.callE (fun _ => 0) (refWidth_fn x hxx) (.pv _ .nil) ?_
    refine AW.go ?_
    refine AW.cond rfl (fun hc3 => ?_) (fun hc3 => ?_)
    · have hy : ¬ x < 2 ^ w := by
        have : decide (w < blen x) = true := by simpa using hc3
        rw [hb] at this
        simpa using this
      rw [hbig _ hmem hy]
      refine AW.go ?_
      refine AW.finE (.pv _ .nil) rfl
    · have hy : x < 2 ^ w := by
        have : decide (w < blen x) = false := by simpa using hc3
        rw [hb] at this
        simpa using this
      refine AW.go ?_ (by simp only [go_sem, ↓reduceIte, ei] <;> rfl)
      refine AW.again hK (i + 1) ⟨by omega, ?_⟩ (by omega)
      rw [hti]
      intro z hz'
      rcases List.mem_append.1 hz' with h | h
      · exact hz z h
      · rw [List.mem_singleton.1 h]; exact hy
  · have hge : i = c := by simp at hc2; omega
    subst hge
    rw [hall h hz]
    refine AW.go ?_
    refine AW.finE (.pv _ .nil) rfl

theorem refSimpleEnc_fn (xs : List Nat) (hl : xs.length ≤ 65536) (hx : ∀ x ∈ xs, x < 2 ^ 64) : Fn Tryz.prog 97 [] [.pv (.sl 1 (u64s xs))]
    (fun rs H' => rs = [.own 5 (bytes (encSW xs).1), .pv (.int .i64 (encSW xs).2)] ∧ H' = []) := by
  refine Fn.of_body (fn := Tryz.f97) (n := 69) (res := [.tmp 2, .tmp 3]) (by kernel_rfl) rfl rfl rfl rfl rfl (fun C => ?_)
  have hr : room = 140737488355328 := rfl
  have hgt : decide (65536 < xs.length) = false := decide_eq_false (by omega)
  have hgi : decide ((xs.length : Int) > 65536) = false := decide_eq_false (by omega)
  refine AW.go ?_ (by simp only [go_sem, ↓reduceIte, hgt, hgi] <;> rfl)
  refine AW.condF rfl ?_
  refine AW.go ?_
  refine AW.loopS (fun i : Nat => ⟨69, [(4, .pv (.int .i64 i)), (0, .pv (.sl 1 (u64s xs)))], []⟩) (fun i => i ≤ xs.length ∧ ∀ x ∈ xs.take i, x < 2 ^ 60) (fun i => xs.length - i) [4, 0] [] 0 ⟨Nat.zero_le _, by simp⟩ ?_
  rintro i ⟨hi, hz⟩ K hK
  refine AW.go ?_
  refine AW.cond rfl (fun hc => ?_) (fun hc => ?_)
  · have hlt : i < xs.length := by simpa using hc
    have hget := u64s_get hlt
    have hti : xs.take (i + 1) = xs.take i ++ [xs[i]] := by simp
    have hmem := List.getElem_mem hlt
    have hxx := hx _ hmem
    generalize xs[i] = x at *
    have ei : IntKind.i64.wrap ((i : Int) + 1) = ((i + 1 : Nat) : Int) := wrap_i64_succ (by omega)
    have hb := blen_gt (x := x) (w := 60)
    refine AW.go ?_ (by simp only [go_sem, ↓reduceIte, hget] <;> rfl)
    refine AW.callE (fun _ => 0) (refWidth_fn x hxx) (.pv _ .nil) ?_
    generalize blen x = bl at *
    refine AW.go ?_
    refine AW.cond rfl (fun hc3 => ?_) (fun hc3 => ?_)
    · have hy : ¬ x < 2 ^ 60 := by
        have : decide (60 < bl) = true := decide_eq_true (by simp at hc3; omega)
        rw [hb] at this
        simpa using this
      have hbig : big60 xs = true := by unfold big60; rw [List.any_eq_true]; exact ⟨x, hmem, by simp; omega⟩
      unfold encSW
      rw [if_pos hbig]
      refine AW.go ?_
      refine AW.finE (.move rfl (.pv _ .nil)) rfl
    · have hy : x < 2 ^ 60 := by
        have : decide (60 < bl) = false := decide_eq_false (by simp at hc3; omega)
        rw [hb] at this
        simpa using this
      refine AW.go ?_ (by simp only [go_sem, ↓reduceIte, ei] <;> rfl)
      refine AW.again hK (i + 1) ⟨by omega, ?_⟩ (by omega)
      rw [hti]
      intro z hz'
      rcases List.mem_append.1 hz' with h | h
      · exact hz z h
      · rw [List.mem_singleton.1 h]; exact hy
  have hge : ¬ i < xs.length := by simpa using hc
  rw [List.take_of_length_le (by omega)] at hz
  clear hK hc
  unfold encSW
  rw [if_neg (by rw [big60_false hz]; exact Bool.noConfusion)]
  have hel := encS_len xs.length xs (Nat.le_refl _)
  refine AW.go ?_
  refine AW.loopS (fun a : List Nat × List Nat => ⟨69, [(5, .own 5 (bytes a.1)), (0, .pv (.sl 1 (u64s a.2)))], []⟩) (fun a => a.1 ++ encS a.2 = encS xs ∧ a.2.length ≤ xs.length ∧ ∀ x ∈ a.2, x < 2 ^ 60) (fun a => a.2.length) [5, 0] [] ([], xs) ⟨by simp, Nat.le_refl _, hz⟩ ?_
  rintro ⟨out, q⟩ ⟨he, hql, hq⟩ K hK
  simp only at he hql hq
  refine AW.go ?_
  refine AW.cond rfl (fun hc => ?_) (fun hc => ?_)
  · have hne : q ≠ [] := by rintro rfl; simp at hc
    have hqn : q.length ≠ 0 := fun e => hne (List.length_eq_zero_iff.1 e)
    have hq64 : ∀ x ∈ q, x < 2 ^ 64 := fun x h => Nat.lt_trans (hq x h) (by omega)
    have holn : out.length + (encS q).length = (encS xs).length := by rw [← he]; simp
    have hlast := fitS_last hne hq
    refine AW.go ?_
    refine AW.loopS (fun s : Nat => ⟨69, [(6, .pv (.int .i64 s)), (5, .own 5 (bytes out)), (0, .pv (.sl 1 (u64s q)))], []⟩) (fun s => s < 16 ∧ ∀ t, t < s → fitS q t = false) (fun s => 16 - s) [6, 5, 0] [] 0 ⟨by omega, fun t ht => by omega⟩ ?_
    rintro s ⟨hs, hno⟩ K2 hK2
    refine AW.go ?_
    refine AW.callE (fun _ => 0) (refFits60_fn q s hs (by omega) hq64) (.pv _ (.pv _ .nil)) ?_
    refine AW.go ?_
    refine AW.cond rfl (fun hc2 => ?_) (fun hc2 => ?_)
    · have hf : fitS q s = false := by simpa using hc2
      have hs15 : s ≠ 15 := by rintro rfl; rw [hlast] at hf; cases hf
      have ei : IntKind.i64.wrap ((s : Int) + 1) = ((s + 1 : Nat) : Int) := wrap_i64_succ (by omega)
      refine AW.go ?_ (by simp only [go_sem, ↓reduceIte, ei] <;> rfl)
      refine AW.again hK2 (s + 1) ⟨by omega, fun t ht => ?_⟩ (by omega)
      rcases Nat.lt_or_ge t s with h | h
      · exact hno t h
      · rw [show t = s by omega]; exact hf
    have hf : fitS q s = true := by simpa using hc2
    clear hK2
    have hp := fstS_eq hs hno hf
    have h1 := encS_cons hne
    rw [hp] at h1
    have hen : out ++ beB (wordS q s) 8 ++ encS (q.drop (cn s)) = encS xs := by rw [List.append_assoc, ← h1, he]
    have hln : (out ++ beB (wordS q s) 8).length ≤ 2 ^ 30 := by
      have := congrArg List.length h1
      rw [List.length_append] at this
      rw [List.length_append]
      omega
    obtain ⟨c1, c2, c3, c4⟩ := cw s hs
    obtain ⟨hcl, hfit⟩ := fitS_len hf
    have hwl := (wordS_lt hs hf).2
    have e1 : IntKind.u64.wrap (s : Int) = (s : Int) := wrap_u64_lt (by omega)
    have e2 : shlI .u64 (s : Int) 60 = ((s * 2 ^ 60 : Nat) : Int) := shl_add (a := s) (w := 60) (by omega) (by omega)
    have hwd : wordS q s = topB 0 (wn s) s (q.take (cn s)) (cn s) := by
      unfold wordS topB
      rw [List.take_take, Nat.min_self]
    have h2 : out.length + (beB (wordS q s) 8).length ≤ room := by rw [← List.length_append]; omega
    rw [hwd] at hen hln hwl h2
    have htl : (q.take (cn s)).length = cn s := by simp; omega
    have htg : ∀ j, j < cn s → (q.take (cn s))[j]? = q[j]? := fun j h => List.getElem?_take_of_lt h
    have ht0 := topB_zero (wn s) s (q.take (cn s))
    generalize hqt : q.take (cn s) = qt at *
    refine AW.go ?_
    refine AW.callE (fun _ => 0) (refRoom_fn s hs) (.pv _ .nil) ?_
    generalize cn s = c at *
    generalize wn s = w at *
    refine AW.go ?_ (by simp only [go_sem, ↓reduceIte, e1, e2, ← ht0] <;> rfl)
    refine AW.loopS (fun j : Nat => ⟨69, [(10, .pv (.int .i64 j)), (9, .pv (.int .u64 (topB 0 w s qt j : Nat))), (8, .pv (.int .i64 w)), (7, .pv (.int .i64 c)), (5, .own 5 (bytes out)), (0, .pv (.sl 1 (u64s q)))], []⟩) (fun j => j ≤ c) (fun j => c - j) [10, 9, 8, 7, 5, 0] [] 0 (Nat.zero_le _) ?_
    rintro j hj K3 hK3
    refine AW.go ?_
    refine AW.cond rfl (fun hc3 => ?_) (fun hc3 => ?_)
    · have hjc : j < c := by simpa using hc3
      have hjq : j < q.length := by omega
      have hm : (j + 1) * w ≤ c * w := Nat.mul_le_mul_right _ hjc
      obtain ⟨t1, t2⟩ := topB_or (w := w) (s := s) (i := j) (q := qt) (by omega) (by omega) hs hfit
      have hqj : qt[j]'(by omega) = q[j] := by
        have := htg j hjc
        rw [List.getElem?_eq_getElem (by omega), List.getElem?_eq_getElem hjq] at this
        exact Option.some.inj this
      rw [hqj] at t1 t2
      have hget := u64s_get hjq
      generalize q[j] = x at *
      have ei : IntKind.i64.wrap ((j : Int) + 1) = ((j + 1 : Nat) : Int) := wrap_i64_succ (by omega)
      have em : IntKind.i64.wrap (((j + 1) * w : Nat) : Int) = (((j + 1) * w : Nat) : Int) := wrap_i64_nat (by omega)
      have e6 : IntKind.u64.wrap (IntKind.i64.wrap (60 - (((j + 1) * w : Nat) : Int))) = ((60 - (j + 1) * w : Nat) : Int) := by
        rw [wrap_i64_of (by omega) (by omega), show (60 : Int) - (((j + 1) * w : Nat) : Int) = ((60 - (j + 1) * w : Nat) : Int) by omega]; exact wrap_u64_lt (by omega)
      have e7 := shl_add (a := x) (w := 60 - (j + 1) * w) (by omega) t2
      refine AW.go ?_ (by simp only [go_sem, ↓reduceIte, hget, hjq, ei, em, e6, e7, t1] <;> rfl)
      refine AW.again hK3 (j + 1) hjc (by omega)
    · have hjc : j = c := by simp at hc3; omega
      subst hjc
      refine AW.go ?_
      refine AW.callE (fun _ => 0) (refFix_fn (topB 0 w s qt j) 8 hwl (by omega)) (.pv _ (.pv _ .nil)) ?_
      have e : (((q.length : Int) - (j : Nat)).toNat) = q.length - j := by omega
      have e2 : (u64s (q.drop j)).take (q.length - j) = u64s (q.drop j) := List.take_of_length_le (by simp [u64s])
      refine AW.go ?_ (by simp only [go_sem, ↓reduceIte, h2, hcl, e]; rw [← u64s_take, e2] <;> rfl)
      refine AW.again hK (out ++ beB (topB 0 w s qt j) 8, q.drop j) ⟨hen, by simp only [List.length_drop]; omega, fun x hx' => hq x (List.mem_of_mem_drop hx')⟩ (by simp only [List.length_drop]; omega)
  · have hqe : q = [] := by
      cases q with
      | nil => rfl
      | cons a r => simp at hc
    subst hqe
    rw [encS_nil, List.append_nil] at he
    rw [he]
    refine AW.go ?_
    refine AW.finE (.move rfl (.pv _ .nil)) rfl
end Go.Ck

set_option linter.unusedVariables false
set_option maxRecDepth 10000
set_option maxHeartbeats 1000000
namespace Go.Ck
open Go.Proofs
theorem unpack60_fn (v : Nat) (hv : v < 2 ^ 64) : Fn Tryz.prog 133 [] [.pv (.int .u64 v)] (fun rs H' => rs = [.own 39 (u64s (unS v))] ∧ H' = []) := by
  refine Fn.of_body (fn := Tryz.f133) (n := 34) (res := [.tmp 2]) (by kernel_rfl) rfl rfl rfl rfl rfl (fun C => ?_)
  have hr : room = 140737488355328 := rfl
  have hs : v / 2 ^ 60 < 16 := by omega
  obtain ⟨c1, c2, c3, c4⟩ := cw _ hs
  have e1 : IntKind.i64.wrap (shrI .u64 (v : Int) 60) = ((v / 2 ^ 60 : Nat) : Int) := by
    have : shrI .u64 (v : Int) 60 = ((v / 2 ^ 60 : Nat) : Int) := shrI_nat .u64 v 60 (by show 60 ≤ 64; omega)
    rw [this]; exact wrap_i64_nat (by omega)
  refine AW.go ?_ (by simp only [go_sem, ↓reduceIte, e1] <;> rfl)
  refine AW.callE (fun _ => 0) (room_fn _ hs) (.pv _ .nil) ?_
  have hvs := valsS_succ v
  have hvl := valsS_len v
  unfold unS
  generalize valsS v = f at *
  generalize cn (v / 2 ^ 60) = c at *
  generalize wn (v / 2 ^ 60) = w at *
  refine AW.go ?_
  refine AW.loopS (fun i : Nat => ⟨34, [(15, .pv (.int .i64 i)), (14, .pv (.int .i64 c)), (5, .own 39 (u64s (f i))), (4, .pv (.int .i64 w)), (0, .pv (.int .u64 v))], []⟩) (fun i => i ≤ c) (fun i => c - i) [15, 14, 5, 4, 0] [] 0 (Nat.zero_le _) ?_ (by simp only [go_sem, ↓reduceIte]) (by simp only [go_sem, ↓reduceIte, List.length_eq_zero_iff.1 (hvl 0)] <;> rfl)
  rintro i hi K hK
  refine AW.go ?_
  refine AW.cond rfl (fun hc => ?_) (fun hc => ?_)
  · have hic : i < c := by simpa using hc
    have hm : (i + 1) * w ≤ c * w := Nat.mul_le_mul_right _ hic
    have ei : IntKind.i64.wrap ((i : Int) + 1) = ((i + 1 : Nat) : Int) := wrap_i64_succ (by omega)
    have em : IntKind.i64.wrap (((i + 1) * w : Nat) : Int) = (((i + 1) * w : Nat) : Int) := wrap_i64_nat (by omega)
    have e6 : IntKind.i64.wrap (60 - (((i + 1) * w : Nat) : Int)) = ((60 - (i + 1) * w : Nat) : Int) := by rw [wrap_i64_of (by omega) (by omega)]; omega
    have es : shrI .u64 (v : Int) ((60 - (i + 1) * w : Nat) : Int) = ((v / 2 ^ (60 - (i + 1) * w) : Nat) : Int) := shrI_nat .u64 v _ (by show 60 - (i + 1) * w ≤ 64; omega)
    have hsn := hvs i
    have hlt : v / 2 ^ (60 - (i + 1) * w) < 2 ^ 64 := Nat.lt_of_le_of_lt (Nat.div_le_self _ _) hv
    obtain ⟨m1, m2, m3⟩ := mask_low (w := w) hlt c3
    generalize v / 2 ^ (60 - (i + 1) * w) = y at *
    generalize y % 2 ^ w = z at *
    generalize hp1 : 2 ^ w - 1 = p1 at *
    generalize 2 ^ w = p at *
    have hfl := hvl i
    have h1 : (i + 1) * 8 ≤ room := by omega
    have h2 : i + 1 ≤ room := by omega
    refine AW.go ?_
    refine AW.any0 mixed ?_
    refine AW.takes (fuel := 3) [0, 1, 2, 4, 8, 3, 9, 5, 10, 6, 7, 11] ?_ (by simp only [go_sem, ↓reduceIte, ei, em, e6, es, m1, m2, m3] <;> rfl) Ends.noPanic (listed' := #[true, true, true, true, true, true, true, true, true, true, true, true, false, false, false]) (by decide +kernel) (by decide +kernel)
    refine AW.seqs (fuel := 0) (listed' := #[true, true, true, true, true, true, true, true, true, true, true, true, true, true, true]) [12, 13, 14] ?_ (by decide +kernel)
    refine AW.go ?_ (by simp only [go_sem, ↓reduceIte, hfl, u64s_one, h1, h2, ← hsn] <;> rfl)
    refine AW.anyDone (by decide +kernel) ?_
    refine AW.go ?_ (by simp only [go_sem, ↓reduceIte, ei] <;> rfl)
    refine AW.again hK (i + 1) hic (by omega)
  · have hic : i = c := by simp at hc; omega
    subst hic
    refine AW.go ?_
    refine AW.finE (.move rfl .nil) rfl

theorem written_fn (l acc : List Nat) (ha : acc.length ≤ 65536) (hx : ∀ x ∈ acc, x < 2 ^ 60) (hb : ∀ x ∈ l, x < 256) : Fn Tryz.prog 134 [] [.pv (.sl 1 (bytes l)), .pv (.sl 1 (u64s acc))] (fun rs H' => rs = [.pv (.bool (decide (encS acc = l)))] ∧ H' = []) := by
  refine Fn.of_body (fn := Tryz.f134) (n := 21) (res := [.tmp 4]) (by kernel_rfl) rfl rfl rfl rfl rfl (fun C => ?_)
  have he : encSW acc = (encS acc, 0) := by unfold encSW; rw [if_neg (by rw [big60_false hx]; exact Bool.noConfusion)]
  have hE := simpleEnc_fn acc ha (fun x h => Nat.lt_trans (hx x h) (by omega))
  rw [he] at hE
  have e := ofNums_eq (encS_byte acc.length acc (Nat.le_refl _)) hb
  refine AW.go ?_
  refine AW.callE (fun _ => 0) hE (.pv _ .nil) ?_
  refine AW.gg ?_ (by simp only [go_sem, ↓reduceIte, numsOf_bytes, e] <;> rfl)
  refine AW.finE (.pv _ .nil) rfl

theorem simpleDec_fn (l : List Nat) (n : Nat) (hn : n ≤ 65536) (hl : l.length ≤ 2 ^ 40) (hb : ∀ x ∈ l, x < 256) : Fn Tryz.prog 108 [] [.pv (.sl 1 (bytes l)), .pv (.int .i64 n)]
    (fun rs H' => rs = [.own 39 (u64s (decS l n).1), .pv (.int .i64 (decS l n).2)] ∧ H' = []) := by
  refine Fn.of_body (fn := Tryz.f108) (n := 49) (res := [.tmp 4, .tmp 5]) (by kernel_rfl) rfl rfl rfl rfl rfl (fun C => ?_)
  have hr : room = 140737488355328 := rfl
  refine AW.gg ?_
  refine AW.condF (by simp only [go_sem, ↓reduceIte]; congr 3; simp; omega) ?_
  refine AW.go ?_
  refine AW.callE (fun o => if o = 7 then 17 else 0) (curNew_fn l (by omega)) (.pv _ .nil) ?_
  refine AW.go ?_
  unfold decS
  refine AW.loopS (fun a : List Nat × List Nat => ⟨49, [(7, .own 39 (u64s a.1)), (6, .ptr 17 0), (1, .pv (.int .i64 n)), (0, .pv (.sl 1 (bytes l)))], [(17, .cells 81 [.pv (.sl 1 (bytes a.2))])]⟩) (fun a => rdS n a.1 a.2 = rdS n [] l ∧ (∀ x ∈ a.1, x < 2 ^ 60) ∧ (∀ x ∈ a.2, x < 256) ∧ a.1.length ≤ n + 240 ∧ a.2.length ≤ l.length) (fun a => a.2.length) [7, 6, 1, 0] [17] ([], l) ⟨rfl, by simp, hb, by simp, Nat.le_refl _⟩ ?_
  rintro ⟨acc, q⟩ ⟨hrd, hacc, hq, hal, hql⟩ K hK
  simp only at hrd hacc hq hal hql
  rw [← hrd] at hK ⊢
  refine AW.go ?_
  refine AW.cond rfl (fun hc => ?_) (fun hc => ?_)
  · have hlt : acc.length < n := by simpa using hc
    refine AW.go ?_
    refine AW.callE (fun _ => 17) (curFixed_fn q 8 (by omega) (by omega) hq) (.ptr rfl (.pv _ .nil)) ?_
    refine AW.go ?_
    by_cases h8 : 8 ≤ q.length
    · simp only [if_pos h8]
      have hst := rdS_step hlt (show ¬ q.length < 8 by omega)
      have hwl := be8_lt q hq
      generalize beN (q.take 8) = v at *
      have hul : (unS v).length ≤ 240 := by unfold unS; rw [valsS_len]; exact (cw _ (by omega)).2.1
      refine AW.condF rfl ?_
      refine AW.go ?_
      refine AW.callE (fun _ => 0) (unpack60_fn v hwl) (.pv _ .nil) ?_
      have h1 : (acc.length + (unS v).length) * 8 ≤ room := by omega
      have h2 : acc.length + (unS v).length ≤ room := by omega
      refine AW.go ?_ (by simp only [go_sem, ↓reduceIte, h1, h2] <;> rfl)
      refine AW.again hK (acc ++ unS v, q.drop 8) ⟨by rw [← hst], ?_, fun x hx => hq x (List.mem_of_mem_drop hx), by simp only [List.length_append]; omega, by simp only [List.length_drop]; omega⟩ (by simp only [List.length_drop]; omega)
      intro x hx
      rcases List.mem_append.1 hx with hx | hx
      · exact hacc x hx
      · exact unS_lt hwl x hx
    · simp only [if_neg h8]
      rw [rdS_short hlt (by omega)]
      refine AW.condT rfl ?_
      refine AW.go ?_
      refine AW.finE (.move rfl (.pv _ .nil)) rfl
  have hge : ¬ acc.length < n := by simpa using hc
  rw [rdS_end hge]
  simp only [ne_eq, not_true_eq_false, if_false]
  clear hK hc
  by_cases hgt : n < acc.length
  · have d1 : decide (n < acc.length) = true := decide_eq_true hgt
    rw [if_pos hgt]
    refine AW.gg ?_ (by simp only [go_sem, ↓reduceIte, d1] <;> rfl)
    refine AW.condT rfl ?_
    refine AW.go ?_
    refine AW.finE (.move rfl (.pv _ .nil)) rfl
  have d1 : decide (n < acc.length) = false := decide_eq_false hgt
  rw [if_neg hgt]
  refine AW.gg ?_ (by simp only [go_sem, ↓reduceIte, d1] <;> rfl)
  refine AW.guardT rfl rfl ?_
  refine AW.callE (fun _ => 17) (curEnd_fn q) (.ptr rfl .nil) ?_
  by_cases hqe : q = []
  · subst hqe
    simp only [not_true_eq_false, if_false, if_true]
    refine AW.gg ?_
    refine AW.guardT rfl rfl ?_
    refine AW.callE (fun _ => 0) (written_fn l acc (by omega) hacc hb) (.pv _ (.lend rfl co_39 .nil)) ?_
    by_cases hw : encS acc = l
    · rw [decide_eq_true hw, if_pos hw]
      refine AW.gg ?_
      refine AW.condF rfl ?_
      refine AW.go ?_
      refine AW.finE (.move rfl (.pv _ .nil)) rfl
    · rw [decide_eq_false hw, if_neg hw]
      refine AW.gg ?_
      refine AW.condT rfl ?_
      refine AW.go ?_
      refine AW.finE (.move rfl (.pv _ .nil)) rfl
  · simp only [if_neg hqe, hqe, not_false_eq_true, if_true]
    refine AW.gg ?_
    refine AW.condT rfl ?_
    refine AW.go ?_
    refine AW.finE (.move rfl (.pv _ .nil)) rfl

theorem refSimpleDec_fn (l : List Nat) (n : Nat) (hn : n ≤ 65536) (hl : l.length ≤ 2 ^ 40) (hb : ∀ x ∈ l, x < 256) : Fn Tryz.prog 83 [] [.pv (.sl 1 (bytes l)), .pv (.int .i64 n)]
    (fun rs H' => rs = [.own 39 (u64s (decS l n).1), .pv (.int .i64 (decS l n).2)] ∧ H' = []) := by
  refine Fn.of_body (fn := Tryz.f83) (n := 84) (res := [.tmp 4, .tmp 5]) (by kernel_rfl) rfl rfl rfl rfl rfl (fun C => ?_)
  have hr : room = 140737488355328 := rfl
  refine AW.gg ?_
  refine AW.condF (by simp only [go_sem, ↓reduceIte]; congr 3; simp; omega) ?_
  refine AW.go ?_
  unfold decS
  refine AW.loopS (fun a : List Nat × List Nat => ⟨84, [(6, .own 39 (u64s a.1)), (7, .pv (.sl 1 (bytes a.2))), (1, .pv (.int .i64 n)), (0, .pv (.sl 1 (bytes l)))], []⟩) (fun a => rdS n a.1 a.2 = rdS n [] l ∧ (∀ x ∈ a.1, x < 2 ^ 60) ∧ (∀ x ∈ a.2, x < 256) ∧ a.1.length ≤ n + 240 ∧ a.2.length ≤ l.length) (fun a => a.2.length) [6, 7, 1, 0] [] ([], l) ⟨rfl, by simp, hb, by simp, Nat.le_refl _⟩ ?_
  rintro ⟨acc, q⟩ ⟨hrd, hacc, hq, hal, hql⟩ K hK
  simp only at hrd hacc hq hal hql
  rw [← hrd] at hK ⊢
  refine AW.go ?_
  refine AW.cond rfl (fun hc => ?_) (fun hc => ?_)
  · have hlt : acc.length < n := by simpa using hc
    refine AW.go ?_
    refine AW.callE (fun _ => 0) (refFixed_fn q 8 (by omega) (by omega) hq) (.pv _ (.pv _ .nil)) ?_
    refine AW.go ?_
    by_cases h8 : 8 ≤ q.length
    · simp only [if_pos h8]
      have hst := rdS_step hlt (show ¬ q.length < 8 by omega)
      have hwl := be8_lt q hq
      generalize beN (q.take 8) = v at *
      have hul : (unS v).length ≤ 240 := by unfold unS; rw [valsS_len]; exact (cw _ (by omega)).2.1
      refine AW.condF rfl ?_
      have hs : v / 2 ^ 60 < 16 := by omega
      obtain ⟨c1, c2, c3, c4⟩ := cw _ hs
      have e1 : IntKind.i64.wrap (shrI .u64 (v : Int) 60) = ((v / 2 ^ 60 : Nat) : Int) := by
        have : shrI .u64 (v : Int) 60 = ((v / 2 ^ 60 : Nat) : Int) := shrI_nat .u64 v 60 (by show 60 ≤ 64; omega)
        rw [this]; exact wrap_i64_nat (by omega)
      refine AW.go ?_ (by simp only [go_sem, ↓reduceIte, e1] <;> rfl)
      refine AW.callE (fun _ => 0) (refRoom_fn _ hs) (.pv _ .nil) ?_
      have hvs := valsS_succ v
      have hvl := valsS_len v
      have hule := unS_lt hwl
      unfold unS at hst hul hule
      have hv0 := List.length_eq_zero_iff.1 (hvl 0)
      generalize valsS v = f at *
      generalize cn (v / 2 ^ 60) = c at *
      generalize wn (v / 2 ^ 60) = w at *
      refine AW.go ?_
      refine AW.loopS (fun i : Nat => ⟨84, [(13, .pv (.int .i64 i)), (11, .pv (.int .i64 c)), (12, .pv (.int .i64 w)), (8, .pv (.int .u64 v)), (6, .own 39 (u64s (acc ++ f i))), (7, .pv (.sl 1 (bytes (q.drop 8)))), (1, .pv (.int .i64 n)), (0, .pv (.sl 1 (bytes l)))], []⟩) (fun i => i ≤ c) (fun i => c - i) [13, 11, 12, 8, 6, 7, 1, 0] [] 0 (Nat.zero_le _) ?_ (by simp only [go_sem, ↓reduceIte]) (by simp only [go_sem, ↓reduceIte, hv0, List.append_nil] <;> rfl)
      rintro i hi K2 hK2
      refine AW.go ?_
      refine AW.cond rfl (fun hc => ?_) (fun hc => ?_)
      · have hic : i < c := by simpa using hc
        have hm : (i + 1) * w ≤ c * w := Nat.mul_le_mul_right _ hic
        have ei : IntKind.i64.wrap ((i : Int) + 1) = ((i + 1 : Nat) : Int) := wrap_i64_succ (by omega)
        have em : IntKind.i64.wrap (((i + 1) * w : Nat) : Int) = (((i + 1) * w : Nat) : Int) := wrap_i64_nat (by omega)
        have e6 : IntKind.u64.wrap (IntKind.i64.wrap (64 - (((i + 1) * w : Nat) : Int))) = ((64 - (i + 1) * w : Nat) : Int) := by
          rw [wrap_i64_of (by omega) (by omega), show (64 : Int) - (((i + 1) * w : Nat) : Int) = ((64 - (i + 1) * w : Nat) : Int) by omega]; exact wrap_u64_lt (by omega)
        have ew : IntKind.u64.wrap ((w : Nat) : Int) = (w : Nat) := wrap_u64_lt (by omega)
        have es4 : shlI .u64 (v : Int) 4 = ((v * 2 ^ 4 % 2 ^ 64 : Nat) : Int) := shlI_nat64 v 4 (by omega)
        have es : shrI .u64 ((v * 2 ^ 4 % 2 ^ 64 : Nat) : Int) ((64 - (i + 1) * w : Nat) : Int) = ((v * 2 ^ 4 % 2 ^ 64 / 2 ^ (64 - (i + 1) * w) : Nat) : Int) := shrI_nat .u64 _ _ (by show 64 - (i + 1) * w ≤ 64; omega)
        have hsn := hvs i
        have hlt4 : v * 2 ^ 4 % 2 ^ 64 / 2 ^ (64 - (i + 1) * w) < 2 ^ 64 := Nat.lt_of_le_of_lt (Nat.div_le_self _ _) (Nat.mod_lt _ (by omega))
        obtain ⟨m1, m2, m3⟩ := mask_low (w := w) hlt4 c3
        have hsame : v * 2 ^ 4 % 2 ^ 64 / 2 ^ (64 - (i + 1) * w) % 2 ^ w = v / 2 ^ (60 - (i + 1) * w) % 2 ^ w := top4 (show w ≤ (i + 1) * w by rw [Nat.succ_mul]; omega) (by omega)
        rw [hsame] at m3
        generalize v * 2 ^ 4 % 2 ^ 64 / 2 ^ (64 - (i + 1) * w) = y at *
        generalize v * 2 ^ 4 % 2 ^ 64 = v4 at *
        generalize v / 2 ^ (60 - (i + 1) * w) % 2 ^ w = z at *
        generalize hp1 : 2 ^ w - 1 = p1 at *
        generalize 2 ^ w = p at *
        have hfl := hvl i
        have hal2 : (acc ++ f i).length = acc.length + i := by rw [List.length_append, hfl]
        have h1 : (acc.length + i + 1) * 8 ≤ room := by omega
        have h2 : acc.length + i + 1 ≤ room := by omega
        have hap : acc ++ f i ++ [z] = acc ++ f (i + 1) := by rw [hsn, List.append_assoc]
        refine AW.go ?_ (by simp only [go_sem, ↓reduceIte, ei, em, e6, ew, es4, es, m1, m2, m3, hal2, u64s_one, h1, h2, hap] <;> rfl)
        refine AW.again hK2 (i + 1) hic (by omega)
      · have hic : i = c := by simp at hc; omega
        subst hic
        refine AW.go ?_
        refine AW.again hK (acc ++ f i, q.drop 8) ⟨by rw [← hst], ?_, fun x hx => hq x (List.mem_of_mem_drop hx), by simp only [List.length_append]; omega, by simp only [List.length_drop]; omega⟩ (by simp only [List.length_drop]; omega)
        intro x hx
        rcases List.mem_append.1 hx with hx | hx
        · exact hacc x hx
        · exact hule x hx
    · simp only [if_neg h8]
      rw [rdS_short hlt (by omega)]
      refine AW.condT rfl ?_
      refine AW.go ?_
      refine AW.finE (.move rfl (.pv _ .nil)) rfl
  have hge : ¬ acc.length < n := by simpa using hc
  rw [rdS_end hge]
  simp only [ne_eq, not_true_eq_false, if_false]
  clear hK hc
  by_cases hgt : n < acc.length
  · have d1 : ((acc.length : Int) != (n : Int)) = true := by simp; omega
    rw [if_pos hgt]
    refine AW.gg ?_ (by simp only [go_sem, ↓reduceIte, d1] <;> rfl)
    refine AW.condT rfl ?_
    refine AW.go ?_
    refine AW.finE (.move rfl (.pv _ .nil)) rfl
  have d1 : ((acc.length : Int) != (n : Int)) = false := by simp; omega
  rw [if_neg hgt]
  by_cases hqe : q = []
  · subst hqe
    simp only [not_true_eq_false, if_false]
    refine AW.gg ?_ (by simp only [go_sem, ↓reduceIte, d1] <;> rfl)
    refine AW.condF rfl ?_
    have he : encSW acc = (encS acc, 0) := by unfold encSW; rw [if_neg (by rw [big60_false hacc]; exact Bool.noConfusion)]
    have hE := refSimpleEnc_fn acc (by omega) (fun x h => Nat.lt_trans (hacc x h) (by omega))
    rw [he] at hE
    have hel := encS_len acc.length acc (Nat.le_refl _)
    refine AW.go ?_
    refine AW.callE (fun _ => 0) hE (.lend rfl co_39 .nil) ?_
    refine AW.go ?_
    refine AW.callE (fun _ => 0) (ref01Same_fn (encS acc) l (by omega)) (.lend rfl co_5 (.pv _ .nil)) ?_
    by_cases hw : encS acc = l
    · rw [decide_eq_true hw, if_pos hw]
      refine AW.go ?_
      refine AW.condF rfl ?_
      refine AW.go ?_
      refine AW.finE (.move rfl (.pv _ .nil)) rfl
    · rw [decide_eq_false hw, if_neg hw]
      refine AW.go ?_
      refine AW.condT rfl ?_
      refine AW.go ?_
      refine AW.finE (.move rfl (.pv _ .nil)) rfl
  · have hq0 : 0 < q.length := by cases q with | nil => exact absurd rfl hqe | cons a r => simp
    have d2 : decide (0 < q.length) = true := decide_eq_true hq0
    have d2i : decide ((q.length : Int) > 0) = true := decide_eq_true (by omega)
    simp only [hqe, not_false_eq_true, if_true]
    refine AW.gg ?_ (by simp only [go_sem, ↓reduceIte, d1, d2, d2i] <;> rfl)
    refine AW.condT rfl ?_
    refine AW.go ?_
    refine AW.finE (.move rfl (.pv _ .nil)) rfl
end Go.Ck

set_option linter.unusedVariables false
namespace Go.Ck
def encRn (k : Nat) : List Nat → List Nat
  | [] => []
  | [x] => leb x ++ leb k
  | x :: y :: r => if y = x then encRn (k + 1) (y :: r) else leb x ++ leb k ++ encRn 0 (y :: r)
theorem encRn_nil (k : Nat) : encRn k [] = [] := rfl
theorem encRn_one (k x : Nat) : encRn k [x] = leb x ++ leb k := rfl
theorem encRn_same (k x : Nat) (r : List Nat) : encRn k (x :: x :: r) = encRn (k + 1) (x :: r) := by rw [encRn, if_pos rfl]
theorem encRn_diff {k x y : Nat} (h : y ≠ x) (r : List Nat) : encRn k (x :: y :: r) = leb x ++ leb k ++ encRn 0 (y :: r) := by rw [encRn, if_neg h]
/-- What stands at the end of a run. -/
theorem encRn_stop {k x : Nat} {r : List Nat} (h : r.head? ≠ some x) : encRn k (x :: r) = leb x ++ leb k ++ encRn 0 r := by
  cases r with
  | nil => rw [encRn_one, encRn_nil, List.append_nil]
  | cons y r => exact encRn_diff (fun e => h (by rw [e]; rfl)) r
theorem encRn_run {x : Nat} {r : List Nat} (h : r.head? ≠ some x) : ∀ (m k : Nat), encRn k (List.replicate (m + 1) x ++ r) = leb x ++ leb (k + m) ++ encRn 0 r
  | 0, k => by
    have e : List.replicate (0 + 1) x ++ r = x :: r := rfl
    rw [e, encRn_stop h, Nat.add_zero]
  | m + 1, k => by
    have e : List.replicate (m + 1 + 1) x ++ r = x :: x :: (List.replicate m x ++ r) := rfl
    have e2 : List.replicate (m + 1) x ++ r = x :: (List.replicate m x ++ r) := rfl
    rw [e, encRn_same, ← e2, encRn_run h m (k + 1)]
    congr 3
    omega
theorem encRn_len : ∀ (l : List Nat) (k : Nat), (∀ x ∈ l, x < 2 ^ 64) → k + l.length ≤ 65536 → (encRn k l).length ≤ 20 * l.length
  | [], k, _, _ => by simp [encRn]
  | [x], k, h, hk => by
    rw [encRn_one, List.length_append]
    have h1 := leb_len10 (h x (by simp))
    have h2 := leb_len10 (v := k) (by omega)
    simp only [List.length_singleton]
    omega
  | x :: y :: r, k, h, hk => by
    simp only [List.length_cons] at hk
    rw [encRn]
    split
    · have := encRn_len (y :: r) (k + 1) (fun z hz => h z (by simp [hz])) (by simp only [List.length_cons]; omega)
      simp only [List.length_cons] at this ⊢
      omega
    · have := encRn_len (y :: r) 0 (fun z hz => h z (by simp [hz])) (by simp only [List.length_cons]; omega)
      have h1 := leb_len10 (h x (by simp))
      have h2 := leb_len10 (v := k) (by omega)
      simp only [List.length_append, List.length_cons] at this ⊢
      omega
theorem encRn_byte : ∀ (l : List Nat) (k : Nat), ∀ x ∈ encRn k l, x < 256
  | [], k => by simp [encRn]
  | [x], k => by
    rw [encRn_one]
    intro z hz
    rcases List.mem_append.1 hz with hz | hz
    · exact leb_byte _ z hz
    · exact leb_byte _ z hz
  | x :: y :: r, k => by
    rw [encRn]
    split
    · exact encRn_byte (y :: r) (k + 1)
    · intro z hz
      rcases List.mem_append.1 hz with hz | hz
      · rcases List.mem_append.1 hz with hz | hz
        · exact leb_byte _ z hz
        · exact leb_byte _ z hz
      · exact encRn_byte (y :: r) 0 z hz
def badR (n : Nat) (acc : List Nat) (v k : Nat) : Bool := decide (n - acc.length ≤ k) || decide (acc.getLast? = some v)
def rdR (n : Nat) (acc l : List Nat) : List Nat × List Nat × Int :=
  if h : acc.length < n then
    if (readV l).2.2 ≠ 0 then ([], [], (readV l).2.2)
    else if (readV (l.drop (readV l).2.1)).2.2 ≠ 0 then ([], [], (readV (l.drop (readV l).2.1)).2.2)
    else if badR n acc (readV l).1 (readV (l.drop (readV l).2.1)).1 = true then ([], [], 3)
    else rdR n (acc ++ List.replicate ((readV (l.drop (readV l).2.1)).1 + 1) (readV l).1) ((l.drop (readV l).2.1).drop (readV (l.drop (readV l).2.1)).2.1)
  else (acc, l, 0)
termination_by n - acc.length
decreasing_by rw [List.length_append, List.length_replicate]; omega
theorem rdR_end {n : Nat} {acc l : List Nat} (h : ¬ acc.length < n) : rdR n acc l = (acc, l, 0) := by rw [rdR, dif_neg h]
theorem rdR_e1 {n : Nat} {acc l : List Nat} (h : acc.length < n) (h1 : (readV l).2.2 ≠ 0) : rdR n acc l = ([], [], (readV l).2.2) := by rw [rdR, dif_pos h, if_pos h1]
theorem rdR_e2 {n : Nat} {acc l : List Nat} (h : acc.length < n) (h1 : ¬ (readV l).2.2 ≠ 0) (h2 : (readV (l.drop (readV l).2.1)).2.2 ≠ 0) : rdR n acc l = ([], [], (readV (l.drop (readV l).2.1)).2.2) := by
  rw [rdR, dif_pos h, if_neg h1, if_pos h2]
theorem rdR_e3 {n : Nat} {acc l : List Nat} (h : acc.length < n) (h1 : ¬ (readV l).2.2 ≠ 0) (h2 : ¬ (readV (l.drop (readV l).2.1)).2.2 ≠ 0) (h3 : badR n acc (readV l).1 (readV (l.drop (readV l).2.1)).1 = true) : rdR n acc l = ([], [], 3) := by
  rw [rdR, dif_pos h, if_neg h1, if_neg h2, if_pos h3]
theorem rdR_step {n : Nat} {acc l : List Nat} (h : acc.length < n) (h1 : ¬ (readV l).2.2 ≠ 0) (h2 : ¬ (readV (l.drop (readV l).2.1)).2.2 ≠ 0) (h3 : ¬ badR n acc (readV l).1 (readV (l.drop (readV l).2.1)).1 = true) :
    rdR n acc l = rdR n (acc ++ List.replicate ((readV (l.drop (readV l).2.1)).1 + 1) (readV l).1) ((l.drop (readV l).2.1).drop (readV (l.drop (readV l).2.1)).2.1) := by
  rw [rdR, dif_pos h, if_neg h1, if_neg h2, if_neg h3]
def decR (l : List Nat) (n : Nat) : List Nat × Int :=
  let r := rdR n [] l
  if r.2.2 ≠ 0 then ([], r.2.2) else if r.2.1 ≠ [] then ([], 3) else (r.1, 0)
end Go.Ck

set_option linter.unusedVariables false
set_option maxRecDepth 10000
set_option maxHeartbeats 1000000
namespace Go.Ck
open Go.Proofs
theorem runsEnc_fn (xs : List Nat) (hl : xs.length ≤ 65536) (hx : ∀ x ∈ xs, x < 2 ^ 64) : Fn Tryz.prog 91 [] [.pv (.sl 1 (u64s xs))]
    (fun rs H' => rs = [.own 5 (bytes (encRn 0 xs)), .pv (.int .i64 0)] ∧ H' = []) := by
  refine Fn.of_body (fn := Tryz.f91) (n := 41) (res := [.tmp 2, .tmp 3]) (by kernel_rfl) rfl rfl rfl rfl rfl (fun C => ?_)
  have hr : room = 140737488355328 := rfl
  have hgt : decide (65536 < xs.length) = false := decide_eq_false (by omega)
  have hgi : decide ((xs.length : Int) > 65536) = false := decide_eq_false (by omega)
  have hel := encRn_len xs 0 hx (by omega)
  refine AW.go ?_ (by simp only [go_sem, ↓reduceIte, hgt, hgi] <;> rfl)
  refine AW.condF rfl ?_
  refine AW.go ?_
  refine AW.loopS (fun a : Nat × Nat × List Nat => ⟨41, [(13, .pv (.int .i64 a.1)), (12, .pv (.int .i64 xs.length)), (11, .pv (.sl 1 (u64s xs))), (5, .pv (.int .u64 a.2.1)), (4, .own 5 (bytes a.2.2)), (0, .pv (.sl 1 (u64s xs)))], []⟩) (fun a => a.1 ≤ xs.length ∧ a.2.1 ≤ a.1 ∧ a.2.2 ++ encRn a.2.1 (xs.drop a.1) = encRn 0 xs) (fun a => xs.length - a.1) [13, 12, 11, 5, 4, 0] [] (0, 0, []) ⟨Nat.zero_le _, Nat.le_refl _, by simp⟩ ?_
  rintro ⟨i, k, out⟩ ⟨hi, hk, he⟩ K hK
  simp only at hi hk he
  have hol : out.length ≤ (encRn 0 xs).length := by rw [← he]; simp
  refine AW.go ?_
  refine AW.cond rfl (fun hc => ?_) (fun hc => ?_)
  · have hlt : i < xs.length := by simpa using hc
    have hget := u64s_get hlt
    have hd := List.drop_eq_getElem_cons hlt
    have hxx := hx _ (List.getElem_mem hlt)
    have ei : IntKind.i64.wrap ((i : Int) + 1) = ((i + 1 : Nat) : Int) := wrap_i64_succ (by omega)
    have ek : IntKind.u64.wrap ((k : Int) + 1) = ((k + 1 : Nat) : Int) := wrap_u64_lt (n := k + 1) (by omega)
    have ha1 : (out ++ leb xs[i]).length ≤ out.length + 10 := by rw [List.length_append]; have := leb_len10 hxx; omega
    by_cases h1 : i + 1 < xs.length
    · have d1 : decide (i + 1 < xs.length) = true := decide_eq_true h1
      have hget1 := u64s_get h1
      have hd1 := List.drop_eq_getElem_cons h1
      rw [hd1] at hd
      generalize xs[i] = x at *
      generalize xs[i + 1] = y at *
      by_cases hxy : y = x
      · have e2 : ((y : Int) == (x : Int)) = true := by simp; omega
        subst hxy
        have e2 : ((y : Int) == (y : Int)) = true := by simp
        rw [hd, encRn_same, ← hd1] at he
        refine AW.gg ?_ (by simp only [go_sem, ↓reduceIte, hget, hget1, ei, d1, h1, e2] <;> rfl)
        refine AW.condT rfl ?_
        refine AW.go ?_ (by simp only [go_sem, ↓reduceIte, ei, ek] <;> rfl)
        refine AW.again hK (i + 1, k + 1, out) ⟨by simp only; omega, by simp only; omega, he⟩ (by simp only; omega)
      · have e2 : ((y : Int) == (x : Int)) = false := by simp; omega
        rw [hd, encRn_diff hxy, ← hd1] at he
        refine AW.gg ?_ (by simp only [go_sem, ↓reduceIte, hget, hget1, ei, d1, h1, e2] <;> rfl)
        refine AW.condF rfl ?_
        refine AW.go ?_
        refine AW.callE (fun _ => 0) (append_fn out x hxx (by omega)) (.lend rfl co_5 (.pv _ .nil)) ?_
        refine AW.go ?_
        refine AW.callE (fun _ => 0) (append_fn (out ++ leb x) k (by omega) (by omega)) (.lend rfl co_5 (.pv _ .nil)) ?_
        refine AW.go ?_ (by simp only [go_sem, ↓reduceIte, ei] <;> rfl)
        refine AW.again hK (i + 1, 0, out ++ leb x ++ leb k) ⟨by simp only; omega, by simp only; omega, by simp only; rw [← he]; simp⟩ (by simp only; omega)
    · have d1 : decide (i + 1 < xs.length) = false := decide_eq_false h1
      rw [show xs.drop (i + 1) = [] from List.drop_eq_nil_of_le (by omega)] at hd
      generalize xs[i] = x at *
      rw [hd, encRn_one] at he
      refine AW.gg ?_ (by simp only [go_sem, ↓reduceIte, hget, ei, d1] <;> rfl)
      refine AW.condF rfl ?_
      refine AW.go ?_
      refine AW.callE (fun _ => 0) (append_fn out x hxx (by omega)) (.lend rfl co_5 (.pv _ .nil)) ?_
      refine AW.go ?_
      refine AW.callE (fun _ => 0) (append_fn (out ++ leb x) k (by omega) (by omega)) (.lend rfl co_5 (.pv _ .nil)) ?_
      refine AW.go ?_ (by simp only [go_sem, ↓reduceIte, ei] <;> rfl)
      refine AW.again hK (i + 1, 0, out ++ leb x ++ leb k) ⟨by simp only; omega, by simp only; omega, by simp only; rw [show xs.drop (i + 1) = [] from List.drop_eq_nil_of_le (by omega), encRn_nil, List.append_nil, ← he]; simp⟩ (by simp only; omega)
  · have hge : xs.length ≤ i := by simp at hc; omega
    rw [List.drop_eq_nil_of_le hge, encRn_nil, List.append_nil] at he
    rw [he]
    refine AW.go ?_
    refine AW.finE (.move rfl (.pv _ .nil)) rfl

theorem refRunsEnc_fn (xs : List Nat) (hl : xs.length ≤ 65536) (hx : ∀ x ∈ xs, x < 2 ^ 64) : Fn Tryz.prog 98 [] [.pv (.sl 1 (u64s xs))]
    (fun rs H' => rs = [.own 5 (bytes (encRn 0 xs)), .pv (.int .i64 0)] ∧ H' = []) := by
  refine Fn.of_body (fn := Tryz.f98) (n := 46) (res := [.tmp 2, .tmp 3]) (by kernel_rfl) rfl rfl rfl rfl rfl (fun C => ?_)
  have hr : room = 140737488355328 := rfl
  have hgt : decide (65536 < xs.length) = false := decide_eq_false (by omega)
  have hgi : decide ((xs.length : Int) > 65536) = false := decide_eq_false (by omega)
  have hel := encRn_len xs 0 hx (by omega)
  refine AW.go ?_ (by simp only [go_sem, ↓reduceIte, hgt, hgi] <;> rfl)
  refine AW.condF rfl ?_
  refine AW.go ?_
  refine AW.loopS (fun a : Nat × List Nat => ⟨46, [(5, .pv (.int .i64 a.1)), (4, .own 5 (bytes a.2)), (0, .pv (.sl 1 (u64s xs)))], []⟩) (fun a => a.1 ≤ xs.length ∧ a.2 ++ encRn 0 (xs.drop a.1) = encRn 0 xs) (fun a => xs.length - a.1) [5, 4, 0] [] (0, []) ⟨Nat.zero_le _, by simp⟩ ?_
  rintro ⟨i, out⟩ ⟨hi, he⟩ K hK
  simp only at hi he
  have hol : out.length ≤ (encRn 0 xs).length := by rw [← he]; simp
  refine AW.go ?_
  refine AW.cond rfl (fun hc => ?_) (fun hc => ?_)
  · have hlt : i < xs.length := by simpa using hc
    have hget := u64s_get hlt
    have hxx := hx _ (List.getElem_mem hlt)
    have hxi : xs[i]? = some xs[i] := List.getElem?_eq_getElem hlt
    generalize xs[i] = x at *
    have ha1 : (out ++ leb x).length ≤ out.length + 10 := by rw [List.length_append]; have := leb_len10 hxx; omega
    refine AW.go ?_
    refine AW.loopS (fun j : Nat => ⟨46, [(6, .pv (.int .i64 j)), (5, .pv (.int .i64 i)), (4, .own 5 (bytes out)), (0, .pv (.sl 1 (u64s xs)))], []⟩) (fun j => i ≤ j ∧ j ≤ xs.length ∧ xs.drop i = List.replicate (j - i) x ++ xs.drop j) (fun j => xs.length - j) [6, 5, 4, 0] [] i ⟨Nat.le_refl _, hi, by simp⟩ ?_
    rintro j ⟨hij, hj, hdr⟩ K2 hK2
    have hfin : (xs.drop j).head? ≠ some x → i < j ∧ out ++ leb x ++ leb (j - i - 1) ++ encRn 0 (xs.drop j) = encRn 0 xs := by
      intro h
      have hlt2 : i < j := by
        rcases Nat.lt_or_ge i j with h2 | h2
        · exact h2
        · exfalso
          have : j = i := by omega
          subst this
          apply h
          rw [List.head?_drop, hxi]
      refine ⟨hlt2, ?_⟩
      obtain ⟨m, hm⟩ : ∃ m, j - i = m + 1 := ⟨j - i - 1, by omega⟩
      rw [hm] at hdr
      rw [hdr, encRn_run h m 0, Nat.zero_add] at he
      rw [hm, Nat.add_sub_cancel, ← he]; simp
    have ej : IntKind.i64.wrap ((j : Int) + 1) = ((j + 1 : Nat) : Int) := wrap_i64_succ (by omega)
    have fin : ∀ (h : (xs.drop j).head? ≠ some x), IntKind.u64.wrap (IntKind.i64.wrap (IntKind.i64.wrap ((j : Int) - (i : Int)) - 1)) = ((j - i - 1 : Nat) : Int) := by
      intro h
      have := (hfin h).1
      rw [wrap_i64_of (n := (j : Int) - (i : Int)) (by omega) (by omega), wrap_i64_of (by omega) (by omega), show (j : Int) - (i : Int) - 1 = ((j - i - 1 : Nat) : Int) by omega]
      exact wrap_u64_lt (by omega)
    refine AW.go ?_
    by_cases hjl : j < xs.length
    · have d1 : decide (j < xs.length) = true := decide_eq_true hjl
      have hgetj := u64s_get hjl
      have hdj := List.drop_eq_getElem_cons hjl
      generalize xs[j] = y at *
      by_cases hxy : y = x
      · subst hxy
        have e2 : ((y : Int) == (y : Int)) = true := by simp
        refine AW.sr mixed (by decide +kernel) ?_ (by simp only [go_sem, ↓reduceIte, hget, hgetj, d1, hjl, hlt, e2] <;> rfl)
        refine AW.condT rfl ?_
        refine AW.go ?_ (by simp only [go_sem, ↓reduceIte, ej] <;> rfl)
        refine AW.again hK2 (j + 1) ⟨by omega, by omega, ?_⟩ (by omega)
        rw [hdr, hdj, show j + 1 - i = (j - i) + 1 by omega, List.replicate_succ', List.append_assoc]; rfl
      · have e2 : ((y : Int) == (x : Int)) = false := by simp; omega
        have hh : (xs.drop j).head? ≠ some x := by rw [hdj]; simpa using hxy
        obtain ⟨h3, h4⟩ := hfin hh
        have h5 := fin hh
        clear hK2
        refine AW.sr mixed (by decide +kernel) ?_ (by simp only [go_sem, ↓reduceIte, hget, hgetj, d1, hjl, hlt, e2] <;> rfl)
        refine AW.condF rfl ?_
        refine AW.go ?_ (by simp only [go_sem, ↓reduceIte, hget, hlt] <;> rfl)
        refine AW.callE (fun _ => 0) (refAppend_fn out x hxx (by omega)) (.lend rfl co_5 (.pv _ .nil)) ?_
        refine AW.go ?_ (by simp only [go_sem, ↓reduceIte, h5] <;> rfl)
        refine AW.callE (fun _ => 0) (refAppend_fn (out ++ leb x) (j - i - 1) (by omega) (by omega)) (.lend rfl co_5 (.pv _ .nil)) ?_
        refine AW.go ?_
        refine AW.again hK (j, out ++ leb x ++ leb (j - i - 1)) ⟨hj, h4⟩ (by simp only; omega)
    · have d1 : decide (j < xs.length) = false := decide_eq_false hjl
      have hh : (xs.drop j).head? ≠ some x := by rw [List.drop_eq_nil_of_le (by omega)]; simp
      obtain ⟨h3, h4⟩ := hfin hh
      have h5 := fin hh
      clear hK2
      refine AW.sr mixed (by decide +kernel) ?_ (by simp only [go_sem, ↓reduceIte, d1] <;> rfl)
      refine AW.condF rfl ?_
      refine AW.go ?_ (by simp only [go_sem, ↓reduceIte, hget, hlt] <;> rfl)
      refine AW.callE (fun _ => 0) (refAppend_fn out x hxx (by omega)) (.lend rfl co_5 (.pv _ .nil)) ?_
      refine AW.go ?_ (by simp only [go_sem, ↓reduceIte, h5] <;> rfl)
      refine AW.callE (fun _ => 0) (refAppend_fn (out ++ leb x) (j - i - 1) (by omega) (by omega)) (.lend rfl co_5 (.pv _ .nil)) ?_
      refine AW.go ?_
      refine AW.again hK (j, out ++ leb x ++ leb (j - i - 1)) ⟨hj, h4⟩ (by simp only; omega)
  · have hge : xs.length ≤ i := by simp at hc; omega
    rw [List.drop_eq_nil_of_le hge, encRn_nil, List.append_nil] at he
    rw [he]
    refine AW.go ?_
    refine AW.finE (.move rfl (.pv _ .nil)) rfl
end Go.Ck
