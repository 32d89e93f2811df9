/- What is proved here: parts of the proofs of this seat's statements (a verified evaluator for calls over pure values, its laws, and contracts of functions). No condition. -/
import Derived.Test.YtnbkoemhcpjceaaGreatDoorKp
import Derived.Test.YtnbkoemhcpjceaaGreatDoorKi
set_option linter.all false
set_option linter.unusedVariables false
set_option maxRecDepth 10000
set_option maxHeartbeats 1000000
namespace Go.Ck
open Go.Proofs
theorem runsDec_fn (l : List Nat) (n : Nat) (hn : n ≤ 65536) (hl : l.length ≤ 2 ^ 40) (hb : ∀ x ∈ l, x < 256) : Fn Tryz.prog 109 [] [.pv (.sl 1 (bytes l)), .pv (.int .i64 n)]
    (fun rs H' => rs = [.own 39 (u64s (decR l n).1), .pv (.int .i64 (decR l n).2)] ∧ H' = []) := by
  refine Fn.of_body (fn := Tryz.f109) (n := 79) (res := [.tmp 4, .tmp 5]) (by kernel_rfl) rfl rfl rfl rfl rfl (fun C => ?_)
  have hr : room = 140737488355328 := rfl
  refine AW.go ?_
  refine AW.scopeS 0 (fun _ : Unit => ⟨0, [], []⟩) (fun _ => False) (fun _ => 0) [] [] rfl (fun KK hKK => ?_) (fun _ h => h.elim)
  clear hKK
  refine AW.gg ?_
  refine AW.condF (by simp only [go_sem, ↓reduceIte]; congr 3; simp; omega) ?_
  refine AW.go ?_
  refine AW.callE (fun o => if o = 7 then 19 else 0) (curNew_fn l (by omega)) (.pv _ .nil) ?_
  refine AW.go ?_
  unfold decR
  refine AW.loopS (fun a : List Nat × List Nat => ⟨79, [(7, .own 39 (u64s a.1)), (8, .pv (.int .i64 0)), (6, .ptr 19 0), (1, .pv (.int .i64 n))], [(19, .cells 81 [.pv (.sl 1 (bytes a.2))])]⟩) (fun a => rdR n a.1 a.2 = rdR n [] l ∧ (∀ x ∈ a.2, x < 256) ∧ a.1.length ≤ n ∧ a.2.length ≤ l.length) (fun a => n - a.1.length) [7, 8, 6, 1] [19] ([], l) ⟨rfl, hb, Nat.zero_le _, Nat.le_refl _⟩ ?_
  rintro ⟨acc, q⟩ ⟨hrd, hq, hal, hql⟩ K hK
  simp only at hrd hq hal hql
  rw [← hrd] at hK ⊢
  refine AW.go ?_
  refine AW.cond rfl (fun hc => ?_) (fun hc => ?_)
  · have hlt : acc.length < n := by simpa using hc
    have h1 := rdR_e1 hlt (l := q)
    have h2 := rdR_e2 hlt (l := q)
    have h3 := rdR_e3 hlt (l := q)
    have h4 := rdR_step hlt (l := q)
    have hv := readV_lt hq
    have hq2 : ∀ x ∈ q.drop (readV q).2.1, x < 256 := fun x hx => hq x (List.mem_of_mem_drop hx)
    have hl2 : (q.drop (readV q).2.1).length ≤ l.length := by rw [List.length_drop]; omega
    refine AW.go ?_
    refine AW.callE (fun _ => 19) (curVarint_fn q (by omega) hq) (.ptr rfl .nil) ?_
    generalize q.drop (readV q).2.1 = q2 at *
    generalize (readV q).1 = v at *
    generalize (readV q).2.2 = e at *
    refine AW.go ?_
    refine AW.cond rfl (fun hc1 => ?_) (fun hc1 => ?_)
    · have he : e ≠ 0 := by simpa using hc1
      have heb : (e == 0) = false := by simpa using he
      have hen : (e != 0) = true := by simpa using he
      rw [h1 he]
      simp only [if_pos he]
      refine AW.go ?_ (by simp only [go_sem, ↓reduceIte, heb] <;> rfl)
      refine AW.condF rfl ?_
      refine AW.go ?_ (by simp only [go_sem, ↓reduceIte, hen] <;> rfl)
      refine AW.condT rfl ?_
      refine AW.go ?_
      refine AW.finE (.move rfl (.pv _ .nil)) rfl
    have he : ¬ e ≠ 0 := by simpa using hc1
    have h2 := h2 he
    have h3 := h3 he
    have h4 := h4 he
    have hk := readV_lt hq2
    have hq3 : ∀ x ∈ q2.drop (readV q2).2.1, x < 256 := fun x hx => hq2 x (List.mem_of_mem_drop hx)
    have hl3 : (q2.drop (readV q2).2.1).length ≤ l.length := by rw [List.length_drop]; omega
    refine AW.go ?_
    refine AW.callE (fun _ => 19) (curVarint_fn q2 (by omega) hq2) (.ptr rfl .nil) ?_
    generalize q2.drop (readV q2).2.1 = q3 at *
    generalize (readV q2).1 = k at *
    generalize (readV q2).2.2 = e at *
    refine AW.go ?_
    refine AW.cond rfl (fun hc2 => ?_) (fun hc2 => ?_)
    · have he : e ≠ 0 := by simpa using hc2
      have heb : (e == 0) = false := by simpa using he
      have hen : (e != 0) = true := by simpa using he
      rw [h2 he]
      simp only [if_pos he]
      refine AW.go ?_ (by simp only [go_sem, ↓reduceIte, heb] <;> rfl)
      refine AW.condF rfl ?_
      refine AW.go ?_ (by simp only [go_sem, ↓reduceIte, hen] <;> rfl)
      refine AW.condT rfl ?_
      refine AW.go ?_
      refine AW.finE (.move rfl (.pv _ .nil)) rfl
    have he : ¬ e ≠ 0 := by simpa using hc2
    have h3 := h3 he
    have h4 := h4 he
    have em : IntKind.u64.wrap (IntKind.i64.wrap ((n : Int) - (acc.length : Int))) = ((n - acc.length : Nat) : Int) := by
      rw [wrap_i64_of (by omega) (by omega), show (n : Int) - (acc.length : Int) = ((n - acc.length : Nat) : Int) by omega]; exact wrap_u64_lt (by omega)
    unfold badR at h3 h4
    by_cases hm : n - acc.length ≤ k
    · rw [h3 (by rw [decide_eq_true hm]; rfl)]
      simp only [ne_eq, show ¬ (3 : Int) = 0 by omega, not_false_eq_true, if_true]
      generalize n - acc.length = m at *
      have dN : decide (m ≤ k) = true := decide_eq_true hm
      have dI : decide ((k : Int) ≥ (m : Int)) = true := decide_eq_true (by omega)
      have dJ : decide ((m : Int) ≤ (k : Int)) = true := decide_eq_true (by omega)
      refine AW.gg ?_ (by simp only [go_sem, ↓reduceIte, em, dN, dI, dJ] <;> rfl)
      refine AW.condT rfl ?_
      refine AW.go ?_
      refine AW.condF rfl ?_
      refine AW.go ?_
      refine AW.condT rfl ?_
      refine AW.go ?_
      refine AW.finE (.move rfl (.pv _ .nil)) rfl
    rw [decide_eq_false hm, Bool.false_or] at h3 h4
    have hkn : k < n - acc.length := by omega
    have ek1 : IntKind.u64.wrap ((k : Int) + 1) = ((k + 1 : Nat) : Int) := wrap_u64_lt (n := k + 1) (by omega)
    have dN : ∀ m, m = n - acc.length → decide (m ≤ k) = false := fun m h => decide_eq_false (by omega)
    have dI : ∀ m : Nat, m = n - acc.length → decide ((k : Int) ≥ (m : Int)) = false := fun m h => decide_eq_false (by omega)
    have dJ : ∀ m : Nat, m = n - acc.length → decide ((m : Int) ≤ (k : Int)) = false := fun m h => decide_eq_false (by omega)
    generalize hmm : n - acc.length = m at em hm hkn dN dI dJ
    have dN := dN m rfl
    have dI := dI m rfl
    have dJ := dJ m rfl
    by_cases hbad : acc.getLast? = some v
    · have hne : acc ≠ [] := by rintro rfl; simp at hbad
      have hpos : 0 < acc.length := by cases acc with | nil => exact absurd rfl hne | cons a r => simp
      have d0 : decide (0 < acc.length) = true := decide_eq_true hpos
      have d0i : decide ((acc.length : Int) > 0) = true := decide_eq_true (by omega)
      rw [List.getLast?_eq_getElem?] at hbad
      have hget : (u64s acc)[acc.length - 1]? = some (.int .u64 v) := by rw [u64s, List.getElem?_map, hbad]; rfl
      have e1 : IntKind.i64.wrap ((acc.length : Int) - 1) = ((acc.length - 1 : Nat) : Int) := by rw [wrap_i64_of (by omega) (by omega)]; omega
      have hltl : acc.length - 1 < acc.length := by omega
      have ee : ((v : Int) == (v : Int)) = true := by simp
      rw [h3 (by rw [List.getLast?_eq_getElem?, decide_eq_true hbad])]
      simp only [ne_eq, show ¬ (3 : Int) = 0 by omega, not_false_eq_true, if_true]
      refine AW.gg ?_ (by simp only [go_sem, ↓reduceIte, em, dN, dI, dJ, d0, d0i, e1, hltl, hget, ee] <;> rfl)
      refine AW.condT rfl ?_
      refine AW.go ?_
      refine AW.condF rfl ?_
      refine AW.go ?_
      refine AW.condT rfl ?_
      refine AW.go ?_
      refine AW.finE (.move rfl (.pv _ .nil)) rfl
    have h4 := h4 (by rw [decide_eq_false hbad]; exact Bool.noConfusion)
    refine via (T := ?T1) (fun hT => ?_) ?_
    rotate_left
    · by_cases hne : acc = []
      · have h0 : acc.length = 0 := by rw [hne]; rfl
        have d0 : decide (0 < acc.length) = false := decide_eq_false (by omega)
        have d0i : decide ((acc.length : Int) > 0) = false := decide_eq_false (by omega)
        refine AW.gg ?_ (by simp only [go_sem, ↓reduceIte, em, dN, dI, dJ, d0, d0i] <;> rfl)
        refine AW.condF rfl ?_
        refine AW.go ?_ (by simp only [go_sem, ↓reduceIte, ek1] <;> rfl)
        refine AW.keepB [64, 7, 8, 6, 1, 9, 63] [19] (by simp only [go_sem, ↓reduceIte]) (by simp only [go_sem, ↓reduceIte] <;> rfl) ?_
        exact hT ()
      · have hpos : 0 < acc.length := by cases acc with | nil => exact absurd rfl hne | cons a r => simp
        have d0 : decide (0 < acc.length) = true := decide_eq_true hpos
        have d0i : decide ((acc.length : Int) > 0) = true := decide_eq_true (by omega)
        have hltl : acc.length - 1 < acc.length := by omega
        rw [List.getLast?_eq_getElem?, List.getElem?_eq_getElem hltl] at hbad
        have hget := u64s_get hltl
        have e1 : IntKind.i64.wrap ((acc.length : Int) - 1) = ((acc.length - 1 : Nat) : Int) := by rw [wrap_i64_of (by omega) (by omega)]; omega
        generalize acc[acc.length - 1] = z at *
        have ee : ((z : Int) == (v : Int)) = false := by
          have : z ≠ v := fun h => hbad (by rw [h])
          simp; omega
        refine AW.gg ?_ (by simp only [go_sem, ↓reduceIte, em, dN, dI, dJ, d0, d0i, e1, hltl, hget, ee] <;> rfl)
        refine AW.condF rfl ?_
        refine AW.go ?_ (by simp only [go_sem, ↓reduceIte, ek1] <;> rfl)
        refine AW.keepB [64, 7, 8, 6, 1, 9, 63] [19] (by simp only [go_sem, ↓reduceIte]) (by simp only [go_sem, ↓reduceIte] <;> rfl) ?_
        exact hT ()
    refine AW.loopS (fun j : Nat => ⟨79, [(64, .pv (.int .u64 j)), (63, .pv (.int .u64 (k + 1 : Nat))), (9, .pv (.int .u64 v)), (7, .own 39 (u64s (acc ++ List.replicate j v))), (8, .pv (.int .i64 0)), (6, .ptr 19 0), (1, .pv (.int .i64 n))], [(19, .cells 81 [.pv (.sl 1 (bytes q3))])]⟩) (fun j => j ≤ k + 1) (fun j => k + 1 - j) [64, 63, 9, 7, 8, 6, 1] [19] 0 (Nat.zero_le _) ?_ (by simp only [go_sem, ↓reduceIte]) (by simp only [go_sem, ↓reduceIte, List.replicate_zero, List.append_nil] <;> rfl)
    rintro j hj K2 hK2
    have hrl : (acc ++ List.replicate j v).length = acc.length + j := by simp
    have hrs : acc ++ List.replicate j v ++ [v] = acc ++ List.replicate (j + 1) v := by rw [List.replicate_succ', List.append_assoc]
    generalize hA : acc ++ List.replicate j v = A at *
    refine AW.go ?_
    refine AW.cond rfl (fun hc3 => ?_) (fun hc3 => ?_)
    · have hjk : j < k + 1 := by simpa using hc3
      have ej : IntKind.u64.wrap ((j : Int) + 1) = ((j + 1 : Nat) : Int) := wrap_u64_lt (n := j + 1) (by omega)
      have r1 : (acc.length + j + 1) * 8 ≤ room := by omega
      have r2 : acc.length + j + 1 ≤ room := by omega
      generalize hB : acc ++ List.replicate (j + 1) v = B' at *
      refine AW.go ?_ (by simp only [go_sem, ↓reduceIte, hrl, u64s_one, r1, r2, hrs, ej] <;> rfl)
      refine AW.again hK2 (j + 1) hjk (by omega) (by simp only [go_sem, ↓reduceIte]) (by rw [hB]; simp only [go_sem, ↓reduceIte] <;> rfl)
    · have hjk : j = k + 1 := by simp at hc3; omega
      subst hjk
      refine AW.go ?_
      refine AW.again hK (A, q3) ⟨by rw [← hA, ← h4], hq3, by simp only [hrl]; omega, hl3⟩ (by simp only [hrl]; omega)
  have hge : ¬ acc.length < n := by simpa using hc
  rw [rdR_end hge]
  simp only [ne_eq, not_true_eq_false, if_false]
  clear hK hc
  refine AW.go ?_
  refine AW.condT rfl ?_
  refine AW.go ?_
  refine AW.callE (fun _ => 19) (curEnd_fn q) (.ptr rfl .nil) ?_
  by_cases hqe : q = []
  · subst hqe
    simp only [not_true_eq_false, if_false, if_true]
    refine AW.go ?_
    refine AW.condF rfl ?_
    refine AW.go ?_
    refine AW.finE (.move rfl (.pv _ .nil)) rfl
  · simp only [if_neg hqe, hqe, not_false_eq_true, if_true]
    refine AW.go ?_
    refine AW.condT rfl ?_
    refine AW.go ?_
    refine AW.finE (.move rfl (.pv _ .nil)) rfl

theorem refRunsDec_fn (l : List Nat) (n : Nat) (hn : n ≤ 65536) (hl : l.length ≤ 2 ^ 40) (hb : ∀ x ∈ l, x < 256) : Fn Tryz.prog 84 [] [.pv (.sl 1 (bytes l)), .pv (.int .i64 n)]
    (fun rs H' => rs = [.own 39 (u64s (decR l n).1), .pv (.int .i64 (decR l n).2)] ∧ H' = []) := by
  refine Fn.of_body (fn := Tryz.f84) (n := 78) (res := [.tmp 4, .tmp 5]) (by kernel_rfl) rfl rfl rfl rfl rfl (fun C => ?_)
  have hr : room = 140737488355328 := rfl
  refine AW.gg ?_
  refine AW.condF (by simp only [go_sem, ↓reduceIte]; congr 3; simp; omega) ?_
  refine AW.go ?_
  unfold decR
  refine AW.loopS (fun a : List Nat × List Nat => ⟨78, [(6, .own 39 (u64s a.1)), (0, .pv (.sl 1 (bytes a.2))), (1, .pv (.int .i64 n))], []⟩) (fun a => rdR n a.1 a.2 = rdR n [] l ∧ (∀ x ∈ a.2, x < 256) ∧ a.1.length ≤ n ∧ a.2.length ≤ l.length) (fun a => n - a.1.length) [6, 0, 1] [] ([], l) ⟨rfl, hb, Nat.zero_le _, Nat.le_refl _⟩ ?_
  rintro ⟨acc, q⟩ ⟨hrd, hq, hal, hql⟩ K hK
  simp only at hrd hq hal hql
  rw [← hrd] at hK ⊢
  refine AW.go ?_
  refine AW.cond rfl (fun hc => ?_) (fun hc => ?_)
  · have hlt : acc.length < n := by simpa using hc
    have h1 := rdR_e1 hlt (l := q)
    have h2 := rdR_e2 hlt (l := q)
    have h3 := rdR_e3 hlt (l := q)
    have h4 := rdR_step hlt (l := q)
    have hv := readV_lt hq
    have hq2 : ∀ x ∈ q.drop (readV q).2.1, x < 256 := fun x hx => hq x (List.mem_of_mem_drop hx)
    have hl2 : (q.drop (readV q).2.1).length ≤ l.length := by rw [List.length_drop]; omega
    refine AW.go ?_
    refine AW.callE (fun _ => 0) (refVarint_fn q (by omega) hq) (.pv _ .nil) ?_
    generalize q.drop (readV q).2.1 = q2 at *
    generalize (readV q).1 = v at *
    generalize (readV q).2.2 = e at *
    refine AW.go ?_
    refine AW.cond rfl (fun hc1 => ?_) (fun hc1 => ?_)
    · have he : e ≠ 0 := by simpa using hc1
      rw [h1 he]
      simp only [if_pos he]
      refine AW.go ?_
      refine AW.finE (.move rfl (.pv _ .nil)) rfl
    have he : ¬ e ≠ 0 := by simpa using hc1
    have h2 := h2 he
    have h3 := h3 he
    have h4 := h4 he
    have hk := readV_lt hq2
    have hq3 : ∀ x ∈ q2.drop (readV q2).2.1, x < 256 := fun x hx => hq2 x (List.mem_of_mem_drop hx)
    have hl3 : (q2.drop (readV q2).2.1).length ≤ l.length := by rw [List.length_drop]; omega
    refine AW.go ?_
    refine AW.callE (fun _ => 0) (refVarint_fn q2 (by omega) hq2) (.pv _ .nil) ?_
    generalize q2.drop (readV q2).2.1 = q3 at *
    generalize (readV q2).1 = k at *
    generalize (readV q2).2.2 = e at *
    refine AW.go ?_
    refine AW.cond rfl (fun hc2 => ?_) (fun hc2 => ?_)
    · have he : e ≠ 0 := by simpa using hc2
      rw [h2 he]
      simp only [if_pos he]
      refine AW.go ?_
      refine AW.finE (.move rfl (.pv _ .nil)) rfl
    have he : ¬ e ≠ 0 := by simpa using hc2
    have h3 := h3 he
    have h4 := h4 he
    have em : IntKind.u64.wrap (IntKind.i64.wrap ((n : Int) - (acc.length : Int))) = ((n - acc.length : Nat) : Int) := by
      rw [wrap_i64_of (by omega) (by omega), show (n : Int) - (acc.length : Int) = ((n - acc.length : Nat) : Int) by omega]; exact wrap_u64_lt (by omega)
    unfold badR at h3 h4
    by_cases hm : n - acc.length ≤ k
    · rw [h3 (by rw [decide_eq_true hm]; rfl)]
      simp only [ne_eq, show ¬ (3 : Int) = 0 by omega, not_false_eq_true, if_true]
      generalize n - acc.length = m at *
      have dN : decide (m ≤ k) = true := decide_eq_true hm
      have dI : decide ((k : Int) ≥ (m : Int)) = true := decide_eq_true (by omega)
      have dJ : decide ((m : Int) ≤ (k : Int)) = true := decide_eq_true (by omega)
      refine AW.gg ?_ (by simp only [go_sem, ↓reduceIte, em, dN, dI, dJ] <;> rfl)
      refine AW.condT rfl ?_
      refine AW.go ?_
      refine AW.finE (.move rfl (.pv _ .nil)) rfl
    rw [decide_eq_false hm, Bool.false_or] at h3 h4
    have hkn : k < n - acc.length := by omega
    have dN : ∀ m, m = n - acc.length → decide (m ≤ k) = false := fun m h => decide_eq_false (by omega)
    have dI : ∀ m : Nat, m = n - acc.length → decide ((k : Int) ≥ (m : Int)) = false := fun m h => decide_eq_false (by omega)
    have dJ : ∀ m : Nat, m = n - acc.length → decide ((m : Int) ≤ (k : Int)) = false := fun m h => decide_eq_false (by omega)
    generalize hmm : n - acc.length = m at em hm hkn dN dI dJ
    have dN := dN m rfl
    have dI := dI m rfl
    have dJ := dJ m rfl
    by_cases hbad : acc.getLast? = some v
    · have hne : acc ≠ [] := by rintro rfl; simp at hbad
      have hpos : 0 < acc.length := by cases acc with | nil => exact absurd rfl hne | cons a r => simp
      have d0 : decide (0 < acc.length) = true := decide_eq_true hpos
      have d0i : decide ((acc.length : Int) > 0) = true := decide_eq_true (by omega)
      rw [List.getLast?_eq_getElem?] at hbad
      have hget : (u64s acc)[acc.length - 1]? = some (.int .u64 v) := by rw [u64s, List.getElem?_map, hbad]; rfl
      have e1 : IntKind.i64.wrap ((acc.length : Int) - 1) = ((acc.length - 1 : Nat) : Int) := by rw [wrap_i64_of (by omega) (by omega)]; omega
      have hltl : acc.length - 1 < acc.length := by omega
      have ee : ((v : Int) == (v : Int)) = true := by simp
      rw [h3 (by rw [List.getLast?_eq_getElem?, decide_eq_true hbad])]
      simp only [ne_eq, show ¬ (3 : Int) = 0 by omega, not_false_eq_true, if_true]
      refine AW.gg ?_ (by simp only [go_sem, ↓reduceIte, em, dN, dI, dJ, d0, d0i, e1, hltl, hget, ee] <;> rfl)
      refine AW.condT rfl ?_
      refine AW.go ?_
      refine AW.finE (.move rfl (.pv _ .nil)) rfl
    have h4 := h4 (by rw [decide_eq_false hbad]; exact Bool.noConfusion)
    refine via (T := ?T1) (fun hT => ?_) ?_
    rotate_left
    · by_cases hne : acc = []
      · have h0 : acc.length = 0 := by rw [hne]; rfl
        have d0 : decide (0 < acc.length) = false := decide_eq_false (by omega)
        have d0i : decide ((acc.length : Int) > 0) = false := decide_eq_false (by omega)
        refine AW.gg ?_ (by simp only [go_sem, ↓reduceIte, em, dN, dI, dJ, d0, d0i] <;> rfl)
        refine AW.condF rfl ?_
        refine AW.go ?_
        refine AW.keepB [13, 10, 7, 6, 0, 1] [] (by simp only [go_sem, ↓reduceIte]) (by simp only [go_sem, ↓reduceIte] <;> rfl) ?_
        exact hT ()
      · have hpos : 0 < acc.length := by cases acc with | nil => exact absurd rfl hne | cons a r => simp
        have d0 : decide (0 < acc.length) = true := decide_eq_true hpos
        have d0i : decide ((acc.length : Int) > 0) = true := decide_eq_true (by omega)
        have hltl : acc.length - 1 < acc.length := by omega
        rw [List.getLast?_eq_getElem?, List.getElem?_eq_getElem hltl] at hbad
        have hget := u64s_get hltl
        have e1 : IntKind.i64.wrap ((acc.length : Int) - 1) = ((acc.length - 1 : Nat) : Int) := by rw [wrap_i64_of (by omega) (by omega)]; omega
        generalize acc[acc.length - 1] = z at *
        have ee : ((z : Int) == (v : Int)) = false := by
          have : z ≠ v := fun h => hbad (by rw [h])
          simp; omega
        refine AW.gg ?_ (by simp only [go_sem, ↓reduceIte, em, dN, dI, dJ, d0, d0i, e1, hltl, hget, ee] <;> rfl)
        refine AW.condF rfl ?_
        refine AW.go ?_
        refine AW.keepB [13, 10, 7, 6, 0, 1] [] (by simp only [go_sem, ↓reduceIte]) (by simp only [go_sem, ↓reduceIte] <;> rfl) ?_
        exact hT ()
    refine AW.loopS (fun j : Nat => ⟨78, [(13, .pv (.int .u64 j)), (10, .pv (.int .u64 k)), (7, .pv (.int .u64 v)), (6, .own 39 (u64s (acc ++ List.replicate j v))), (0, .pv (.sl 1 (bytes q3))), (1, .pv (.int .i64 n))], []⟩) (fun j => j ≤ k + 1) (fun j => k + 1 - j) [13, 10, 7, 6, 0, 1] [] 0 (Nat.zero_le _) ?_ (by simp only [go_sem, ↓reduceIte]) (by simp only [go_sem, ↓reduceIte, List.replicate_zero, List.append_nil] <;> rfl)
    rintro j hj K2 hK2
    have hrl : (acc ++ List.replicate j v).length = acc.length + j := by simp
    have hrs : acc ++ List.replicate j v ++ [v] = acc ++ List.replicate (j + 1) v := by rw [List.replicate_succ', List.append_assoc]
    generalize hA : acc ++ List.replicate j v = A at *
    refine AW.go ?_
    refine AW.cond rfl (fun hc3 => ?_) (fun hc3 => ?_)
    · have hjk : j < k + 1 := by simp at hc3; omega
      have ej : IntKind.u64.wrap ((j : Int) + 1) = ((j + 1 : Nat) : Int) := wrap_u64_lt (n := j + 1) (by omega)
      have r1 : (acc.length + j + 1) * 8 ≤ room := by omega
      have r2 : acc.length + j + 1 ≤ room := by omega
      generalize hB : acc ++ List.replicate (j + 1) v = B' at *
      refine AW.go ?_ (by simp only [go_sem, ↓reduceIte, hrl, u64s_one, r1, r2, hrs, ej] <;> rfl)
      refine AW.again hK2 (j + 1) hjk (by omega) (by simp only [go_sem, ↓reduceIte]) (by rw [hB]; simp only [go_sem, ↓reduceIte] <;> rfl)
    · have hjk : j = k + 1 := by simp at hc3; omega
      subst hjk
      refine AW.go ?_
      refine AW.again hK (A, q3) ⟨by rw [← hA, ← h4], hq3, by simp only [hrl]; omega, hl3⟩ (by simp only [hrl]; omega)
  have hge : ¬ acc.length < n := by simpa using hc
  rw [rdR_end hge]
  simp only [ne_eq, not_true_eq_false, if_false]
  clear hK hc
  by_cases hqe : q = []
  · subst hqe
    simp only [not_true_eq_false, if_false]
    refine AW.go ?_
    refine AW.condF rfl ?_
    refine AW.go ?_
    refine AW.finE (.move rfl (.pv _ .nil)) rfl
  · have hq0 : 0 < q.length := by cases q with | nil => exact absurd rfl hqe | cons a r => simp
    have d2 : decide (0 < q.length) = true := decide_eq_true hq0
    have d2i : decide ((q.length : Int) > 0) = true := decide_eq_true (by omega)
    simp only [hqe, not_false_eq_true, if_true]
    refine AW.go ?_ (by simp only [go_sem, ↓reduceIte, d2, d2i] <;> rfl)
    refine AW.condT rfl ?_
    refine AW.go ?_
    refine AW.finE (.move rfl (.pv _ .nil)) rfl
end Go.Ck

set_option linter.unusedVariables false
namespace Go.Ck
def u64of (n : Int) : Nat := (n % 2 ^ 64).toNat
def i64of (v : Nat) : Int := IntKind.i64.wrap (v : Int)
theorem u64of_wrap (n : Int) : IntKind.u64.wrap n = (u64of n : Int) := by rw [IntKind.wrap_u64]; unfold u64of; omega
theorem u64of_lt (n : Int) : u64of n < 2 ^ 64 := by unfold u64of; omega
theorem i64of_r (v : Nat) : i64r (i64of v) := wrap_i64_r _
def raw8 (xs : List Int) : List Nat := xs.flatMap fun x => beB (u64of x) 8
theorem raw8_len (xs : List Int) : (raw8 xs).length = 8 * xs.length := by
  induction xs with
  | nil => rfl
  | cons a r ih => rw [raw8, List.flatMap_cons, List.length_append, beB_len, ← raw8, ih, List.length_cons]; omega
theorem raw8_snoc (xs : List Int) (x : Int) : raw8 (xs ++ [x]) = raw8 xs ++ beB (u64of x) 8 := by simp [raw8]
def lebs (z : List Nat) : List Nat := z.flatMap leb
theorem lebs_snoc (z : List Nat) (x : Nat) : lebs (z ++ [x]) = lebs z ++ leb x := by simp [lebs]
theorem lebs_cons (x : Nat) (z : List Nat) : lebs (x :: z) = leb x ++ lebs z := by simp [lebs]
theorem lebs_len {z : List Nat} (h : ∀ x ∈ z, x < 2 ^ 64) : (lebs z).length ≤ 10 * z.length := by
  induction z with
  | nil => simp [lebs]
  | cons a r ih =>
    rw [lebs_cons, List.length_append, List.length_cons]
    have := leb_len10 (h a (by simp))
    have := ih (fun x hx => h x (by simp [hx]))
    omega
theorem lebs_byte (z : List Nat) : ∀ x ∈ lebs z, x < 256 := by
  intro x hx
  simp only [lebs, List.mem_flatMap] at hx
  obtain ⟨y, _, hx⟩ := hx
  exact leb_byte y x hx
theorem packF_len {l : List Nat} (h : ∀ x ∈ l, x < 2 ^ 64) (hl : l.length ≤ 65536) : (packF l).length ≤ 2 ^ 20 := by
  have h10 := leb_len10 (lo_lt (by omega) h)
  have hw := wF_le h
  have hm : l.length * wF l ≤ 65536 * 64 := Nat.mul_le_mul hl hw
  unfold packF
  rw [List.length_append, List.length_cons, pk_len, bitsF_len]
  omega
theorem packF_byte {l : List Nat} (h : ∀ x ∈ l, x < 2 ^ 64) : ∀ x ∈ packF l, x < 256 := by
  intro x hx
  unfold packF at hx
  have hw := wF_le h
  rcases List.mem_append.1 hx with hx | hx
  · exact leb_byte _ x hx
  · rcases List.mem_cons.1 hx with rfl | hx
    · omega
    · exact pk_byte _ (bitsF_bit _ _ _) x hx
def tailI (z : List Nat) (t : Nat) : List Nat × Int := if t = 2 then (packF z, 0) else if t = 3 then encSW z else if t = 4 then (encRn 0 z, 0) else (lebs z, 0)
theorem tailI_len {z : List Nat} (t : Nat) (h : ∀ x ∈ z, x < 2 ^ 64) (hl : z.length ≤ 65536) : (tailI z t).1.length ≤ 2 ^ 21 := by
  unfold tailI
  split
  · have := packF_len h hl; simp only; omega
  · split
    · unfold encSW
      split
      · simp
      · have := encS_len z.length z (Nat.le_refl _); simp only; omega
    · split
      · have := encRn_len z 0 h (by omega); simp only; omega
      · have := lebs_len h; simp only; omega
theorem tailI_byte {z : List Nat} (t : Nat) (h : ∀ x ∈ z, x < 2 ^ 64) : ∀ x ∈ (tailI z t).1, x < 256 := by
  unfold tailI
  split
  · exact packF_byte h
  · split
    · unfold encSW
      split
      · simp
      · exact encS_byte z.length z (Nat.le_refl _)
    · split
      · exact encRn_byte z 0
      · exact lebs_byte z
def zdI (xs : List Int) (t : Nat) : List Nat := (diffS xs (oft t)).map zig
theorem zdI_len (xs : List Int) (t : Nat) : (zdI xs t).length = xs.length := by rw [zdI, List.length_map, diffS_len]
theorem zdI_lt {xs : List Int} (h : ∀ x ∈ xs, i64r x) (t : Nat) : ∀ x ∈ zdI xs t, x < 2 ^ 64 := by
  intro x hx
  simp only [zdI, List.mem_map] at hx
  obtain ⟨y, hy, rfl⟩ := hx
  exact zig_lt (diffS_r h _ y hy)
def wayZ (z : List Nat) (t : Nat) : List Nat × Int := if (tailI z.tail t).2 ≠ 0 then ([], (tailI z.tail t).2) else (leb (z.headD 0) ++ (tailI z.tail t).1, 0)
def wayT (xs : List Int) (t : Nat) : List Nat × Int := if t = 0 then (raw8 xs, 0) else wayZ (zdI xs t) t
def wayI (xs : List Int) (w : Int) : List Nat × Int := if w < 0 ∨ 5 ≤ w then ([], 1) else if 65536 < xs.length then ([], 4) else if xs = [] then ([], 0) else wayT xs w.toNat
theorem wayT_len {xs : List Int} (t : Nat) (h : ∀ x ∈ xs, i64r x) (hl : xs.length ≤ 65536) : (wayT xs t).1.length ≤ 2 ^ 22 := by
  unfold wayT
  split
  · simp only [raw8_len]; omega
  · unfold wayZ
    split
    · simp
    · have hz := zdI_lt h t
      have hzl := zdI_len xs t
      have h0 : (zdI xs t).headD 0 < 2 ^ 64 := by
        cases hq : zdI xs t with
        | nil => simp
        | cons a r => exact hz a (by rw [hq]; simp)
      have h1 := leb_len10 h0
      have h2 := tailI_len (z := (zdI xs t).tail) t (fun x hx => hz x (List.mem_of_mem_tail hx)) (by rw [List.length_tail]; omega)
      simp only [List.length_append]; omega
theorem raw8_byte (xs : List Int) : ∀ x ∈ raw8 xs, x < 256 := by
  intro x hx
  simp only [raw8, List.mem_flatMap] at hx
  obtain ⟨y, _, hx⟩ := hx
  exact beB_byte _ _ x hx
theorem wayT_byte {xs : List Int} (t : Nat) (h : ∀ x ∈ xs, i64r x) : ∀ x ∈ (wayT xs t).1, x < 256 := by
  unfold wayT
  split
  · exact raw8_byte xs
  · unfold wayZ
    split
    · simp
    · intro x hx
      rcases List.mem_append.1 hx with hx | hx
      · exact leb_byte _ x hx
      · exact tailI_byte t (fun y hy => zdI_lt h t y (List.mem_of_mem_tail hy)) x hx
theorem wayI_len {xs : List Int} (w : Int) (h : ∀ x ∈ xs, i64r x) : (wayI xs w).1.length ≤ 2 ^ 22 := by
  unfold wayI
  split
  · simp
  · split
    · simp
    · split
      · simp
      · exact wayT_len _ h (by omega)
theorem wayI_byte {xs : List Int} (w : Int) (h : ∀ x ∈ xs, i64r x) : ∀ x ∈ (wayI xs w).1, x < 256 := by
  unfold wayI
  split
  · simp
  · split
    · simp
    · split
      · simp
      · exact wayT_byte _ h
def stepI (xs : List Int) (b : Nat × List Nat) (w : Nat) : Nat × List Nat := if (wayI xs w).2 = 0 ∧ (wayI xs w).1.length < b.2.length then (w, (wayI xs w).1) else b
def bestI (xs : List Int) (n : Nat) : Nat × List Nat := (List.range n).foldl (stepI xs) (0, (wayI xs 0).1)
theorem bestI_zero (xs : List Int) : bestI xs 0 = (0, (wayI xs 0).1) := rfl
theorem bestI_succ (xs : List Int) (n : Nat) : bestI xs (n + 1) = stepI xs (bestI xs n) n := by simp [bestI, List.range_succ]
theorem bestI_one (xs : List Int) : bestI xs 1 = (0, (wayI xs 0).1) := by
  rw [bestI_succ, bestI_zero, stepI]
  split
  · rename_i h; have := h.2; simp at this
  · rfl
theorem bestI_inv {xs : List Int} (h : ∀ x ∈ xs, i64r x) : ∀ n, n ≤ 5 → (bestI xs n).1 ≤ 4 ∧ (bestI xs n).2.length ≤ 2 ^ 22 ∧ ∀ x ∈ (bestI xs n).2, x < 256
  | 0, _ => ⟨Nat.zero_le _, wayI_len _ h, wayI_byte _ h⟩
  | n + 1, hn => by
    rw [bestI_succ, stepI]
    split
    · exact ⟨by simp only; omega, wayI_len _ h, wayI_byte _ h⟩
    · exact bestI_inv h n (by omega)
def encI (xs : List Int) : List Nat × Int := if 65536 < xs.length then ([], 4) else ((bestI xs 5).1 :: (bestI xs 5).2, 0)
def rvN : Nat → List Nat → List Nat → List Nat × Int
  | 0, acc, l => (acc, if l = [] then 0 else 3)
  | n + 1, acc, l => if (readV l).2.2 ≠ 0 then ([], (readV l).2.2) else rvN n (acc ++ [(readV l).1]) (l.drop (readV l).2.1)
def rwN : Nat → List Nat → List Nat → List Nat × Int
  | 0, acc, l => (acc, if l = [] then 0 else 3)
  | n + 1, acc, l => if l.length < 8 then ([], 2) else rwN n (acc ++ [beN (l.take 8)]) (l.drop 8)
def underI (l : List Nat) (n t : Nat) : List Nat × Int := if t = 2 then unF l n else if t = 3 then decS l n else decR l n
def numI (l : List Nat) (n t : Nat) : List Nat × Int :=
  if n = 0 then ([], if l = [] then 0 else 3)
  else if (readV l).2.2 ≠ 0 then ([], (readV l).2.2)
  else if t = 1 then rvN (n - 1) [(readV l).1] (l.drop (readV l).2.1)
  else ((readV l).1 :: (underI (l.drop (readV l).2.1) (n - 1) t).1, (underI (l.drop (readV l).2.1) (n - 1) t).2)
def rdI (l : List Nat) (n t : Nat) : List Nat × Int := if t = 0 then rwN n [] l else numI l n t
def valI (z : List Nat) (t : Nat) : List Int := if t = 0 then z.map i64of else sumS (z.map zag) (oft t)
def decI0 (b l : List Nat) (n t : Nat) : List Int × Int := if (rdI l n t).2 ≠ 0 then ([], (rdI l n t).2) else if (encI (valI (rdI l n t).1 t)).1 = b then (valI (rdI l n t).1 t, 0) else ([], 3)
def decI1 (b : List Nat) (n : Nat) : List Int × Int := match b with
  | [] => ([], 2)
  | t :: l => if 5 ≤ t then ([], 3) else decI0 b l n t
def decI (b : List Nat) (n : Int) : List Int × Int := if n < 0 ∨ 65536 < n then ([], 1) else decI1 b n.toNat
theorem rdS_len (n : Nat) : ∀ (k : Nat) (acc l : List Nat), l.length ≤ k → (∀ x ∈ l, x < 256) → acc.length ≤ n + 240 → (rdS n acc l).1.length ≤ n + 240 := by
  intro k
  induction k with
  | zero =>
    intro acc l hk hl ha
    by_cases h : acc.length < n
    · rw [rdS_short h (by omega)]; simp
    · rw [rdS_end h]; exact ha
  | succ k ih =>
    intro acc l hk hl ha
    by_cases h : acc.length < n
    · by_cases h8 : l.length < 8
      · rw [rdS_short h h8]; simp
      · rw [rdS_step h h8]
        have hwl := be8_lt l hl
        have hul : (unS (beN (l.take 8))).length ≤ 240 := by unfold unS; rw [valsS_len]; exact (cw _ (by omega)).2.1
        exact ih _ _ (by rw [List.length_drop]; omega) (fun x hx => hl x (List.mem_of_mem_drop hx)) (by rw [List.length_append]; omega)
    · rw [rdS_end h]; exact ha
theorem rdR_inv (n : Nat) : ∀ (k : Nat) (acc l : List Nat), n - acc.length ≤ k → (∀ x ∈ l, x < 256) → (∀ x ∈ acc, x < 2 ^ 64) → acc.length ≤ n → (rdR n acc l).1.length ≤ n ∧ ∀ x ∈ (rdR n acc l).1, x < 2 ^ 64 := by
  intro k
  induction k with
  | zero =>
    intro acc l hk hl hx ha
    rw [rdR_end (by omega)]
    exact ⟨ha, hx⟩
  | succ k ih =>
    intro acc l hk hl hx ha
    by_cases h : acc.length < n
    · by_cases h1 : (readV l).2.2 ≠ 0
      · rw [rdR_e1 h h1]; simp
      · by_cases h2 : (readV (l.drop (readV l).2.1)).2.2 ≠ 0
        · rw [rdR_e2 h h1 h2]; simp
        · by_cases h3 : badR n acc (readV l).1 (readV (l.drop (readV l).2.1)).1 = true
          · rw [rdR_e3 h h1 h2 h3]; simp
          · rw [rdR_step h h1 h2 h3]
            simp only [badR, Bool.or_eq_true, decide_eq_true_eq, not_or] at h3
            refine ih _ _ ?_ (fun x hx => hl x (List.mem_of_mem_drop (List.mem_of_mem_drop hx))) ?_ ?_
            · rw [List.length_append, List.length_replicate]; omega
            · intro x hx'
              rcases List.mem_append.1 hx' with hx' | hx'
              · exact hx x hx'
              · rw [List.eq_of_mem_replicate hx']; exact readV_lt hl
            · rw [List.length_append, List.length_replicate]; omega
    · rw [rdR_end h]; exact ⟨ha, hx⟩
theorem unF_inv (l : List Nat) (n : Nat) : (unF l n).1.length ≤ n ∧ ∀ x ∈ (unF l n).1, x < 2 ^ 64 := by
  unfold unF
  split
  · simp
  · unfold unF1
    split
    · simp
    · split
      · simp
      · split
        · simp
        · unfold unF2
          split
          · simp
          · rename_i hok
            split
            · simp
            · split
              · refine ⟨by simp only [valsF_len]; omega, okF_lt (by simpa using hok)⟩
              · simp
theorem underI_inv {l : List Nat} (n t : Nat) (hb : ∀ x ∈ l, x < 256) : (underI l n t).1.length ≤ n + 240 ∧ ∀ x ∈ (underI l n t).1, x < 2 ^ 64 := by
  unfold underI
  split
  · have := unF_inv l n; exact ⟨by omega, this.2⟩
  · split
    · unfold decS
      have h1 := rdS_len n l.length [] l (Nat.le_refl _) hb (by simp)
      have h2 := rdS_inv n l.length [] l (Nat.le_refl _) (by simp) hb
      simp only
      split
      · simp
      · split
        · simp
        · split
          · simp
          · split
            · exact ⟨h1, fun x hx => Nat.lt_trans (h2 x hx) (by omega)⟩
            · simp
    · unfold decR
      have h1 := rdR_inv n n [] l (by simp) hb (by simp) (by simp)
      simp only
      split
      · simp
      · split
        · simp
        · exact ⟨by have := h1.1; simp only; omega, h1.2⟩
theorem rvN_inv : ∀ (n : Nat) (acc l : List Nat), (∀ x ∈ l, x < 256) → (∀ x ∈ acc, x < 2 ^ 64) → (rvN n acc l).1.length ≤ acc.length + n ∧ ∀ x ∈ (rvN n acc l).1, x < 2 ^ 64
  | 0, acc, l, _, h => ⟨Nat.le_refl _, h⟩
  | n + 1, acc, l, hb, h => by
    rw [rvN]
    split
    · simp
    · have := rvN_inv n (acc ++ [(readV l).1]) (l.drop (readV l).2.1) (fun x hx => hb x (List.mem_of_mem_drop hx)) (by
        intro x hx
        rcases List.mem_append.1 hx with hx | hx
        · exact h x hx
        · rw [List.mem_singleton.1 hx]; exact readV_lt hb)
      rw [List.length_append, List.length_singleton] at this
      exact ⟨by omega, this.2⟩
theorem rwN_inv : ∀ (n : Nat) (acc l : List Nat), (∀ x ∈ l, x < 256) → (∀ x ∈ acc, x < 2 ^ 64) → (rwN n acc l).1.length ≤ acc.length + n ∧ ∀ x ∈ (rwN n acc l).1, x < 2 ^ 64
  | 0, acc, l, _, h => ⟨Nat.le_refl _, h⟩
  | n + 1, acc, l, hb, h => by
    rw [rwN]
    split
    · simp
    · have := rwN_inv n (acc ++ [beN (l.take 8)]) (l.drop 8) (fun x hx => hb x (List.mem_of_mem_drop hx)) (by
        intro x hx
        rcases List.mem_append.1 hx with hx | hx
        · exact h x hx
        · rw [List.mem_singleton.1 hx]; exact be8_lt l hb)
      rw [List.length_append, List.length_singleton] at this
      exact ⟨by omega, this.2⟩
theorem rdI_inv {l : List Nat} (n t : Nat) (hb : ∀ x ∈ l, x < 256) : (rdI l n t).1.length ≤ n + 240 ∧ ∀ x ∈ (rdI l n t).1, x < 2 ^ 64 := by
  unfold rdI
  split
  · have := rwN_inv n [] l hb (by simp)
    rw [List.length_nil] at this
    exact ⟨by omega, this.2⟩
  · unfold numI
    split
    · simp
    · split
      · simp
      · have hv := readV_lt hb
        have hd : ∀ x ∈ l.drop (readV l).2.1, x < 256 := fun x hx => hb x (List.mem_of_mem_drop hx)
        split
        · have := rvN_inv (n - 1) [(readV l).1] _ hd (by simpa using hv)
          rw [List.length_singleton] at this
          exact ⟨by omega, this.2⟩
        · have := underI_inv (n - 1) t hd
          refine ⟨by simp only [List.length_cons]; omega, ?_⟩
          intro x hx
          rcases List.mem_cons.1 hx with rfl | hx
          · exact hv
          · exact this.2 x hx
end Go.Ck
namespace Go.Ck
theorem u64s_rep (n : Nat) : List.replicate n (PV.int .u64 0) = u64s (List.replicate n 0) := by simp [u64s]
theorem fill_step {d : List Int} {i : Nat} (h : i < d.length) : ((d.map zig).take i ++ List.replicate (d.length - i) 0).set i (zig d[i]) = (d.map zig).take (i + 1) ++ List.replicate (d.length - (i + 1)) 0 := by
  obtain ⟨m, hm⟩ : ∃ m, d.length - i = m + 1 := ⟨d.length - i - 1, by omega⟩
  have hm2 : d.length - (i + 1) = m := by omega
  have hl : ((d.map zig).take i).length = i := by simp; omega
  have ht : (d.map zig).take (i + 1) = (d.map zig).take i ++ [zig d[i]] := by rw [List.take_add_one]; simp [h]
  rw [hm, hm2, ht, List.replicate_succ, List.set_append_right _ _ (by omega), hl, Nat.sub_self, List.set_cons_zero, List.append_assoc]
  rfl
end Go.Ck
namespace Go.Ck
theorem encI_byte {xs : List Int} (h : ∀ x ∈ xs, i64r x) : ∀ x ∈ (encI xs).1, x < 256 := by
  obtain ⟨h1, h2, h3⟩ := bestI_inv h 5 (Nat.le_refl _)
  unfold encI
  split
  · simp
  · intro x hx
    rcases List.mem_cons.1 hx with rfl | hx
    · omega
    · exact h3 x hx
theorem encI_room {xs : List Int} (h : ∀ x ∈ xs, i64r x) : (encI xs).1.length ≤ 2 ^ 23 := by
  obtain ⟨h1, h2, h3⟩ := bestI_inv h 5 (Nat.le_refl _)
  unfold encI
  split
  · simp
  · simp only [List.length_cons]; omega
end Go.Ck
namespace Go.Ck
theorem valI_r (z : List Nat) (t : Nat) (h : ∀ x ∈ z, x < 2 ^ 64) : ∀ x ∈ valI z t, i64r x := by
  unfold valI
  split
  · intro x hx
    simp only [List.mem_map] at hx
    obtain ⟨y, _, rfl⟩ := hx
    exact i64of_r y
  · refine sumS_r _ (fun x hx => ?_)
    simp only [List.mem_map] at hx
    obtain ⟨y, hy, rfl⟩ := hx
    exact zag_r (h y hy)
end Go.Ck

set_option linter.unusedVariables false
set_option maxRecDepth 10000
set_option maxHeartbeats 1000000
namespace Go.Ck
open Go.Proofs
theorem tail_fn (z : List Nat) (t : Nat) (hl : z.length ≤ 65536) (hx : ∀ x ∈ z, x < 2 ^ 64) : Fn Tryz.prog 65 [] [.pv (.sl 1 (u64s z)), .pv (.int .i64 t)]
    (fun rs H' => rs = [.own 5 (bytes (tailI z t).1), .pv (.int .i64 (tailI z t).2)] ∧ H' = []) := by
  refine Fn.of_body (fn := Tryz.f65) (n := 40) (res := [.tmp 4, .tmp 5]) (by kernel_rfl) rfl rfl rfl rfl rfl (fun C => ?_)
  have hr : room = 140737488355328 := rfl
  unfold tailI
  refine AW.go ?_
  refine AW.cond rfl (fun hc => ?_) (fun hc => ?_)
  · have h2 : t = 2 := by simp at hc; omega
    simp only [if_pos h2]
    refine AW.go ?_
    refine AW.callE (fun _ => 0) (pack_fn z hl hx) (.pv _ .nil) ?_
    refine AW.go ?_
    refine AW.finE (.move rfl (.pv _ .nil)) rfl
  have h2 : ¬ t = 2 := by simp at hc; omega
  simp only [if_neg h2]
  refine AW.go ?_
  refine AW.cond rfl (fun hc => ?_) (fun hc => ?_)
  · have h3 : t = 3 := by simp at hc; omega
    simp only [if_pos h3]
    refine AW.go ?_
    refine AW.callE (fun _ => 0) (simpleEnc_fn z hl hx) (.pv _ .nil) ?_
    refine AW.go ?_
    refine AW.finE (.move rfl (.pv _ .nil)) rfl
  have h3 : ¬ t = 3 := by simp at hc; omega
  simp only [if_neg h3]
  refine AW.go ?_
  refine AW.cond rfl (fun hc => ?_) (fun hc => ?_)
  · have h4 : t = 4 := by simp at hc; omega
    simp only [if_pos h4]
    refine AW.go ?_
    refine AW.callE (fun _ => 0) (runsEnc_fn z hl hx) (.pv _ .nil) ?_
    refine AW.go ?_
    refine AW.finE (.move rfl (.pv _ .nil)) rfl
  have h4 : ¬ t = 4 := by simp at hc; omega
  simp only [if_neg h4]
  refine AW.go ?_
  refine AW.loopS (fun i : Nat => ⟨40, [(30, .pv (.int .i64 i)), (29, .pv (.int .i64 z.length)), (28, .pv (.sl 1 (u64s z))), (6, .own 5 (bytes (lebs (z.take i))))], []⟩) (fun i => i ≤ z.length) (fun i => z.length - i) [30, 29, 28, 6] [] 0 (Nat.zero_le _) ?_
  rintro i hi K hK
  refine AW.go ?_
  refine AW.cond rfl (fun hc => ?_) (fun hc => ?_)
  · have hlt : i < z.length := by simpa using hc
    have hget := u64s_get hlt
    have hti : z.take (i + 1) = z.take i ++ [z[i]] := by simp
    have hxx := hx _ (List.getElem_mem hlt)
    have hll := lebs_len (z := z.take i) (fun x hx' => hx x (List.mem_of_mem_take hx'))
    have hls := lebs_snoc (z.take i) z[i]
    rw [List.length_take] at hll
    rw [← hti] at hls
    generalize z[i] = x at *
    have h10 := leb_len10 hxx
    have ei : IntKind.i64.wrap ((i : Int) + 1) = ((i + 1 : Nat) : Int) := wrap_i64_succ (by omega)
    have h1 : (lebs (z.take i)).length + (leb x).length ≤ room := by omega
    refine AW.go ?_ (by simp only [go_sem, ↓reduceIte, hget] <;> rfl)
    refine AW.callE (fun _ => 0) (append_fn [] x hxx (by simp; omega)) (.nilsP 1 (.pv _ .nil)) ?_
    refine AW.go ?_ (by simp only [go_sem, ↓reduceIte, List.nil_append, h1, ← hls, ei] <;> rfl)
    refine AW.again hK (i + 1) hlt (by omega)
  · have hge : ¬ i < z.length := by simpa using hc
    rw [List.take_of_length_le (by omega)]
    refine AW.go ?_
    refine AW.finE (.move rfl (.pv _ .nil)) rfl

theorem other_fn (z : List Nat) (t : Nat) (ht : 2 ≤ t) (ht4 : t ≤ 4) (hl : z.length ≤ 65536) (hx : ∀ x ∈ z, x < 2 ^ 64) : Fn Tryz.prog 71 [] [.pv (.sl 1 (u64s z)), .pv (.int .i64 t)]
    (fun rs H' => rs = [.own 5 (bytes (tailI z t).1), .pv (.int .i64 (tailI z t).2)] ∧ H' = []) := by
  refine Fn.of_body (fn := Tryz.f71) (n := 23) (res := [.tmp 4, .tmp 5]) (by kernel_rfl) rfl rfl rfl rfl rfl (fun C => ?_)
  have hr : room = 140737488355328 := rfl
  unfold tailI
  refine AW.go ?_
  refine AW.cond rfl (fun hc => ?_) (fun hc => ?_)
  · have h2 : t = 2 := by simp at hc; omega
    simp only [if_pos h2]
    refine AW.go ?_
    refine AW.callE (fun _ => 0) (refPack_fn z hl hx) (.pv _ .nil) ?_
    refine AW.go ?_
    refine AW.finE (.move rfl (.pv _ .nil)) rfl
  have h2 : ¬ t = 2 := by simp at hc; omega
  simp only [if_neg h2]
  refine AW.go ?_
  refine AW.cond rfl (fun hc => ?_) (fun hc => ?_)
  · have h3 : t = 3 := by simp at hc; omega
    simp only [if_pos h3]
    refine AW.go ?_
    refine AW.callE (fun _ => 0) (refSimpleEnc_fn z hl hx) (.pv _ .nil) ?_
    refine AW.go ?_
    refine AW.finE (.move rfl (.pv _ .nil)) rfl
  have h3 : ¬ t = 3 := by simp at hc; omega
  have h4 : t = 4 := by omega
  simp only [if_neg h3, if_pos h4]
  refine AW.go ?_
  refine AW.callE (fun _ => 0) (refRunsEnc_fn z hl hx) (.pv _ .nil) ?_
  refine AW.go ?_
  refine AW.finE (.move rfl (.pv _ .nil)) rfl

theorem zigs_fn (l : List Int) (hl : l.length ≤ 2 ^ 40) (hr64 : ∀ x ∈ l, i64r x) : Fn Tryz.prog 70 [] [.pv (.sl 1 (ints l))]
    (fun rs H' => rs = [.own 39 (u64s (l.map zig))] ∧ H' = []) := by
  refine Fn.of_body (fn := Tryz.f70) (n := 20) (res := [.tmp 2]) (by kernel_rfl) rfl rfl rfl rfl rfl (fun C => ?_)
  have hr : room = 140737488355328 := rfl
  refine AW.go ?_
  refine AW.loopS (fun i : Nat => ⟨20, [(4, .pv (.int .i64 i)), (3, .own 39 (u64s ((l.take i).map zig))), (0, .pv (.sl 1 (ints l)))], []⟩) (fun i => i ≤ l.length) (fun i => l.length - i) [4, 3, 0] [] 0 (Nat.zero_le _) ?_
  rintro i hi K hK
  refine AW.go ?_
  refine AW.cond rfl (fun hc => ?_) (fun hc => ?_)
  · have hlt : i < l.length := by simpa using hc
    have hget := ints_get hlt
    have hti : (l.take (i + 1)).map zig = (l.take i).map zig ++ [zig l[i]] := by rw [← List.map_singleton, ← List.map_append]; congr 1; simp
    have hxx := hr64 _ (List.getElem_mem hlt)
    generalize l[i] = x at *
    have ei : IntKind.i64.wrap ((i : Int) + 1) = ((i + 1 : Nat) : Int) := wrap_i64_succ (by omega)
    have hml : ((l.take i).map zig).length = i := by simp; omega
    have h1 : (i + 1) * 8 ≤ room := by omega
    have h2 : i + 1 ≤ room := by omega
    generalize (l.take i).map zig = m at *
    refine AW.go ?_ (by simp only [go_sem, ↓reduceIte, hget] <;> rfl)
    refine AW.callE (fun _ => 0) (refZig_fn x hxx) (.pv _ .nil) ?_
    refine AW.go ?_ (by simp only [go_sem, ↓reduceIte, hml, u64s_one, h1, h2, ← hti, ei] <;> rfl)
    refine AW.again hK (i + 1) hlt (by omega)
  · have hge : ¬ i < l.length := by simpa using hc
    rw [List.take_of_length_le (by omega)]
    refine AW.go ?_
    refine AW.finE (.move rfl .nil) rfl

theorem wayIn_fn (xs : List Int) (w : Int) (hr64 : ∀ x ∈ xs, i64r x) : Fn Tryz.prog 38 [] [.pv (.sl 1 (ints xs)), .pv (.int .i64 w)]
    (fun rs H' => rs = [.own 5 (bytes (wayI xs w).1), .pv (.int .i64 (wayI xs w).2)] ∧ H' = []) := by
  refine Fn.of_body (fn := Tryz.f38) (n := 87) (res := [.tmp 4, .tmp 5]) (by kernel_rfl) rfl rfl rfl rfl rfl (fun C => ?_)
  have hr : room = 140737488355328 := rfl
  unfold wayI
  by_cases hw : w < 0 ∨ 5 ≤ w
  · rw [if_pos hw]
    by_cases h0 : w < 0
    · have d0 : decide (w < 0) = true := decide_eq_true h0
      refine AW.gg ?_ (by simp only [go_sem, ↓reduceIte, d0] <;> rfl)
      refine AW.condT rfl ?_
      refine AW.go ?_
      refine AW.finE (.move rfl (.pv _ .nil)) rfl
    · have d0 : decide (w < 0) = false := decide_eq_false h0
      have d5 : decide (w ≥ 5) = true := decide_eq_true (by omega)
      have d5' : decide (5 ≤ w) = true := decide_eq_true (by omega)
      refine AW.gg ?_ (by simp only [go_sem, ↓reduceIte, d0, d5, d5'] <;> rfl)
      refine AW.condT rfl ?_
      refine AW.go ?_
      refine AW.finE (.move rfl (.pv _ .nil)) rfl
  rw [if_neg hw]
  obtain ⟨t, rfl⟩ : ∃ t : Nat, w = t := ⟨w.toNat, by omega⟩
  have ht : t < 5 := by omega
  rw [Int.toNat_natCast]
  have d5 : decide ((t : Int) ≥ 5) = false := decide_eq_false (by omega)
  have d5' : decide ((5 : Int) ≤ (t : Int)) = false := decide_eq_false (by omega)
  have d5'' : decide (5 ≤ t) = false := decide_eq_false (by omega)
  refine AW.gg ?_ (by simp only [go_sem, ↓reduceIte, d5, d5', d5''] <;> rfl)
  refine AW.condF rfl ?_
  refine AW.go ?_
  refine AW.cond rfl (fun hc => ?_) (fun hc => ?_)
  · have hl : 65536 < xs.length := by simp at hc; omega
    rw [if_pos hl]
    refine AW.go ?_
    refine AW.finE (.move rfl (.pv _ .nil)) rfl
  have hl : ¬ 65536 < xs.length := by simp at hc; omega
  rw [if_neg hl]
  refine AW.go ?_
  refine AW.cond rfl (fun hc => ?_) (fun hc => ?_)
  · have h0 : xs = [] := by
      have : xs.length = 0 := by simpa using hc
      exact List.length_eq_zero_iff.1 this
    rw [if_pos h0]
    refine AW.go ?_
    refine AW.finE (.move rfl (.pv _ .nil)) rfl
  have h0 : ¬ xs = [] := by rintro rfl; simp at hc
  rw [if_neg h0]
  have hpos : 0 < xs.length := by cases xs with | nil => exact absurd rfl h0 | cons a r => simp
  refine AW.go ?_
  refine AW.callE (fun _ => 0) (often_fn t) (.pv _ .nil) ?_
  refine AW.go ?_
  refine AW.callE (fun _ => 0) (diff_fn xs (oft t) (oft_le t) (by omega)) (.pv _ (.pv _ .nil)) ?_
  refine AW.freeze (p := .part 36 0) (by simp only [go_sem, ↓reduceIte, freeze, freezeO] <;> rfl) ?_
  have hdl := diffS_len xs (oft t)
  have hdr := diffS_r hr64 (oft t)
  unfold wayT
  refine AW.go ?_
  refine AW.cond rfl (fun hc => ?_) (fun hc => ?_)
  · have ht0 : t = 0 := by simpa using hc
    have hd0 : diffS xs (oft t) = xs := by rw [ht0]; rfl
    rw [if_pos ht0, hd0]
    refine AW.go ?_
    refine AW.loopS (fun i : Nat => ⟨87, [(43, .pv (.int .i64 i)), (42, .pv (.int .i64 xs.length)), (41, .pv (.sl 1 (ints xs))), (8, .own 5 (bytes (raw8 (xs.take i))))], []⟩) (fun i => i ≤ xs.length) (fun i => xs.length - i) [43, 42, 41, 8] [] 0 (Nat.zero_le _) ?_
    rintro i hi K hK
    refine AW.go ?_
    refine AW.cond rfl (fun hc2 => ?_) (fun hc2 => ?_)
    · have hlt : i < xs.length := by simpa using hc2
      have hget := ints_get hlt
      have hti : xs.take (i + 1) = xs.take i ++ [xs[i]] := by simp
      have hll := raw8_len (xs.take i)
      have hls := raw8_snoc (xs.take i) xs[i]
      rw [List.length_take] at hll
      rw [← hti] at hls
      generalize xs[i] = x at *
      have eu := u64of_wrap x
      have hu := u64of_lt x
      generalize u64of x = u at *
      have hb8 := beB_len u 8
      have ei : IntKind.i64.wrap ((i : Int) + 1) = ((i + 1 : Nat) : Int) := wrap_i64_succ (by omega)
      have h1 : (raw8 (xs.take i)).length + (beB u 8).length ≤ room := by omega
      refine AW.go ?_ (by simp only [go_sem, ↓reduceIte, hget, eu] <;> rfl)
      refine AW.callE (fun _ => 0) (fix_fn u 8 hu (by omega)) (.pv _ (.pv _ .nil)) ?_
      refine AW.go ?_ (by simp only [go_sem, ↓reduceIte, h1, ← hls, ei] <;> rfl)
      refine AW.again hK (i + 1) hlt (by omega)
    · have hge : ¬ i < xs.length := by simpa using hc2
      rw [List.take_of_length_le (by omega)]
      refine AW.go ?_
      refine AW.finE (.move rfl (.pv _ .nil)) rfl
  have ht0 : ¬ t = 0 := by simpa using hc
  rw [if_neg ht0]
  unfold zdI
  generalize diffS xs (oft t) = d at *
  have r1 : 8 * d.length ≤ room := by omega
  have r2 : d.length ≤ room := by omega
  refine AW.go ?_ (by simp only [go_sem, ↓reduceIte, r1, r2] <;> rfl)
  have hml : (d.map zig).length = d.length := by simp
  refine AW.loopS (fun i : Nat => ⟨87, [(59, .pv (.int .i64 i)), (58, .pv (.int .i64 d.length)), (57, .pv (.sl 1 (ints d))), (11, .own 39 (u64s ((d.map zig).take i ++ List.replicate (d.length - i) 0))), (1, .pv (.int .i64 t))], []⟩) (fun i => i ≤ d.length) (fun i => d.length - i) [59, 58, 57, 11, 1] [] 0 (Nat.zero_le _) ?_ (by simp only [go_sem, ↓reduceIte]) (by simp only [go_sem, ↓reduceIte, u64s_rep] <;> rfl)
  rintro i hi K hK
  have hal : ((d.map zig).take i ++ List.replicate (d.length - i) 0).length = d.length := by simp; omega
  refine AW.go ?_
  refine AW.cond rfl (fun hc2 => ?_) (fun hc2 => ?_)
  · have hlt : i < d.length := by simpa using hc2
    have hget := ints_get hlt
    have hxx := hdr _ (List.getElem_mem hlt)
    have hset : ((d.map zig).take i ++ List.replicate (d.length - i) 0).set i (zig d[i]) = (d.map zig).take (i + 1) ++ List.replicate (d.length - (i + 1)) 0 := fill_step hlt
    generalize (d.map zig).take i ++ List.replicate (d.length - i) 0 = A at *
    generalize d[i] = x at *
    have ei : IntKind.i64.wrap ((i : Int) + 1) = ((i + 1 : Nat) : Int) := wrap_i64_succ (by omega)
    refine AW.go ?_ (by simp only [go_sem, ↓reduceIte, hget] <;> rfl)
    refine AW.callE (fun _ => 0) (zig_fn x hxx) (.pv _ .nil) ?_
    have hgA := u64s_get (l := A) (i := i) (by omega)
    refine AW.go ?_ (by simp only [go_sem, ↓reduceIte, hal, hlt, hgA, u64s_set, hset, ei] <;> rfl)
    refine AW.again hK (i + 1) hlt (by omega)
  · have hge : i = d.length := by simp at hc2; omega
    subst hge
    rw [List.take_of_length_le (by omega), Nat.sub_self, List.replicate_zero, List.append_nil]
    have hzx : ∀ x ∈ d.map zig, x < 2 ^ 64 := by
      intro x hx
      simp only [List.mem_map] at hx
      obtain ⟨y, hy, rfl⟩ := hx
      exact zig_lt (hdr y hy)
    clear hal hK
    generalize d.map zig = z at *
    cases z with
    | nil => simp at hml; omega
    | cons z0 z =>
      have hz0 := hzx z0 (by simp)
      have hzt : ∀ x ∈ z, x < 2 ^ 64 := fun x hx => hzx x (by simp [hx])
      simp only [List.length_cons] at hml
      have hg0 := u64s_get0 z0 z
      have h10 := leb_len10 hz0
      refine AW.go ?_ (by simp only [go_sem, ↓reduceIte, hg0] <;> rfl)
      refine AW.callE (fun _ => 0) (append_fn [] z0 hz0 (by simp; omega)) (.nilsP 1 (.pv _ .nil)) ?_
      have v1 : (1 : Int) ≤ ((z.length + 1 : Nat) : Int) := by omega
      have v2 : (((z.length + 1 : Nat) : Int) - 1).toNat = z.length := by omega
      refine AW.go ?_ (by simp only [go_sem, ↓reduceIte, List.nil_append, List.length_cons, v1, v2] <;> rfl)
      have v3 : u64s z = ((u64s (z0 :: z)).drop 1).take z.length := by
        show u64s z = (u64s z).take z.length
        rw [List.take_of_length_le (by rw [u64s_length]; exact Nat.le_refl _)]
      refine AW.callE (fun _ => 0) (tail_fn z t (by omega) hzt) (.lendV rfl rfl v3 (.pv _ .nil)) ?_
      have hzd : (z0 :: z).tail = z := rfl
      have hzh : (z0 :: z).headD 0 = z0 := rfl
      unfold wayZ
      rw [hzd, hzh]
      have htl := tailI_len t hzt (by omega)
      generalize tailI z t = r at *
      obtain ⟨rb, re⟩ := r
      simp only at htl ⊢
      refine AW.go ?_
      refine AW.cond rfl (fun hc3 => ?_) (fun hc3 => ?_)
      · have he : re ≠ 0 := by simpa using hc3
        simp only [if_pos he]
        refine AW.go ?_
        refine AW.finE (.move rfl (.pv _ .nil)) rfl
      · have he : ¬ re ≠ 0 := by simpa using hc3
        simp only [if_neg he]
        have h1 : (leb z0).length + rb.length ≤ room := by omega
        refine AW.go ?_ (by simp only [go_sem, ↓reduceIte, h1] <;> rfl)
        refine AW.finE (.move rfl (.pv _ .nil)) rfl
end Go.Ck

set_option linter.unusedVariables false
set_option maxRecDepth 10000
set_option maxHeartbeats 1000000
namespace Go.Ck
open Go.Proofs
theorem refWayIn_fn (xs : List Int) (w : Int) (hr64 : ∀ x ∈ xs, i64r x) : Fn Tryz.prog 42 [] [.pv (.sl 1 (ints xs)), .pv (.int .i64 w)]
    (fun rs H' => rs = [.own 5 (bytes (wayI xs w).1), .pv (.int .i64 (wayI xs w).2)] ∧ H' = []) := by
  refine Fn.of_body (fn := Tryz.f42) (n := 86) (res := [.tmp 4, .tmp 5]) (by kernel_rfl) rfl rfl rfl rfl rfl (fun C => ?_)
  have hr : room = 140737488355328 := rfl
  unfold wayI
  by_cases hw : w < 0 ∨ 5 ≤ w
  · rw [if_pos hw]
    by_cases h0 : w < 0
    · have d0 : decide (w < 0) = true := decide_eq_true h0
      refine AW.gg ?_ (by simp only [go_sem, ↓reduceIte, d0] <;> rfl)
      refine AW.condT rfl ?_
      refine AW.go ?_
      refine AW.finE (.move rfl (.pv _ .nil)) rfl
    · have d0 : decide (w < 0) = false := decide_eq_false h0
      have d5 : decide (w > 4) = true := decide_eq_true (by omega)
      have d5' : decide (4 < w) = true := decide_eq_true (by omega)
      refine AW.gg ?_ (by simp only [go_sem, ↓reduceIte, d0, d5, d5'] <;> rfl)
      refine AW.condT rfl ?_
      refine AW.go ?_
      refine AW.finE (.move rfl (.pv _ .nil)) rfl
  rw [if_neg hw]
  obtain ⟨t, rfl⟩ : ∃ t : Nat, w = t := ⟨w.toNat, by omega⟩
  have ht : t < 5 := by omega
  rw [Int.toNat_natCast]
  have d5 : decide ((t : Int) > 4) = false := decide_eq_false (by omega)
  have d5' : decide ((4 : Int) < (t : Int)) = false := decide_eq_false (by omega)
  have d5'' : decide (4 < t) = false := decide_eq_false (by omega)
  refine AW.gg ?_ (by simp only [go_sem, ↓reduceIte, d5, d5', d5''] <;> rfl)
  refine AW.condF rfl ?_
  refine AW.go ?_
  refine AW.cond rfl (fun hc => ?_) (fun hc => ?_)
  · have hl : 65536 < xs.length := by simp at hc; omega
    rw [if_pos hl]
    refine AW.go ?_
    refine AW.finE (.move rfl (.pv _ .nil)) rfl
  have hl : ¬ 65536 < xs.length := by simp at hc; omega
  rw [if_neg hl]
  refine AW.go ?_
  refine AW.cond rfl (fun hc => ?_) (fun hc => ?_)
  · have h0 : xs = [] := by
      have : xs.length = 0 := by simpa using hc
      exact List.length_eq_zero_iff.1 this
    rw [if_pos h0]
    refine AW.go ?_
    refine AW.finE (.move rfl (.pv _ .nil)) rfl
  have h0 : ¬ xs = [] := by rintro rfl; simp at hc
  rw [if_neg h0]
  have hpos : 0 < xs.length := by cases xs with | nil => exact absurd rfl h0 | cons a r => simp
  unfold wayT
  refine AW.go ?_
  refine AW.cond rfl (fun hc => ?_) (fun hc => ?_)
  · have ht0 : t = 0 := by simpa using hc
    rw [if_pos ht0]
    refine AW.go ?_
    refine AW.loopS (fun i : Nat => ⟨86, [(7, .pv (.int .i64 i)), (6, .own 5 (bytes (raw8 (xs.take i)))), (0, .pv (.sl 1 (ints xs)))], []⟩) (fun i => i ≤ xs.length) (fun i => xs.length - i) [7, 6, 0] [] 0 (Nat.zero_le _) ?_
    rintro i hi K hK
    refine AW.go ?_
    refine AW.cond rfl (fun hc2 => ?_) (fun hc2 => ?_)
    · have hlt : i < xs.length := by simpa using hc2
      have hget := ints_get hlt
      have hti : xs.take (i + 1) = xs.take i ++ [xs[i]] := by simp
      have hll := raw8_len (xs.take i)
      have hls := raw8_snoc (xs.take i) xs[i]
      rw [List.length_take] at hll
      rw [← hti] at hls
      generalize xs[i] = x at *
      have eu := u64of_wrap x
      have hu := u64of_lt x
      generalize u64of x = u at *
      have hb8 := beB_len u 8
      have ei : IntKind.i64.wrap ((i : Int) + 1) = ((i + 1 : Nat) : Int) := wrap_i64_succ (by omega)
      have h1 : (raw8 (xs.take i)).length + (beB u 8).length ≤ room := by omega
      refine AW.go ?_ (by simp only [go_sem, ↓reduceIte, hget, eu] <;> rfl)
      refine AW.callE (fun _ => 0) (refFix_fn u 8 hu (by omega)) (.pv _ (.pv _ .nil)) ?_
      refine AW.go ?_ (by simp only [go_sem, ↓reduceIte, h1, ← hls, ei] <;> rfl)
      refine AW.again hK (i + 1) hlt (by omega)
    · have hge : ¬ i < xs.length := by simpa using hc2
      rw [List.take_of_length_le (by omega)]
      refine AW.go ?_
      refine AW.finE (.move rfl (.pv _ .nil)) rfl
  have ht0 : ¬ t = 0 := by simpa using hc
  rw [if_neg ht0]
  unfold zdI
  have hdl := diffS_len xs (oft t)
  have hdr := diffS_r hr64 (oft t)
  have hD := refDiff_fn xs (by omega) (oft t) (oft_le t)
  refine AW.go ?_
  refine AW.joinS (fun _ : Unit => ⟨86, [(8, .pv (.int .i64 (oft t : Nat))), (6, .own 5 (bytes [])), (1, .pv (.int .i64 t)), (0, .pv (.sl 1 (ints xs)))], []⟩) (fun _ => True) [8, 6, 1, 0] [] ?_ ?_
  · intro K hK
    refine AW.cond rfl (fun hc2 => ?_) (fun hc2 => ?_)
    · have h3 : 3 ≤ t := by simp at hc2; omega
      have ho : ((oft t : Nat) : Int) = 2 := by unfold oft; rw [if_neg ht0, if_pos (by omega)]; rfl
      refine AW.go ?_
      refine AW.meet hK () trivial (by simp only [go_sem, ↓reduceIte]) (by simp only [go_sem, ↓reduceIte, ho] <;> rfl)
    · have h3 : ¬ 3 ≤ t := by simp at hc2; omega
      have ho : ((oft t : Nat) : Int) = 1 := by unfold oft; rw [if_neg ht0, if_neg (by omega)]; rfl
      refine AW.go ?_
      refine AW.meet hK () trivial (by simp only [go_sem, ↓reduceIte]) (by simp only [go_sem, ↓reduceIte, ho] <;> rfl)
  rintro _ -
  refine AW.go ?_
  refine AW.callE (fun _ => 0) hD (.pv _ (.pv _ .nil)) ?_
  refine AW.freeze (p := .part 49 0) (by simp only [go_sem, ↓reduceIte, freeze, freezeO] <;> rfl) ?_
  generalize diffS xs (oft t) = d at *
  refine AW.go ?_
  refine AW.callE (fun _ => 0) (zigs_fn d (by omega) hdr) (.pv _ .nil) ?_
  have hzx : ∀ x ∈ d.map zig, x < 2 ^ 64 := by
    intro x hx
    simp only [List.mem_map] at hx
    obtain ⟨y, hy, rfl⟩ := hx
    exact zig_lt (hdr y hy)
  have hml : (d.map zig).length = d.length := by simp
  generalize d.map zig = zz at *
  refine AW.go ?_
  cases zz with
  | nil => simp at hml; omega
  | cons z0 z =>
    have hz0 := hzx z0 (by simp)
    have hzt : ∀ x ∈ z, x < 2 ^ 64 := fun x hx => hzx x (by simp [hx])
    simp only [List.length_cons] at hml
    have hg0 := u64s_get0 z0 z
    have h10 := leb_len10 hz0
    have hzd : (z0 :: z).tail = z := rfl
    have hzh : (z0 :: z).headD 0 = z0 := rfl
    unfold wayZ
    refine AW.cond rfl (fun hc2 => ?_) (fun hc2 => ?_)
    · have ht1 : t = 1 := by simp at hc2; omega
      have htail : tailI z t = (lebs z, 0) := by unfold tailI; rw [if_neg (by omega), if_neg (by omega), if_neg (by omega)]
      have hlz : leb z0 ++ lebs z = lebs (z0 :: z) := (lebs_cons z0 z).symm
      rw [hzd, hzh, htail]
      simp only [ne_eq, not_true_eq_false, if_false, hlz]
      clear hg0 hzd hzh
      have hzl : (z0 :: z).length ≤ 65536 := by simp only [List.length_cons]; omega
      generalize z0 :: z = q at *
      refine AW.go ?_
      refine AW.loopS (fun i : Nat => ⟨86, [(12, .pv (.int .i64 i)), (11, .own 39 (u64s q)), (6, .own 5 (bytes (lebs (q.take i))))], []⟩) (fun i => i ≤ q.length) (fun i => q.length - i) [12, 11, 6] [] 0 (Nat.zero_le _) ?_
      rintro i hi K hK
      refine AW.go ?_
      refine AW.cond rfl (fun hc3 => ?_) (fun hc3 => ?_)
      · have hlt : i < q.length := by simpa using hc3
        have hget := u64s_get hlt
        have hti : q.take (i + 1) = q.take i ++ [q[i]] := by simp
        have hxx := hzx _ (List.getElem_mem hlt)
        have hll := lebs_len (z := q.take i) (fun x hx' => hzx x (List.mem_of_mem_take hx'))
        have hls := lebs_snoc (q.take i) q[i]
        rw [List.length_take] at hll
        rw [← hti] at hls
        generalize q[i] = x at *
        have ei : IntKind.i64.wrap ((i : Int) + 1) = ((i + 1 : Nat) : Int) := wrap_i64_succ (by omega)
        refine AW.go ?_ (by simp only [go_sem, ↓reduceIte, hget, hlt] <;> rfl)
        refine AW.callE (fun _ => 0) (refAppend_fn (lebs (q.take i)) x hxx (by omega)) (.lend rfl co_5 (.pv _ .nil)) ?_
        refine AW.go ?_ (by simp only [go_sem, ↓reduceIte, ← hls, ei] <;> rfl)
        refine AW.again hK (i + 1) hlt (by omega)
      · have hge : ¬ i < q.length := by simpa using hc3
        rw [List.take_of_length_le (by omega)]
        refine AW.go ?_
        refine AW.finE (.move rfl (.pv _ .nil)) rfl
    have ht1 : ¬ t = 1 := by simp at hc2; omega
    refine AW.go ?_ (by simp only [go_sem, ↓reduceIte, hg0] <;> rfl)
    refine AW.callE (fun _ => 0) (refAppend_fn [] z0 hz0 (by simp; omega)) (.nilsP 1 (.pv _ .nil)) ?_
    have v1 : (1 : Int) ≤ ((z.length + 1 : Nat) : Int) := by omega
    have v2 : (((z.length + 1 : Nat) : Int) - 1).toNat = z.length := by omega
    refine AW.go ?_ (by simp only [go_sem, ↓reduceIte, List.nil_append, List.length_cons, v1, v2] <;> rfl)
    have v3 : u64s z = ((u64s (z0 :: z)).drop 1).take z.length := by
      show u64s z = (u64s z).take z.length
      rw [List.take_of_length_le (by rw [u64s_length]; exact Nat.le_refl _)]
    refine AW.callE (fun _ => 0) (other_fn z t (by omega) (by omega) (by omega) hzt) (.lendV rfl rfl v3 (.pv _ .nil)) ?_
    rw [hzd, hzh]
    have htl := tailI_len t hzt (by omega)
    generalize tailI z t = r at *
    obtain ⟨rb, re⟩ := r
    simp only at htl ⊢
    refine AW.go ?_
    refine AW.cond rfl (fun hc3 => ?_) (fun hc3 => ?_)
    · have he : re ≠ 0 := by simpa using hc3
      simp only [if_pos he]
      refine AW.go ?_
      refine AW.finE (.move rfl (.pv _ .nil)) rfl
    · have he : ¬ re ≠ 0 := by simpa using hc3
      simp only [if_neg he]
      have h1 : (leb z0).length + rb.length ≤ room := by omega
      refine AW.go ?_ (by simp only [go_sem, ↓reduceIte, h1] <;> rfl)
      refine AW.finE (.move rfl (.pv _ .nil)) rfl

theorem encI_fn (xs : List Int) (hr64 : ∀ x ∈ xs, i64r x) : Fn Tryz.prog 15 [] [.pv (.sl 1 (ints xs))]
    (fun rs H' => rs = [.own 5 (bytes (encI xs).1), .pv (.int .i64 (encI xs).2)] ∧ H' = []) := by
  refine Fn.of_body (fn := Tryz.f15) (n := 44) (res := [.tmp 2, .tmp 3]) (by kernel_rfl) rfl rfl rfl rfl rfl (fun C => ?_)
  have hr : room = 140737488355328 := rfl
  unfold encI
  refine AW.go ?_
  refine AW.cond rfl (fun hc => ?_) (fun hc => ?_)
  · have hl : 65536 < xs.length := by simp at hc; omega
    simp only [if_pos hl]
    refine AW.go ?_
    refine AW.finE (.move rfl (.pv _ .nil)) rfl
  have hl : ¬ 65536 < xs.length := by simp at hc; omega
  simp only [if_neg hl]
  have hinv := bestI_inv hr64
  have hb0 := bestI_zero xs
  refine AW.go ?_
  refine AW.callE (fun _ => 0) (wayIn_fn xs 0 hr64) (.pv _ (.pv _ .nil)) ?_
  refine AW.freeze (p := .part 15 0) (by simp only [go_sem, ↓reduceIte, freeze, freezeO] <;> rfl) ?_
  refine AW.go ?_
  refine AW.loopS (fun w : Nat => ⟨44, [(18, .pv (.int .i64 w)), (6, .pv (.int .i64 ((bestI xs w).1 : Nat))), (4, .pv (.sl 1 (bytes (bestI xs w).2))), (0, .pv (.sl 1 (ints xs)))], []⟩) (fun w => w ≤ 5) (fun w => 5 - w) [18, 6, 4, 0] [] 0 (Nat.zero_le _) ?_ (by simp only [go_sem, ↓reduceIte]) (by simp only [go_sem, ↓reduceIte, hb0] <;> rfl)
  rintro w hw K hK
  refine AW.go ?_
  refine AW.cond rfl (fun hc2 => ?_) (fun hc2 => ?_)
  · have hlt : w < 5 := by simp at hc2; omega
    have hsu := bestI_succ xs w
    rw [stepI] at hsu
    have ei : IntKind.i64.wrap ((w : Int) + 1) = ((w + 1 : Nat) : Int) := wrap_i64_succ (by omega)
    refine AW.go ?_
    refine AW.callE (fun _ => 0) (wayIn_fn xs (w : Int) hr64) (.pv _ (.pv _ .nil)) ?_
    refine AW.freeze (p := .part 24 0) (by simp only [go_sem, ↓reduceIte, freeze, freezeO] <;> rfl) ?_
    generalize wayI xs (w : Int) = r at *
    obtain ⟨rb, re⟩ := r
    simp only at hsu ⊢
    generalize bestI xs w = b at *
    obtain ⟨bt, bb⟩ := b
    simp only at hsu ⊢
    by_cases he : re = 0
    · have eb : (re == 0) = true := by simpa using he
      by_cases hlen : rb.length < bb.length
      · rw [if_pos ⟨he, hlen⟩] at hsu
        have dl : decide (rb.length < bb.length) = true := decide_eq_true hlen
        refine AW.gg ?_ (by simp only [go_sem, ↓reduceIte, eb, dl] <;> rfl)
        refine AW.condT rfl ?_
        refine AW.go ?_ (by simp only [go_sem, ↓reduceIte, ei] <;> rfl)
        refine AW.again hK (w + 1) (by omega) (by omega) (by simp only [go_sem, ↓reduceIte]) (by simp only [go_sem, ↓reduceIte, hsu] <;> rfl)
      · rw [if_neg (fun h => hlen h.2)] at hsu
        have dl : decide (rb.length < bb.length) = false := decide_eq_false hlen
        refine AW.gg ?_ (by simp only [go_sem, ↓reduceIte, eb, dl] <;> rfl)
        refine AW.condF rfl ?_
        refine AW.go ?_ (by simp only [go_sem, ↓reduceIte, ei] <;> rfl)
        refine AW.again hK (w + 1) (by omega) (by omega) (by simp only [go_sem, ↓reduceIte]) (by simp only [go_sem, ↓reduceIte, hsu] <;> rfl)
    · have eb : (re == 0) = false := by simpa using he
      rw [if_neg (fun h => he h.1)] at hsu
      refine AW.gg ?_ (by simp only [go_sem, ↓reduceIte, eb] <;> rfl)
      refine AW.condF rfl ?_
      refine AW.go ?_ (by simp only [go_sem, ↓reduceIte, ei] <;> rfl)
      refine AW.again hK (w + 1) (by omega) (by omega) (by simp only [go_sem, ↓reduceIte]) (by simp only [go_sem, ↓reduceIte, hsu] <;> rfl)
  · have hge : w = 5 := by simp at hc2; omega
    subst hge
    obtain ⟨i1, i2, -⟩ := hinv 5 (Nat.le_refl _)
    generalize bestI xs 5 = b at *
    obtain ⟨bt, bb⟩ := b
    simp only at i1 i2 ⊢
    have eu : IntKind.u8.wrap ((bt : Nat) : Int) = (bt : Nat) := wrap_u8_lt (by omega)
    have h1 : 1 + bb.length ≤ room := by omega
    refine AW.go ?_ (by simp only [go_sem, ↓reduceIte, eu, bytes_one, h1, List.length_cons, List.length_nil, Nat.zero_add, List.cons_append, List.nil_append] <;> rfl)
    refine AW.finE (.move rfl (.pv _ .nil)) rfl

def refB (xs : List Int) (w : Nat) : Int × List Nat := if w = 0 then (-1, []) else (((bestI xs w).1 : Nat), (bestI xs w).2)
theorem wayI_zero {xs : List Int} (h : ¬ 65536 < xs.length) : (wayI xs 0).2 = 0 := by
  unfold wayI
  rw [if_neg (by omega), if_neg h]
  split
  · rfl
  · rfl
theorem refEncI_fn (xs : List Int) (hr64 : ∀ x ∈ xs, i64r x) : Fn Tryz.prog 19 [] [.pv (.sl 1 (ints xs))]
    (fun rs H' => rs = [.own 5 (bytes (encI xs).1), .pv (.int .i64 (encI xs).2)] ∧ H' = []) := by
  refine Fn.of_body (fn := Tryz.f19) (n := 42) (res := [.tmp 2, .tmp 3]) (by kernel_rfl) rfl rfl rfl rfl rfl (fun C => ?_)
  have hr : room = 140737488355328 := rfl
  unfold encI
  refine AW.go ?_
  refine AW.cond rfl (fun hc => ?_) (fun hc => ?_)
  · have hl : 65536 < xs.length := by simp at hc; omega
    simp only [if_pos hl]
    refine AW.go ?_
    refine AW.finE (.move rfl (.pv _ .nil)) rfl
  have hl : ¬ 65536 < xs.length := by simp at hc; omega
  simp only [if_neg hl]
  have hinv := bestI_inv hr64
  have hb1 := bestI_one xs
  have hz := wayI_zero hl
  refine AW.go ?_
  refine AW.freeze (p := .slot 5) (by simp only [go_sem, ↓reduceIte, freeze, freezeO] <;> rfl) ?_
  refine AW.loopS (fun w : Nat => ⟨42, [(6, .pv (.int .i64 w)), (4, .pv (.int .i64 (refB xs w).1)), (5, .pv (.sl 1 (bytes (refB xs w).2))), (0, .pv (.sl 1 (ints xs)))], []⟩) (fun w => w ≤ 5) (fun w => 5 - w) [6, 4, 5, 0] [] 0 (Nat.zero_le _) ?_
  rintro w hw K hK
  refine AW.go ?_
  refine AW.cond rfl (fun hc2 => ?_) (fun hc2 => ?_)
  · have hlt : w < 5 := by simp at hc2; omega
    have hsu := bestI_succ xs w
    rw [stepI] at hsu
    have ei : IntKind.i64.wrap ((w : Int) + 1) = ((w + 1 : Nat) : Int) := wrap_i64_succ (by omega)
    have hrs : refB xs (w + 1) = (((bestI xs (w + 1)).1 : Int), (bestI xs (w + 1)).2) := by unfold refB; rw [if_neg (by omega)]
    refine AW.go ?_
    refine AW.callE (fun _ => 0) (refWayIn_fn xs (w : Int) hr64) (.pv _ (.pv _ .nil)) ?_
    refine AW.freeze (p := .part 19 0) (by simp only [go_sem, ↓reduceIte, freeze, freezeO] <;> rfl) ?_
    by_cases hw0 : w = 0
    · subst hw0
      have hr0 : refB xs 0 = (-1, []) := rfl
      rw [hb1] at hrs
      have hc0 : ((0 : Nat) : Int) = 0 := rfl
      rw [hc0]
      generalize wayI xs 0 = r at *
      obtain ⟨rb, re⟩ := r
      simp only at hz hrs ⊢
      subst hz
      refine AW.gg ?_ (by simp only [go_sem, ↓reduceIte, hr0] <;> rfl)
      refine AW.condT rfl ?_
      refine AW.go ?_ (by simp only [go_sem, ↓reduceIte, ei] <;> rfl)
      refine AW.again hK 1 (by omega) (by omega) (by simp only [go_sem, ↓reduceIte]) (by simp only [go_sem, ↓reduceIte, hrs] <;> rfl)
    have hrw : refB xs w = (((bestI xs w).1 : Int), (bestI xs w).2) := by unfold refB; rw [if_neg hw0]
    rw [hrw]
    generalize wayI xs (w : Int) = r at *
    obtain ⟨rb, re⟩ := r
    simp only at hsu ⊢
    generalize bestI xs w = b at *
    obtain ⟨bt, bb⟩ := b
    simp only at hsu ⊢
    by_cases he : re = 0
    · have eb : (re == 0) = true := by simpa using he
      by_cases hlen : rb.length < bb.length
      · rw [if_pos ⟨he, hlen⟩] at hsu
        rw [hsu] at hrs
        have dl : decide (rb.length < bb.length) = true := decide_eq_true hlen
        refine AW.gg ?_ (by simp only [go_sem, ↓reduceIte, eb, dl] <;> rfl)
        refine AW.condT rfl ?_
        refine AW.go ?_ (by simp only [go_sem, ↓reduceIte, ei] <;> rfl)
        refine AW.again hK (w + 1) (by omega) (by omega) (by simp only [go_sem, ↓reduceIte]) (by simp only [go_sem, ↓reduceIte, hrs] <;> rfl)
      · rw [if_neg (fun h => hlen h.2)] at hsu
        rw [hsu] at hrs
        have dl : decide (rb.length < bb.length) = false := decide_eq_false hlen
        refine AW.gg ?_ (by simp only [go_sem, ↓reduceIte, eb, dl] <;> rfl)
        refine AW.condF rfl ?_
        refine AW.go ?_ (by simp only [go_sem, ↓reduceIte, ei] <;> rfl)
        refine AW.again hK (w + 1) (by omega) (by omega) (by simp only [go_sem, ↓reduceIte]) (by simp only [go_sem, ↓reduceIte, hrs] <;> rfl)
    · have eb : (re == 0) = false := by simpa using he
      rw [if_neg (fun h => he h.1)] at hsu
      rw [hsu] at hrs
      refine AW.gg ?_ (by simp only [go_sem, ↓reduceIte, eb] <;> rfl)
      refine AW.condF rfl ?_
      refine AW.go ?_ (by simp only [go_sem, ↓reduceIte, ei] <;> rfl)
      refine AW.again hK (w + 1) (by omega) (by omega) (by simp only [go_sem, ↓reduceIte]) (by simp only [go_sem, ↓reduceIte, hrs] <;> rfl)
  · have hge : w = 5 := by simp at hc2; omega
    subst hge
    have hrw : refB xs 5 = (((bestI xs 5).1 : Int), (bestI xs 5).2) := by unfold refB; rw [if_neg (by omega)]
    rw [hrw]
    obtain ⟨i1, i2, -⟩ := hinv 5 (Nat.le_refl _)
    generalize bestI xs 5 = b at *
    obtain ⟨bt, bb⟩ := b
    simp only at i1 i2 ⊢
    have eu : IntKind.u8.wrap ((bt : Nat) : Int) = (bt : Nat) := wrap_u8_lt (by omega)
    have h1 : 1 + bb.length ≤ room := by omega
    refine AW.go ?_ (by simp only [go_sem, ↓reduceIte, eu, bytes_one, h1, List.length_cons, List.length_nil, Nat.zero_add, List.cons_append, List.nil_append] <;> rfl)
    refine AW.finE (.move rfl (.pv _ .nil)) rfl
end Go.Ck

set_option linter.unusedVariables false
namespace Go.Ck
section
variable {P : Program} {R : Option Nat} {Φ : Exit → Cx → St → Prop} {k : List It} {C : Cx} {s : St}
theorem AW.callZ {α : Type} {all : Array Oper} {o : Oper} {r : List Oper} {f : FuncId} {svs : List SV} {H : List (Nat × HO)} {H' : α → List (Nat × HO)} {args : List SV} {rs : α → List SV} {L : List Place} {m : Option Place} {d : Nat} {s' : α → St} (ρ : Nat → Nat)
    (hF : Fn P f H args (fun rs' h => ∃ z, rs' = rs z ∧ h = H' z)) (hP : Pass P s ρ svs args L m) (h : ∀ z, AW P R Φ .normal (.ops all r :: k) C (s' z)) (hg : o.guard = none := by rfl) (hd : o.dst = some d := by rfl) (hc : callOp s o.op = some (f, svs) := by simp only [go_sem, ↓reduceIte] <;> rfl) (hM : HM s ρ H := by simp only [go_sem, ↓reduceIte]) (hB : okB ρ H args L m = true := by simp only [go_sem, ↓reduceIte])
    (hA : ∀ z, okA s ρ H L (rs z) (H' z) = true := by intro z; simp only [go_sem, ↓reduceIte]) (hs : ∀ z, behind s ρ m H d (rs z) (H' z) = s' z := by intro z; simp only [go_sem, ↓reduceIte] <;> rfl) :
    AW P R Φ .normal (.ops all (o :: r) :: k) C s := AW.callX ρ hg hd hc hF hP hM hB (fun rs' h' ⟨z, e1, e2⟩ => by subst e1; subst e2; exact ⟨hA z, by rw [hs]; exact h z⟩)
theorem AW.finZ {α : Type} {res : List ResultVar} {H : List (Nat × HO)} {H' : α → List (Nat × HO)} {e : Exit} {svs : List SV} {rs : α → List SV} {L : List Place} {m : Option Place} (z : α) (hP : Pass P s id svs (rs z) L m) (he : e = .normal ∨ e = .ret := by first | exact .inl rfl | exact .inr rfl) (hv : retsV P s res = some svs := by simp only [go_sem, ↓reduceIte] <;> rfl) (hM : HM s id (H' z) := by simp only [go_sem, ↓reduceIte]; try trivial) (hB : okB id (H' z) (rs z) L m = true := by simp only [go_sem, ↓reduceIte])
    (hn : allIn H (H' z) = true := by simp only [go_sem, ↓reduceIte]) : AW P R (Ends P res H (fun rs' h => ∃ z, rs' = rs z ∧ h = H' z) C) e [] C s := AW.fin he hv hP hM hB hn ⟨z, rfl, rfl⟩
end
end Go.Ck
