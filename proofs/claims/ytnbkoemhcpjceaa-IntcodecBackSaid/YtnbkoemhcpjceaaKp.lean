/- What is proved here: parts of the proofs of this seat's statements (a verified evaluator for calls over pure values, its laws, and contracts of functions). No condition. -/
import Derived.Test.YtnbkoemhcpjceaaKo
set_option linter.all false
set_option linter.unusedVariables false
set_option maxRecDepth 10000
set_option maxHeartbeats 1000000
namespace Go.Ck
open Go.Proofs
theorem i64of_def (v : Nat) : IntKind.i64.wrap ((v : Nat) : Int) = i64of v := rfl
theorem whole_fn (l : List Nat) (n : Nat) (hn : n ≤ 65536) (hl : l.length ≤ 2 ^ 40) (hb : ∀ x ∈ l, x < 256) : Fn Try.prog 32 (curO l) [.ptr 1000 0, .pv (.int .i64 n)]
    (fun rs H' => ∃ q : List Nat, rs = [.own 3 (ints ((rwN n [] l).1.map i64of)), .pv (.int .i64 (rwN n [] l).2)] ∧ H' = curO q) := by
  refine Fn.of_body (fn := Try.f32) (n := 29) (res := [.tmp 4, .tmp 5]) (by kernel_rfl) rfl rfl rfl rfl rfl (fun C => ?_)
  have hr : room = 140737488355328 := rfl
  refine AW.go ?_
  refine AW.loopS (fun a : Nat × List Nat × List Nat => ⟨29, [(10, .pv (.int .i64 a.1)), (9, .pv (.int .i64 n)), (6, .own 3 (ints (a.2.1.map i64of))), (0, .ptr 1000 0)], curO a.2.2⟩) (fun a => a.1 ≤ n ∧ rwN (n - a.1) a.2.1 a.2.2 = rwN n [] l ∧ (∀ x ∈ a.2.2, x < 256) ∧ a.2.2.length ≤ l.length ∧ a.2.1.length = a.1) (fun a => n - a.1) [10, 9, 6, 0] [1000] (0, [], l) ⟨Nat.zero_le _, rfl, hb, Nat.le_refl _, rfl⟩ ?_
  rintro ⟨i, acc, q⟩ ⟨hi, hrw, hq, hql, hal⟩ K hK
  simp only at hi hrw hq hql hal
  rw [← hrw] at hK ⊢
  refine AW.go ?_
  refine AW.cond rfl (fun hc => ?_) (fun hc => ?_)
  · have hlt : i < n := by simpa using hc
    obtain ⟨m, hm⟩ : ∃ m, n - i = m + 1 := ⟨n - i - 1, by omega⟩
    have hst : rwN (n - i) acc q = if q.length < 8 then ([], 2) else rwN m (acc ++ [beN (q.take 8)]) (q.drop 8) := by rw [hm, rwN]
    rw [hst]
    have ei : IntKind.i64.wrap ((i : Int) + 1) = ((i + 1 : Nat) : Int) := wrap_i64_succ (by omega)
    refine AW.go ?_
    refine AW.callE id (curFixed_fn q 8 (by omega) (by omega) hq) (.ptr rfl (.pv _ .nil)) ?_
    by_cases h8 : 8 ≤ q.length
    · simp only [if_pos h8]
      rw [if_neg (by omega)] at hst ⊢
      have hmi : (acc ++ [beN (q.take 8)]).map i64of = acc.map i64of ++ [i64of (beN (q.take 8))] := by simp
      have hml : (acc.map i64of).length = i := by simp [hal]
      generalize beN (q.take 8) = v at *
      have hdv := i64of_def v
      have h1 : (i + 1) * 8 ≤ room := by omega
      have h2 : i + 1 ≤ room := by omega
      refine AW.go ?_
      refine AW.condF rfl ?_
      refine AW.go ?_ (by simp only [go_sem, ↓reduceIte, hdv, hml, ints_one, h1, h2, ← hmi, ei] <;> rfl)
      refine AW.again hK (i + 1, acc ++ [v], q.drop 8) ⟨hlt, by rw [show n - (i + 1) = m by omega, hst], fun x hx => hq x (List.mem_of_mem_drop hx), by simp only [List.length_drop]; omega, by simp [hal]⟩ (by simp only; omega)
    · simp only [if_neg h8]
      rw [if_pos (by omega)]
      refine AW.go ?_
      refine AW.condT rfl ?_
      refine AW.go ?_
      exact AW.finZ q (.move rfl (.pv _ .nil))
  · have hge : n - i = 0 := by simp at hc; omega
    rw [hge, rwN]
    refine AW.go ?_
    refine AW.callE id (curEnd_fn q) (.ptr rfl .nil) ?_
    refine AW.go ?_
    exact AW.finZ q (.move rfl (.pv _ .nil))

theorem under_fn (q : List Nat) (n t : Nat) (hn : n ≤ 65536) (hl : q.length ≤ 2 ^ 40) (hb : ∀ x ∈ q, x < 256) : Fn Try.prog 56 [] [.pv (.sl 1 (bytes q)), .pv (.int .i64 n), .pv (.int .i64 t)]
    (fun rs H' => rs = [.own 42 (u64s (underI q n t).1), .pv (.int .i64 (underI q n t).2)] ∧ H' = []) := by
  refine Fn.of_body (fn := Try.f56) (n := 28) (res := [.tmp 6, .tmp 7]) (by kernel_rfl) rfl rfl rfl rfl rfl (fun C => ?_)
  unfold underI
  refine AW.go ?_
  refine AW.cond rfl (fun hc => ?_) (fun hc => ?_)
  · have h2 : t = 2 := by simp at hc; omega
    simp only [if_pos h2]
    refine AW.go ?_
    refine AW.callE (fun _ => 0) (unpack_fn q n hn hl hb) (.pv _ (.pv _ .nil)) ?_
    refine AW.go ?_
    refine AW.finE (.move rfl (.pv _ .nil)) rfl
  have h2 : ¬ t = 2 := by simp at hc; omega
  simp only [if_neg h2]
  refine AW.go ?_
  refine AW.cond rfl (fun hc => ?_) (fun hc => ?_)
  · have h3 : t = 3 := by simp at hc; omega
    simp only [if_pos h3]
    refine AW.go ?_
    refine AW.callE (fun _ => 0) (simpleDec_fn q n hn hl hb) (.pv _ (.pv _ .nil)) ?_
    refine AW.go ?_
    refine AW.finE (.move rfl (.pv _ .nil)) rfl
  have h3 : ¬ t = 3 := by simp at hc; omega
  simp only [if_neg h3]
  refine AW.go ?_
  refine AW.callE (fun _ => 0) (runsDec_fn q n hn hl hb) (.pv _ (.pv _ .nil)) ?_
  refine AW.go ?_
  refine AW.finE (.move rfl (.pv _ .nil)) rfl

theorem numbers_fn (l : List Nat) (n t : Nat) (hn : n ≤ 65536) (ht : 1 ≤ t) (hl : l.length ≤ 2 ^ 40) (hb : ∀ x ∈ l, x < 256) : Fn Try.prog 33 (curO l) [.ptr 1000 0, .pv (.int .i64 n), .pv (.int .i64 t)]
    (fun rs H' => ∃ q : List Nat, rs = [.own 42 (u64s (numI l n t).1), .pv (.int .i64 (numI l n t).2)] ∧ H' = curO q) := by
  refine Fn.of_body (fn := Try.f33) (n := 71) (res := [.tmp 6, .tmp 7]) (by kernel_rfl) rfl rfl rfl rfl rfl (fun C => ?_)
  have hr : room = 140737488355328 := rfl
  unfold numI
  refine AW.go ?_
  refine AW.cond rfl (fun hc => ?_) (fun hc => ?_)
  · have h0 : n = 0 := by simpa using hc
    rw [if_pos h0]
    refine AW.go ?_
    refine AW.callE id (curEnd_fn l) (.ptr rfl .nil) ?_
    refine AW.go ?_
    exact AW.finZ l (.move rfl (.pv _ .nil))
  have h0 : ¬ n = 0 := by simpa using hc
  rw [if_neg h0]
  refine AW.go ?_
  refine AW.callE id (curVarint_fn l (by omega) hb) (.ptr rfl .nil) ?_
  have hv := readV_lt hb
  have hq : ∀ x ∈ l.drop (readV l).2.1, x < 256 := fun x hx => hb x (List.mem_of_mem_drop hx)
  have hql : (l.drop (readV l).2.1).length ≤ 2 ^ 40 := by rw [List.length_drop]; omega
  generalize l.drop (readV l).2.1 = q at *
  generalize (readV l).1 = v at *
  generalize (readV l).2.2 = e at *
  refine AW.go ?_
  refine AW.cond rfl (fun hc => ?_) (fun hc => ?_)
  · have he : e ≠ 0 := by simpa using hc
    rw [if_pos he]
    refine AW.go ?_
    exact AW.finZ q (.move rfl (.pv _ .nil))
  have he : ¬ e ≠ 0 := by simpa using hc
  rw [if_neg he]
  have en1 : IntKind.i64.wrap ((n : Int) - 1) = ((n - 1 : Nat) : Int) := by rw [wrap_i64_of (by omega) (by omega)]; omega
  refine AW.go ?_
  refine AW.cond rfl (fun hc => ?_) (fun hc => ?_)
  · have h1 : t = 1 := by simp at hc; omega
    rw [if_pos h1]
    refine AW.go ?_ (by simp only [go_sem, ↓reduceIte, en1] <;> rfl)
    refine AW.loopS (fun a : Nat × List Nat × List Nat => ⟨71, [(34, .pv (.int .i64 a.1)), (33, .pv (.int .i64 (n - 1 : Nat))), (10, .own 42 (u64s a.2.1)), (0, .ptr 1000 0)], curO a.2.2⟩) (fun a => a.1 ≤ n - 1 ∧ rvN (n - 1 - a.1) a.2.1 a.2.2 = rvN (n - 1) [v] q ∧ (∀ x ∈ a.2.2, x < 256) ∧ a.2.2.length ≤ q.length ∧ a.2.1.length = a.1 + 1) (fun a => n - 1 - a.1) [34, 33, 10, 0] [1000] (0, [v], q) ⟨Nat.zero_le _, rfl, hq, Nat.le_refl _, rfl⟩ ?_
    rintro ⟨i, acc, p⟩ ⟨hi, hrw, hp, hpl, hal⟩ K hK
    simp only at hi hrw hp hpl hal
    rw [← hrw] at hK ⊢
    refine AW.go ?_
    refine AW.cond rfl (fun hc => ?_) (fun hc => ?_)
    · have hlt : i < n - 1 := by simpa using hc
      obtain ⟨m, hm⟩ : ∃ m, n - 1 - i = m + 1 := ⟨n - 1 - i - 1, by omega⟩
      have hst : rvN (n - 1 - i) acc p = if (readV p).2.2 ≠ 0 then ([], (readV p).2.2) else rvN m (acc ++ [(readV p).1]) (p.drop (readV p).2.1) := by rw [hm, rvN]
      rw [hst]
      have ei : IntKind.i64.wrap ((i : Int) + 1) = ((i + 1 : Nat) : Int) := wrap_i64_succ (by omega)
      have hp2 : ∀ x ∈ p.drop (readV p).2.1, x < 256 := fun x hx => hp x (List.mem_of_mem_drop hx)
      have hpl2 : (p.drop (readV p).2.1).length ≤ q.length := by rw [List.length_drop]; omega
      refine AW.go ?_
      refine AW.callE id (curVarint_fn p (by omega) hp) (.ptr rfl .nil) ?_
      generalize p.drop (readV p).2.1 = p2 at *
      generalize (readV p).1 = u at *
      generalize (readV p).2.2 = e2 at *
      refine AW.go ?_
      refine AW.cond rfl (fun hc2 => ?_) (fun hc2 => ?_)
      · have he2 : e2 ≠ 0 := by simpa using hc2
        rw [if_pos he2]
        refine AW.go ?_
        exact AW.finZ p2 (.move rfl (.pv _ .nil))
      · have he2 : ¬ e2 ≠ 0 := by simpa using hc2
        rw [if_neg he2] at hst ⊢
        have h1 : (acc.length + 1) * 8 ≤ room := by omega
        have h2 : acc.length + 1 ≤ room := by omega
        refine AW.go ?_ (by simp only [go_sem, ↓reduceIte, u64s_one, h1, h2, ei] <;> rfl)
        refine AW.again hK (i + 1, acc ++ [u], p2) ⟨hlt, by rw [show n - 1 - (i + 1) = m by omega, hst], hp2, hpl2, by simp [hal]⟩ (by simp only; omega)
    · have hge : n - 1 - i = 0 := by simp at hc; omega
      rw [hge, rvN]
      refine AW.go ?_
      refine AW.callE id (curEnd_fn p) (.ptr rfl .nil) ?_
      refine AW.go ?_
      exact AW.finZ p (.move rfl (.pv _ .nil))
  have h1 : ¬ t = 1 := by simp at hc; omega
  rw [if_neg h1]
  refine AW.go ?_
  refine AW.callE id (curLeft_fn q) (.ptr rfl .nil) ?_
  refine AW.go ?_
  refine AW.callE id (curBytes_fn q q.length (by omega)) (.ptr rfl (.pv _ .nil)) ?_
  simp only [if_pos (Nat.le_refl _), List.take_length, List.drop_length]
  refine AW.freeze (p := .part 56 0) (by simp only [go_sem, ↓reduceIte, freeze, freezeO] <;> rfl) ?_
  refine AW.go ?_ (by simp only [go_sem, ↓reduceIte, en1] <;> rfl)
  refine AW.callE (fun _ => 0) (under_fn q (n - 1) t (by omega) hql hq) (.pv _ (.pv _ (.pv _ .nil))) ?_
  have hul := (underI_inv (n - 1) t hq).1
  generalize underI q (n - 1) t = r at *
  obtain ⟨rb, re⟩ := r
  simp only at hul ⊢
  have h2 : (1 + rb.length) * 8 ≤ room := by omega
  have h3 : 1 + rb.length ≤ room := by omega
  refine AW.go ?_ (by simp only [go_sem, ↓reduceIte, u64s_one, List.length_cons, List.length_nil, Nat.zero_add, List.cons_append, List.nil_append, h2, h3] <;> rfl)
  exact AW.finZ [] (.move rfl (.pv _ .nil))
end Go.Ck

set_option linter.unusedVariables false
set_option maxRecDepth 10000
set_option maxHeartbeats 1000000
namespace Go.Ck
open Go.Proofs
theorem decI_fn (b : List Nat) (w : Int) (hl : b.length ≤ 2 ^ 40) (hb : ∀ x ∈ b, x < 256) : Fn Try.prog 16 [] [.pv (.sl 1 (bytes b)), .pv (.int .i64 w)]
    (fun rs H' => rs = [.own 3 (ints (decI b w).1), .pv (.int .i64 (decI b w).2)] ∧ H' = []) := by
  refine Fn.of_body (fn := Try.f16) (n := 82) (res := [.tmp 4, .tmp 5]) (by kernel_rfl) rfl rfl rfl rfl rfl (fun C => ?_)
  have hr : room = 140737488355328 := rfl
  unfold decI
  by_cases hw : w < 0 ∨ 65536 < w
  · rw [if_pos hw]
    by_cases h0 : w < 0
    · have d0 : decide (w < 0) = true := decide_eq_true h0
      refine AW.gg ?_ (by simp only [go_sem, ↓reduceIte, d0] <;> rfl)
      refine AW.condT rfl ?_
      refine AW.go ?_
      refine AW.finE (.move rfl (.pv _ .nil)) rfl
    · have d0 : decide (w < 0) = false := decide_eq_false h0
      have d5 : decide (w > 65536) = true := decide_eq_true (by omega)
      have d5' : decide (65536 < w) = true := decide_eq_true (by omega)
      refine AW.gg ?_ (by simp only [go_sem, ↓reduceIte, d0, d5, d5'] <;> rfl)
      refine AW.condT rfl ?_
      refine AW.go ?_
      refine AW.finE (.move rfl (.pv _ .nil)) rfl
  rw [if_neg hw]
  obtain ⟨n, rfl⟩ : ∃ n : Nat, w = n := ⟨w.toNat, by omega⟩
  have hn : n ≤ 65536 := by omega
  rw [Int.toNat_natCast]
  have d5 : decide ((n : Int) > 65536) = false := decide_eq_false (by omega)
  have d5' : decide ((65536 : Int) < (n : Int)) = false := decide_eq_false (by omega)
  refine AW.gg ?_ (by simp only [go_sem, ↓reduceIte, d5, d5'] <;> rfl)
  refine AW.condF rfl ?_
  refine AW.go ?_
  refine AW.callE (fun o => if o = 7 then 22 else 0) (curNew_fn b (by omega)) (.pv _ .nil) ?_
  refine AW.go ?_
  refine AW.callE (fun _ => 22) (curByte_fn b (by omega)) (.ptr rfl .nil) ?_
  refine AW.go ?_
  cases b with
  | nil =>
    refine AW.condT rfl ?_
    refine AW.go ?_
    refine AW.finE (.move rfl (.pv _ .nil)) rfl
  | cons t l =>
    have htb := hb t (by simp)
    have hbl : ∀ x ∈ l, x < 256 := fun x hx => hb x (by simp [hx])
    simp only [List.length_cons] at hl
    refine AW.condF rfl ?_
    refine AW.go ?_
    simp only [List.headD_cons, List.tail_cons, decI1]
    refine AW.cond rfl (fun hc => ?_) (fun hc => ?_)
    · have h5 : 5 ≤ t := by simp at hc; omega
      simp only [if_pos h5]
      refine AW.go ?_
      refine AW.finE (.move rfl (.pv _ .nil)) rfl
    have h5 : ¬ 5 ≤ t := by simp at hc; omega
    simp only [if_neg h5]
    have hinv := rdI_inv n t hbl
    refine AW.go ?_
    refine AW.joinS (fun _ : Unit => ⟨82, [(9, .own 3 (ints (valI (rdI l n t).1 t))), (8, .pv (.int .i64 (rdI l n t).2)), (0, .pv (.sl 1 (bytes (t :: l))))], []⟩) (fun _ => True) [9, 8, 0] [] ?_ ?_
    · intro K hK
      refine AW.cond rfl (fun hc => ?_) (fun hc => ?_)
      · have h0 : t = 0 := by simpa using hc
        have hrd : rdI l n t = rwN n [] l := by unfold rdI; rw [if_pos h0]
        have hva : ∀ z, valI z t = z.map i64of := fun z => by unfold valI; rw [if_pos h0]
        refine AW.go ?_
        refine AW.callZ (fun _ => 22) (whole_fn l n hn (by omega) hbl) (.ptr rfl (.pv _ .nil)) (fun q => ?_)
        refine AW.go ?_
        refine AW.meet hK () trivial (by simp only [go_sem, ↓reduceIte]) (by simp only [go_sem, ↓reduceIte, hrd, hva] <;> rfl)
      · have h0 : ¬ t = 0 := by simpa using hc
        have hrd : rdI l n t = numI l n t := by unfold rdI; rw [if_neg h0]
        have hva : ∀ z, valI z t = sumS (z.map zag) (oft t) := fun z => by unfold valI; rw [if_neg h0]
        have ec : IntKind.i64.wrap ((t : Nat) : Int) = (t : Int) := wrap_i64_nat (by omega)
        rw [hrd] at hinv
        refine AW.go ?_ (by simp only [go_sem, ↓reduceIte, ec] <;> rfl)
        refine AW.callZ (fun _ => 22) (numbers_fn l n t hn (by omega) (by omega) hbl) (.ptr rfl (.pv _ (.pv _ .nil))) (fun q => ?_)
        obtain ⟨i1, i2⟩ := hinv
        generalize numI l n t = r at *
        obtain ⟨z, e⟩ := r
        simp only at i1 i2 ⊢
        refine AW.freeze (p := .part 46 0) (by simp only [go_sem, ↓reduceIte, freeze, freezeO] <;> rfl) ?_
        refine AW.go ?_
        refine AW.loopS (fun i : Nat => ⟨82, [(51, .pv (.int .i64 i)), (50, .pv (.int .i64 z.length)), (49, .pv (.sl 1 (u64s z))), (9, .own 3 (ints ((z.take i).map zag))), (8, .pv (.int .i64 e)), (7, .pv (.int .u8 t)), (0, .pv (.sl 1 (bytes (t :: l))))], []⟩) (fun i => i ≤ z.length) (fun i => z.length - i) [51, 50, 49, 9, 8, 7, 0] [] 0 (Nat.zero_le _) ?_
        rintro i hi K2 hK2
        refine AW.go ?_
        refine AW.cond rfl (fun hc2 => ?_) (fun hc2 => ?_)
        · have hlt : i < z.length := by simpa using hc2
          have hget := u64s_get hlt
          have hti : (z.take (i + 1)).map zag = (z.take i).map zag ++ [zag z[i]] := by rw [← List.map_singleton, ← List.map_append]; congr 1; simp
          have hxx := i2 _ (List.getElem_mem hlt)
          generalize z[i] = x at *
          have ei : IntKind.i64.wrap ((i : Int) + 1) = ((i + 1 : Nat) : Int) := wrap_i64_succ (by omega)
          have hml : ((z.take i).map zag).length = i := by simp; omega
          have h1 : (i + 1) * 8 ≤ room := by omega
          have h2 : i + 1 ≤ room := by omega
          generalize (z.take i).map zag = m at *
          refine AW.go ?_ (by simp only [go_sem, ↓reduceIte, hget] <;> rfl)
          refine AW.callE (fun _ => 0) (zag_fn x hxx) (.pv _ .nil) ?_
          refine AW.go ?_ (by simp only [go_sem, ↓reduceIte, hml, ints_one, h1, h2, ← hti, ei] <;> rfl)
          refine AW.again hK2 (i + 1) hlt (by omega)
        · have hge : ¬ i < z.length := by simpa using hc2
          rw [List.take_of_length_le (by omega)]
          clear hK2
          have hml : (z.map zag).length = z.length := by simp
          refine AW.go ?_ (by simp only [go_sem, ↓reduceIte, ec] <;> rfl)
          refine AW.callE (fun _ => 0) (often_fn t) (.pv _ .nil) ?_
          refine AW.go ?_
          refine AW.callE (fun _ => 0) (sum_fn (z.map zag) (oft t) (oft_le t) (by omega)) (.lend rfl co_3 (.pv _ .nil)) ?_
          refine AW.go ?_
          refine AW.meet hK () trivial (by simp only [go_sem, ↓reduceIte]) (by simp only [go_sem, ↓reduceIte, hrd, hva] <;> rfl)
    rintro _ -
    unfold decI0
    have hvr := valI_r (rdI l n t).1 t hinv.2
    generalize rdI l n t = r at *
    obtain ⟨z, e⟩ := r
    simp only at hvr ⊢
    generalize valI z t = xs at *
    refine AW.go ?_
    refine AW.cond rfl (fun hc => ?_) (fun hc => ?_)
    · have he : e ≠ 0 := by simpa using hc
      simp only [if_pos he]
      refine AW.go ?_
      refine AW.finE (.move rfl (.pv _ .nil)) rfl
    have he : ¬ e ≠ 0 := by simpa using hc
    simp only [if_neg he]
    refine AW.go ?_
    refine AW.callE (fun _ => 0) (encI_fn xs hvr) (.lend rfl co_3 .nil) ?_
    refine AW.go ?_
    refine AW.callE (fun _ => 0) (bytesEqual_fn (encI xs).1 (t :: l) (encI_byte hvr) hb) (.lend rfl co_5 (.pv _ .nil)) ?_
    by_cases hq : (encI xs).1 = t :: l
    · rw [decide_eq_true hq]
      simp only [if_pos hq]
      refine AW.go ?_
      refine AW.condF rfl ?_
      refine AW.go ?_
      refine AW.finE (.move rfl (.pv _ .nil)) rfl
    · rw [decide_eq_false hq]
      simp only [if_neg hq]
      refine AW.go ?_
      refine AW.condT rfl ?_
      refine AW.go ?_
      refine AW.finE (.move rfl (.pv _ .nil)) rfl
end Go.Ck

set_option linter.unusedVariables false
set_option maxRecDepth 10000
set_option maxHeartbeats 1000000
namespace Go.Ck
open Go.Proofs
/-- What the reference's own reader yields. -/
def okL2 (r : List Nat × Int) : List Nat × Int := (if r.2 = 0 then r.1 else [], r.2)
theorem okL2_err {e : Int} (h : e ≠ 0) (l : List Nat) : okL2 (l, e) = ([], e) := by unfold okL2; rw [if_neg h]
theorem okL2_ok (l : List Nat) : okL2 (l, 0) = (l, 0) := rfl
theorem plain0_fn (l : List Nat) (n : Nat) (hn : n ≤ 65536) (hl : l.length ≤ 2 ^ 40) (hb : ∀ x ∈ l, x < 256) (t : Nat) (ht : n = 0 ∨ t = 0) : Fn Try.prog 57 [] [.pv (.sl 1 (bytes l)), .pv (.int .i64 n), .pv (.int .i64 t)]
    (fun rs H' => rs = [.own 42 (u64s (okL2 (rwN n [] l)).1), .pv (.int .i64 (okL2 (rwN n [] l)).2)] ∧ H' = []) := by
  refine Fn.of_body (fn := Try.f57) (n := 44) (res := [.tmp 6, .tmp 7]) (by kernel_rfl) rfl rfl rfl rfl rfl (fun C => ?_)
  have hr : room = 140737488355328 := rfl
  refine AW.go ?_
  refine AW.loopS (fun a : Nat × List Nat × List Nat => ⟨44, [(9, .pv (.int .i64 a.1)), (8, .own 42 (u64s a.2.1)), (2, .pv (.int .i64 t)), (1, .pv (.int .i64 n)), (0, .pv (.sl 1 (bytes a.2.2)))], []⟩) (fun a => a.1 ≤ n ∧ rwN (n - a.1) a.2.1 a.2.2 = rwN n [] l ∧ (∀ x ∈ a.2.2, x < 256) ∧ a.2.2.length ≤ l.length ∧ a.2.1.length = a.1) (fun a => n - a.1) [9, 8, 2, 1, 0] [] (0, [], l) ⟨Nat.zero_le _, rfl, hb, Nat.le_refl _, rfl⟩ ?_
  rintro ⟨i, acc, q⟩ ⟨hi, hrw, hq, hql, hal⟩ K hK
  simp only at hi hrw hq hql hal
  rw [← hrw] at hK ⊢
  refine AW.go ?_
  refine AW.cond rfl (fun hc => ?_) (fun hc => ?_)
  · have hlt : i < n := by simpa using hc
    have ht0 : t = 0 := by omega
    have ht1 : ((t : Int) == 1) = false := by simp; omega
    obtain ⟨m, hm⟩ : ∃ m, n - i = m + 1 := ⟨n - i - 1, by omega⟩
    have hst : rwN (n - i) acc q = if q.length < 8 then ([], 2) else rwN m (acc ++ [beN (q.take 8)]) (q.drop 8) := by rw [hm, rwN]
    rw [hst]
    have ei : IntKind.i64.wrap ((i : Int) + 1) = ((i + 1 : Nat) : Int) := wrap_i64_succ (by omega)
    refine AW.go ?_
    refine AW.callE (fun _ => 0) (refFixed_fn q 8 (by omega) (by omega) hq) (.pv _ (.pv _ .nil)) ?_
    by_cases h8 : 8 ≤ q.length
    · simp only [if_pos h8]
      rw [if_neg (by omega)] at hst ⊢
      generalize beN (q.take 8) = v at *
      have h1 : (i + 1) * 8 ≤ room := by omega
      have h2 : i + 1 ≤ room := by omega
      refine AW.go ?_ (by simp only [go_sem, ↓reduceIte, ht1] <;> rfl)
      refine AW.condF rfl ?_
      refine AW.go ?_
      refine AW.condF rfl ?_
      refine AW.go ?_ (by simp only [go_sem, ↓reduceIte, hal, u64s_one, h1, h2, ei] <;> rfl)
      refine AW.again hK (i + 1, acc ++ [v], q.drop 8) ⟨hlt, by rw [show n - (i + 1) = m by omega, hst], fun x hx => hq x (List.mem_of_mem_drop hx), by simp only [List.length_drop]; omega, by simp [hal]⟩ (by simp only; omega)
    · simp only [if_neg h8]
      rw [if_pos (by omega), okL2_err (by omega)]
      refine AW.go ?_ (by simp only [go_sem, ↓reduceIte, ht1] <;> rfl)
      refine AW.condF rfl ?_
      refine AW.go ?_
      refine AW.condT rfl ?_
      refine AW.go ?_
      refine AW.finE (.move rfl (.pv _ .nil)) rfl
  · have hge : n - i = 0 := by simp at hc; omega
    rw [hge, rwN]
    by_cases hqe : q = []
    · subst hqe
      rw [if_pos rfl, okL2_ok]
      refine AW.go ?_
      refine AW.condF rfl ?_
      refine AW.go ?_
      refine AW.finE (.move rfl (.pv _ .nil)) rfl
    · rw [if_neg hqe, okL2_err (by omega)]
      have hq0 : 0 < q.length := by cases q with | nil => exact absurd rfl hqe | cons a r => simp
      have d2 : decide (0 < q.length) = true := decide_eq_true hq0
      have d2i : decide ((q.length : Int) > 0) = true := decide_eq_true (by omega)
      refine AW.go ?_ (by simp only [go_sem, ↓reduceIte, d2, d2i] <;> rfl)
      refine AW.condT rfl ?_
      refine AW.go ?_
      refine AW.finE (.move rfl (.pv _ .nil)) rfl

theorem plain1_fn (l : List Nat) (n : Nat) (hn : n ≤ 65536) (hl : l.length ≤ 2 ^ 40) (hb : ∀ x ∈ l, x < 256) : Fn Try.prog 57 [] [.pv (.sl 1 (bytes l)), .pv (.int .i64 n), .pv (.int .i64 1)]
    (fun rs H' => rs = [.own 42 (u64s (okL2 (rvN n [] l)).1), .pv (.int .i64 (okL2 (rvN n [] l)).2)] ∧ H' = []) := by
  refine Fn.of_body (fn := Try.f57) (n := 44) (res := [.tmp 6, .tmp 7]) (by kernel_rfl) rfl rfl rfl rfl rfl (fun C => ?_)
  have hr : room = 140737488355328 := rfl
  refine AW.go ?_
  refine AW.loopS (fun a : Nat × List Nat × List Nat => ⟨44, [(9, .pv (.int .i64 a.1)), (8, .own 42 (u64s a.2.1)), (2, .pv (.int .i64 1)), (1, .pv (.int .i64 n)), (0, .pv (.sl 1 (bytes a.2.2)))], []⟩) (fun a => a.1 ≤ n ∧ rvN (n - a.1) a.2.1 a.2.2 = rvN n [] l ∧ (∀ x ∈ a.2.2, x < 256) ∧ a.2.2.length ≤ l.length ∧ a.2.1.length = a.1) (fun a => n - a.1) [9, 8, 2, 1, 0] [] (0, [], l) ⟨Nat.zero_le _, rfl, hb, Nat.le_refl _, rfl⟩ ?_
  rintro ⟨i, acc, q⟩ ⟨hi, hrw, hq, hql, hal⟩ K hK
  simp only at hi hrw hq hql hal
  rw [← hrw] at hK ⊢
  refine AW.go ?_
  refine AW.cond rfl (fun hc => ?_) (fun hc => ?_)
  · have hlt : i < n := by simpa using hc
    obtain ⟨m, hm⟩ : ∃ m, n - i = m + 1 := ⟨n - i - 1, by omega⟩
    have hst : rvN (n - i) acc q = if (readV q).2.2 ≠ 0 then ([], (readV q).2.2) else rvN m (acc ++ [(readV q).1]) (q.drop (readV q).2.1) := by rw [hm, rvN]
    rw [hst]
    have ei : IntKind.i64.wrap ((i : Int) + 1) = ((i + 1 : Nat) : Int) := wrap_i64_succ (by omega)
    refine AW.go ?_
    refine AW.callE (fun _ => 0) (refFixed_fn q 8 (by omega) (by omega) hq) (.pv _ (.pv _ .nil)) ?_
    generalize (if 8 ≤ q.length then beN (q.take 8) else 0) = j1
    generalize (if 8 ≤ q.length then q.drop 8 else q) = j2
    generalize (if 8 ≤ q.length then (0 : Int) else 2) = j3
    refine AW.go ?_
    refine AW.condT rfl ?_
    refine AW.go ?_
    refine AW.callE (fun _ => 0) (refVarint_fn q (by omega) hq) (.pv _ .nil) ?_
    have hp2 : ∀ x ∈ q.drop (readV q).2.1, x < 256 := fun x hx => hq x (List.mem_of_mem_drop hx)
    have hpl2 : (q.drop (readV q).2.1).length ≤ l.length := by rw [List.length_drop]; omega
    generalize q.drop (readV q).2.1 = p2 at *
    generalize (readV q).1 = u at *
    generalize (readV q).2.2 = e2 at *
    refine AW.go ?_
    refine AW.cond rfl (fun hc2 => ?_) (fun hc2 => ?_)
    · have he2 : e2 ≠ 0 := by simpa using hc2
      rw [if_pos he2, okL2_err he2]
      refine AW.go ?_
      refine AW.finE (.move rfl (.pv _ .nil)) rfl
    · have he2 : ¬ e2 ≠ 0 := by simpa using hc2
      rw [if_neg he2] at hst ⊢
      have h1 : (i + 1) * 8 ≤ room := by omega
      have h2 : i + 1 ≤ room := by omega
      refine AW.go ?_ (by simp only [go_sem, ↓reduceIte, hal, u64s_one, h1, h2, ei] <;> rfl)
      refine AW.again hK (i + 1, acc ++ [u], p2) ⟨hlt, by rw [show n - (i + 1) = m by omega, hst], hp2, hpl2, by simp [hal]⟩ (by simp only; omega)
  · have hge : n - i = 0 := by simp at hc; omega
    rw [hge, rvN]
    by_cases hqe : q = []
    · subst hqe
      rw [if_pos rfl, okL2_ok]
      refine AW.go ?_
      refine AW.condF rfl ?_
      refine AW.go ?_
      refine AW.finE (.move rfl (.pv _ .nil)) rfl
    · rw [if_neg hqe, okL2_err (by omega)]
      have hq0 : 0 < q.length := by cases q with | nil => exact absurd rfl hqe | cons a r => simp
      have d2 : decide (0 < q.length) = true := decide_eq_true hq0
      have d2i : decide ((q.length : Int) > 0) = true := decide_eq_true (by omega)
      refine AW.go ?_ (by simp only [go_sem, ↓reduceIte, d2, d2i] <;> rfl)
      refine AW.condT rfl ?_
      refine AW.go ?_
      refine AW.finE (.move rfl (.pv _ .nil)) rfl

theorem rdI_zero (l : List Nat) (t : Nat) : rdI l 0 t = ([], if l = [] then 0 else 3) := by
  unfold rdI
  split
  · rfl
  · unfold numI; rw [if_pos rfl]
theorem rdI_one (l : List Nat) (n : Nat) : rdI l n 1 = rvN n [] l := by
  unfold rdI
  rw [if_neg (by omega)]
  unfold numI
  cases n with
  | zero => rfl
  | succ n =>
    rw [if_neg (by omega), rvN]
    split
    · rfl
    · rw [if_pos rfl]; rfl
theorem read08_fn (l : List Nat) (n t : Nat) (hn : n ≤ 65536) (ht : t ≤ 4) (hl : l.length ≤ 2 ^ 40) (hb : ∀ x ∈ l, x < 256) : Fn Try.prog 37 [] [.pv (.sl 1 (bytes l)), .pv (.int .i64 n), .pv (.int .i64 t)]
    (fun rs H' => rs = [.own 42 (u64s (okL2 (rdI l n t)).1), .pv (.int .i64 (okL2 (rdI l n t)).2)] ∧ H' = []) := by
  refine Fn.of_body (fn := Try.f37) (n := 69) (res := [.tmp 6, .tmp 7]) (by kernel_rfl) rfl rfl rfl rfl rfl (fun C => ?_)
  have hr : room = 140737488355328 := rfl
  refine AW.go ?_
  refine AW.cond rfl (fun hc => ?_) (fun hc => ?_)
  · have h1 : t ≤ 1 := by simp at hc; omega
    rcases Nat.lt_or_ge t 1 with h0 | h0
    · have ht0 : t = 0 := by omega
      have hrd : rdI l n t = rwN n [] l := by unfold rdI; rw [if_pos ht0]
      rw [hrd]
      refine AW.go ?_
      refine AW.callE (fun _ => 0) (plain0_fn l n hn hl hb t (.inr ht0)) (.pv _ (.pv _ (.pv _ .nil))) ?_
      refine AW.go ?_
      refine AW.finE (.move rfl (.pv _ .nil)) rfl
    · have ht1 : t = 1 := by omega
      subst ht1
      rw [rdI_one]
      refine AW.go ?_
      refine AW.callE (fun _ => 0) (plain1_fn l n hn hl hb) (.pv _ (.pv _ (.pv _ .nil))) ?_
      refine AW.go ?_
      refine AW.finE (.move rfl (.pv _ .nil)) rfl
  have h1 : ¬ t ≤ 1 := by simp at hc; omega
  refine AW.go ?_
  refine AW.cond rfl (fun hc => ?_) (fun hc => ?_)
  · have h0 : n = 0 := by simpa using hc
    subst h0
    have hpl := plain0_fn l 0 (by omega) hl hb t (.inl rfl)
    have hrw : rwN 0 [] l = rdI l 0 t := by rw [rdI_zero]; rfl
    rw [hrw] at hpl
    refine AW.go ?_
    refine AW.callE (fun _ => 0) hpl (.pv _ (.pv _ (.pv _ .nil))) ?_
    refine AW.go ?_
    refine AW.finE (.move rfl (.pv _ .nil)) rfl
  have h0 : ¬ n = 0 := by simpa using hc
  have hrd : rdI l n t = if (readV l).2.2 ≠ 0 then ([], (readV l).2.2) else ((readV l).1 :: (underI (l.drop (readV l).2.1) (n - 1) t).1, (underI (l.drop (readV l).2.1) (n - 1) t).2) := by
    unfold rdI numI
    rw [if_neg (by omega), if_neg h0]
    congr 1
    rw [if_neg (by omega)]
  rw [hrd]
  refine AW.go ?_
  refine AW.callE (fun _ => 0) (refVarint_fn l (by omega) hb) (.pv _ .nil) ?_
  have hq : ∀ x ∈ l.drop (readV l).2.1, x < 256 := fun x hx => hb x (List.mem_of_mem_drop hx)
  have hql : (l.drop (readV l).2.1).length ≤ 2 ^ 40 := by rw [List.length_drop]; omega
  generalize l.drop (readV l).2.1 = q at *
  generalize (readV l).1 = v at *
  generalize (readV l).2.2 = e at *
  refine AW.go ?_
  refine AW.cond rfl (fun hc => ?_) (fun hc => ?_)
  · have he : e ≠ 0 := by simpa using hc
    rw [if_pos he, okL2_err he]
    refine AW.go ?_
    refine AW.finE (.move rfl (.pv _ .nil)) rfl
  have he : ¬ e ≠ 0 := by simpa using hc
  rw [if_neg he]
  have en1 : IntKind.i64.wrap ((n : Int) - 1) = ((n - 1 : Nat) : Int) := by rw [wrap_i64_of (by omega) (by omega)]; omega
  have hul := (underI_inv (n - 1) t hq).1
  refine AW.go ?_
  refine AW.joinS (fun _ : Unit => ⟨69, [(11, .own 42 (u64s (underI q (n - 1) t).1)), (10, .pv (.int .i64 (underI q (n - 1) t).2)), (8, .pv (.int .u64 v))], []⟩) (fun _ => True) [11, 10, 8] [] ?_ ?_
  · intro K hK
    refine AW.cond rfl (fun hc => ?_) (fun hc => ?_)
    · have h2 : t = 2 := by simp at hc; omega
      have hu : underI q (n - 1) t = unF q (n - 1) := by unfold underI; rw [if_pos h2]
      refine AW.go ?_ (by simp only [go_sem, ↓reduceIte, en1] <;> rfl)
      refine AW.callE (fun _ => 0) (refUnpack_fn q (n - 1) (by omega) hql hq) (.pv _ (.pv _ .nil)) ?_
      refine AW.go ?_
      refine AW.meet hK () trivial (by simp only [go_sem, ↓reduceIte]) (by simp only [go_sem, ↓reduceIte, hu] <;> rfl)
    have h2 : ¬ t = 2 := by simp at hc; omega
    refine AW.go ?_
    refine AW.cond rfl (fun hc => ?_) (fun hc => ?_)
    · have h3 : t = 3 := by simp at hc; omega
      have hu : underI q (n - 1) t = decS q (n - 1) := by unfold underI; rw [if_neg h2, if_pos h3]
      refine AW.go ?_ (by simp only [go_sem, ↓reduceIte, en1] <;> rfl)
      refine AW.callE (fun _ => 0) (refSimpleDec_fn q (n - 1) (by omega) hql hq) (.pv _ (.pv _ .nil)) ?_
      refine AW.go ?_
      refine AW.meet hK () trivial (by simp only [go_sem, ↓reduceIte]) (by simp only [go_sem, ↓reduceIte, hu] <;> rfl)
    · have h3 : ¬ t = 3 := by simp at hc; omega
      have hu : underI q (n - 1) t = decR q (n - 1) := by unfold underI; rw [if_neg h2, if_neg h3]
      refine AW.go ?_ (by simp only [go_sem, ↓reduceIte, en1] <;> rfl)
      refine AW.callE (fun _ => 0) (refRunsDec_fn q (n - 1) (by omega) hql hq) (.pv _ (.pv _ .nil)) ?_
      refine AW.go ?_
      refine AW.meet hK () trivial (by simp only [go_sem, ↓reduceIte]) (by simp only [go_sem, ↓reduceIte, hu] <;> rfl)
  rintro _ -
  generalize underI q (n - 1) t = r at *
  obtain ⟨rb, re⟩ := r
  simp only at hul ⊢
  refine AW.go ?_
  refine AW.cond rfl (fun hc => ?_) (fun hc => ?_)
  · have he : re ≠ 0 := by simpa using hc
    rw [okL2_err he]
    refine AW.go ?_
    refine AW.finE (.move rfl (.pv _ .nil)) rfl
  · have he : re = 0 := by simpa using hc
    subst he
    rw [okL2_ok]
    have h2 : (1 + rb.length) * 8 ≤ room := by omega
    have h3 : 1 + rb.length ≤ room := by omega
    refine AW.go ?_ (by simp only [go_sem, ↓reduceIte, u64s_one, List.length_cons, List.length_nil, Nat.zero_add, List.cons_append, List.nil_append, h2, h3] <;> rfl)
    refine AW.finE (.move rfl (.pv _ .nil)) rfl
end Go.Ck

set_option linter.unusedVariables false
set_option maxRecDepth 10000
set_option maxHeartbeats 1000000
namespace Go.Ck
open Go.Proofs
theorem refDecI_fn (b : List Nat) (w : Int) (hl : b.length ≤ 2 ^ 40) (hb : ∀ x ∈ b, x < 256) : Fn Try.prog 17 [] [.pv (.sl 1 (bytes b)), .pv (.int .i64 w)]
    (fun rs H' => rs = [.own 3 (ints (decI b w).1), .pv (.int .i64 (decI b w).2)] ∧ H' = []) := by
  refine Fn.of_body (fn := Try.f17) (n := 84) (res := [.tmp 4, .tmp 5]) (by kernel_rfl) rfl rfl rfl rfl rfl (fun C => ?_)
  have hr : room = 140737488355328 := rfl
  unfold decI
  by_cases hw : w < 0 ∨ 65536 < w
  · rw [if_pos hw]
    by_cases h0 : w < 0
    · have d0 : decide (w < 0) = true := decide_eq_true h0
      refine AW.gg ?_ (by simp only [go_sem, ↓reduceIte, d0] <;> rfl)
      refine AW.condT rfl ?_
      refine AW.go ?_
      refine AW.finE (.move rfl (.pv _ .nil)) rfl
    · have d0 : decide (w < 0) = false := decide_eq_false h0
      have d5 : decide (w > 65536) = true := decide_eq_true (by omega)
      have d5' : decide (65536 < w) = true := decide_eq_true (by omega)
      refine AW.gg ?_ (by simp only [go_sem, ↓reduceIte, d0, d5, d5'] <;> rfl)
      refine AW.condT rfl ?_
      refine AW.go ?_
      refine AW.finE (.move rfl (.pv _ .nil)) rfl
  rw [if_neg hw]
  obtain ⟨n, rfl⟩ : ∃ n : Nat, w = n := ⟨w.toNat, by omega⟩
  have hn : n ≤ 65536 := by omega
  rw [Int.toNat_natCast]
  have d5 : decide ((n : Int) > 65536) = false := decide_eq_false (by omega)
  have d5' : decide ((65536 : Int) < (n : Int)) = false := decide_eq_false (by omega)
  refine AW.gg ?_ (by simp only [go_sem, ↓reduceIte, d5, d5'] <;> rfl)
  refine AW.condF rfl ?_
  cases b with
  | nil =>
    refine AW.go ?_
    refine AW.condT rfl ?_
    refine AW.go ?_
    refine AW.finE (.move rfl (.pv _ .nil)) rfl
  | cons t l =>
    have htb := hb t (by simp)
    have hbl : ∀ x ∈ l, x < 256 := fun x hx => hb x (by simp [hx])
    simp only [List.length_cons] at hl
    have e0 : (((t :: l).length : Int) == 0) = false := by simp; omega
    have hg0 := bytes_get0 t l
    have ec : IntKind.i64.wrap ((t : Nat) : Int) = (t : Int) := wrap_i64_nat (by omega)
    refine AW.go ?_ (by simp only [go_sem, ↓reduceIte, e0] <;> rfl)
    refine AW.condF rfl ?_
    refine AW.go ?_ (by simp only [go_sem, ↓reduceIte, hg0, ec] <;> rfl)
    simp only [decI1]
    refine AW.cond rfl (fun hc => ?_) (fun hc => ?_)
    · have h5 : 5 ≤ t := by simp at hc; omega
      simp only [if_pos h5]
      refine AW.go ?_
      refine AW.finE (.move rfl (.pv _ .nil)) rfl
    have h5 : ¬ 5 ≤ t := by simp at hc; omega
    simp only [if_neg h5]
    have hinv := rdI_inv n t hbl
    have v1 : (1 : Int) ≤ ((l.length + 1 : Nat) : Int) := by omega
    have v2 : (((l.length + 1 : Nat) : Int) - 1).toNat = l.length := by omega
    have v3 : ((bytes (t :: l)).drop 1).take l.length = bytes l := by
      show (bytes l).take l.length = bytes l
      rw [List.take_of_length_le (by rw [bytes_length]; exact Nat.le_refl _)]
    refine AW.go ?_ (by simp only [go_sem, ↓reduceIte, List.length_cons, v1, v2, List.take_length] <;> rfl)
    refine AW.callE (fun _ => 0) (read08_fn l n t hn (by omega) (by omega) hbl) (.pv _ (.pv _ (.pv _ .nil))) ?_
    refine AW.freeze (p := .part 34 0) (by simp only [go_sem, ↓reduceIte, freeze, freezeO] <;> rfl) ?_
    unfold decI0
    have hvr := valI_r (rdI l n t).1 t hinv.2
    generalize rdI l n t = r at *
    obtain ⟨z, e⟩ := r
    obtain ⟨i1, i2⟩ := hinv
    simp only at hvr i1 i2 ⊢
    by_cases he : e ≠ 0
    · rw [okL2_err he]
      simp only [if_pos he]
      have heb : (e != 0) = true := by simpa using he
      refine AW.go ?_ (by simp only [go_sem, ↓reduceIte, heb] <;> rfl)
      refine AW.condT rfl ?_
      refine AW.go ?_
      refine AW.finE (.move rfl (.pv _ .nil)) rfl
    have he : e = 0 := by simpa using he
    subst he
    rw [okL2_ok]
    simp only [ne_eq, not_true_eq_false, if_false]
    refine AW.go ?_
    refine AW.condF rfl ?_
    refine AW.go ?_
    refine AW.loopS (fun i : Nat => ⟨84, [(10, .pv (.int .i64 i)), (9, .own 3 (ints ((z.take i).map (if t = 0 then i64of else zag)))), (7, .pv (.sl 1 (u64s z))), (6, .pv (.int .i64 t)), (0, .pv (.sl 1 (bytes (t :: l))))], []⟩) (fun i => i ≤ z.length) (fun i => z.length - i) [10, 9, 7, 6, 0] [] 0 (Nat.zero_le _) ?_
    rintro i hi K hK
    refine AW.go ?_
    refine AW.cond rfl (fun hc2 => ?_) (fun hc2 => ?_)
    · have hlt : i < z.length := by simpa using hc2
      have hget := u64s_get hlt
      have hti : (z.take (i + 1)).map (if t = 0 then i64of else zag) = (z.take i).map (if t = 0 then i64of else zag) ++ [(if t = 0 then i64of else zag) z[i]] := by rw [← List.map_singleton, ← List.map_append]; congr 1; simp
      have hxx := i2 _ (List.getElem_mem hlt)
      generalize z[i] = x at *
      have ei : IntKind.i64.wrap ((i : Int) + 1) = ((i + 1 : Nat) : Int) := wrap_i64_succ (by omega)
      have hml : ((z.take i).map (if t = 0 then i64of else zag)).length = i := by simp; omega
      have h1 : (i + 1) * 8 ≤ room := by omega
      have h2 : i + 1 ≤ room := by omega
      generalize (z.take i).map (if t = 0 then i64of else zag) = m at *
      refine AW.go ?_
      refine AW.cond rfl (fun hc3 => ?_) (fun hc3 => ?_)
      · have h0 : t = 0 := by simpa using hc3
        have hg : (if t = 0 then i64of else zag) x = i64of x := by rw [if_pos h0]
        rw [hg] at hti
        have hdv := i64of_def x
        refine AW.go ?_ (by simp only [go_sem, ↓reduceIte, hget, hlt, hdv, hml, ints_one, h1, h2, ← hti, ei] <;> rfl)
        refine AW.again hK (i + 1) hlt (by omega)
      · have h0 : ¬ t = 0 := by simpa using hc3
        have hg : (if t = 0 then i64of else zag) x = zag x := by rw [if_neg h0]
        rw [hg] at hti
        refine AW.go ?_ (by simp only [go_sem, ↓reduceIte, hget, hlt] <;> rfl)
        refine AW.callE (fun _ => 0) (refZag_fn x hxx) (.pv _ .nil) ?_
        refine AW.go ?_ (by simp only [go_sem, ↓reduceIte, hml, ints_one, h1, h2, ← hti, ei] <;> rfl)
        refine AW.again hK (i + 1) hlt (by omega)
    have hge : ¬ i < z.length := by simpa using hc2
    rw [List.take_of_length_le (by omega)]
    clear hK hc2
    refine AW.go ?_
    refine AW.joinS (fun _ : Unit => ⟨84, [(9, .own 3 (ints (valI z t))), (0, .pv (.sl 1 (bytes (t :: l))))], []⟩) (fun _ => True) [9, 0] [] ?_ ?_
    · intro K hK
      refine AW.cond rfl (fun hc2 => ?_) (fun hc2 => ?_)
      · have h0 : ¬ t = 0 := by simp at hc2; omega
        have hva : valI z t = sumS (z.map zag) (oft t) := by unfold valI; rw [if_neg h0]
        have hg : (if t = 0 then i64of else zag) = zag := if_neg h0
        rw [hg]
        have hml : (z.map zag).length = z.length := by simp
        refine AW.go ?_
        refine AW.joinS (fun _ : Unit => ⟨84, [(11, .pv (.int .i64 (oft t : Nat))), (9, .own 3 (ints (z.map zag))), (0, .pv (.sl 1 (bytes (t :: l))))], []⟩) (fun _ => True) [11, 9, 0] [] ?_ ?_
        · intro K2 hK2
          refine AW.cond rfl (fun hc3 => ?_) (fun hc3 => ?_)
          · have h3 : 3 ≤ t := by simp at hc3; omega
            have ho : ((oft t : Nat) : Int) = 2 := by unfold oft; rw [if_neg h0, if_pos (by omega)]; rfl
            refine AW.go ?_
            refine AW.meet hK2 () trivial (by simp only [go_sem, ↓reduceIte]) (by simp only [go_sem, ↓reduceIte, ho] <;> rfl)
          · have h3 : ¬ 3 ≤ t := by simp at hc3; omega
            have ho : ((oft t : Nat) : Int) = 1 := by unfold oft; rw [if_neg h0, if_neg (by omega)]; rfl
            refine AW.go ?_
            refine AW.meet hK2 () trivial (by simp only [go_sem, ↓reduceIte]) (by simp only [go_sem, ↓reduceIte, ho] <;> rfl)
        rintro _ -
        refine AW.go ?_
        refine AW.callE (fun _ => 0) (refSum_fn (z.map zag) (oft t) (oft_le t) (by omega)) (.lend rfl co_3 (.pv _ .nil)) ?_
        refine AW.go ?_
        refine AW.meet hK () trivial (by simp only [go_sem, ↓reduceIte]) (by simp only [go_sem, ↓reduceIte, hva] <;> rfl)
      · have h0 : t = 0 := by simp at hc2; omega
        have hva : valI z t = z.map i64of := by unfold valI; rw [if_pos h0]
        have hg : (if t = 0 then i64of else zag) = i64of := if_pos h0
        rw [hg]
        refine AW.go ?_
        refine AW.meet hK () trivial (by simp only [go_sem, ↓reduceIte]) (by simp only [go_sem, ↓reduceIte, hva] <;> rfl)
    rintro _ -
    generalize valI z t = xs at *
    have hel := encI_room hvr
    refine AW.go ?_
    refine AW.callE (fun _ => 0) (refEncI_fn xs hvr) (.lend rfl co_3 .nil) ?_
    refine AW.go ?_
    refine AW.callE (fun _ => 0) (ref01Same_fn (encI xs).1 (t :: l) (by omega)) (.lend rfl co_5 (.pv _ .nil)) ?_
    by_cases hq : (encI xs).1 = t :: l
    · rw [decide_eq_true hq]
      simp only [if_pos hq]
      refine AW.go ?_
      refine AW.condF rfl ?_
      refine AW.go ?_
      refine AW.finE (.move rfl (.pv _ .nil)) rfl
    · rw [decide_eq_false hq]
      simp only [if_neg hq]
      refine AW.go ?_
      refine AW.condT rfl ?_
      refine AW.go ?_
      refine AW.finE (.move rfl (.pv _ .nil)) rfl
end Go.Ck

set_option linter.unusedVariables false
namespace Go.Ck
theorem awakeI_enc : encI [10, 20, 30, 40] = ([2, 20, 20, 0], 0) := by decide +kernel
theorem awakeI_dec : decI [2, 20, 20, 0] 4 = ([10, 20, 30, 40], 0) := by decide +kernel
end Go.Ck
namespace Go.Ck
theorem valI_len (z : List Nat) (t : Nat) : (valI z t).length = z.length := by
  unfold valI
  split
  · simp
  · rw [sumS_len, List.length_map]
theorem decI_len {b : List Nat} (hb : ∀ x ∈ b, x < 256) (n : Int) : (decI b n).1.length ≤ 70000 := by
  unfold decI
  split
  · simp
  · unfold decI1
    split
    · simp
    · split
      · simp
      · rename_i t l h2
        unfold decI0
        have := (rdI_inv (l := l) n.toNat t (fun x hx => hb x (by simp [hx]))).1
        split
        · simp
        · split
          · simp only [valI_len]; omega
          · simp
end Go.Ck

set_option linter.unusedVariables false
set_option maxRecDepth 10000
set_option maxHeartbeats 1000000
namespace Go.Ck
open Go.Proofs
theorem awake08_fn : Fn Try.prog 10 [] [] (fun rs H' => rs = [.pv (.bool true)] ∧ H' = []) := by
  refine Fn.of_body (fn := Try.f10) (n := 31) (res := [.tmp 0]) (by kernel_rfl) rfl rfl rfl rfl rfl (fun C => ?_)
  have b1 : [PV.int .u8 2, .int .u8 20, .int .u8 20, .int .u8 0] = bytes [2, 20, 20, 0] := rfl
  have b2 : [PV.int .i64 10, .int .i64 20, .int .i64 30, .int .i64 40] = ints [10, 20, 30, 40] := rfl
  refine AW.go ?_ (by simp only [go_sem, ↓reduceIte, b1, b2] <;> rfl)
  refine AW.callE (fun _ => 0) (encI_fn [10, 20, 30, 40] (by intro x hx; simp at hx; unfold i64r; omega)) (.lend rfl co_3 .nil) ?_
  rw [awakeI_enc]
  refine AW.go ?_ (by simp only [go_sem, ↓reduceIte, b1] <;> rfl)
  refine AW.callE (fun _ => 0) (decI_fn [2, 20, 20, 0] 4 (by decide) (by decide)) (.lend rfl co_5 (.pv _ .nil)) ?_
  rw [awakeI_dec]
  refine AW.gg ?_ (by simp only [go_sem, ↓reduceIte, b1] <;> rfl)
  refine AW.guardT rfl rfl ?_
  refine AW.callE (fun _ => 0) (ref01Same_fn [2, 20, 20, 0] [2, 20, 20, 0] (by decide)) (.lend rfl co_5 (.lend rfl co_5 .nil)) ?_
  refine AW.gg ?_ (by simp only [go_sem, ↓reduceIte, b2, decide_true] <;> rfl)
  refine AW.guardT rfl rfl ?_
  refine AW.callE (fun _ => 0) (ref04Same_fn [10, 20, 30, 40] [10, 20, 30, 40] (by decide)) (.lend rfl co_3 (.lend rfl co_3 .nil)) ?_
  refine AW.gg ?_ (by simp only [go_sem, ↓reduceIte, decide_true] <;> rfl)
  refine AW.finE (.pv _ .nil) rfl

theorem law08ways_fn (xs : List Int) (w : Int) (hx : ∀ x ∈ xs, i64r x) : Fn Try.prog 3 [] [.pv (.sl 1 (ints xs)), .pv (.int .i64 w)] (fun rs H' => rs = [.pv (.bool true)] ∧ H' = []) := by
  refine Fn.of_body (fn := Try.f3) (n := 43) (res := [.tmp 4]) (by kernel_rfl) rfl rfl rfl rfl rfl (fun C => ?_)
  have ee : ∀ e : Int, (e == e) = true := fun e => by simp
  refine AW.go ?_
  refine AW.callE (fun _ => 0) awake08_fn .nil ?_
  by_cases h1 : 300 < xs.length
  · have d1 : decide ((xs.length : Int) > 300) = true := decide_eq_true (by omega)
    by_cases h2 : xs.length ≤ 65536
    · have d2 : decide ((xs.length : Int) ≤ 65536) = true := decide_eq_true (by omega)
      refine AW.gg ?_ (by simp only [go_sem, ↓reduceIte, d1, d2] <;> rfl)
      refine AW.condT rfl ?_
      refine AW.go ?_
      refine AW.finE (.pv _ .nil) rfl
    have d2 : decide ((xs.length : Int) ≤ 65536) = false := decide_eq_false (by omega)
    refine AW.gg ?_ (by simp only [go_sem, ↓reduceIte, d1, d2] <;> rfl)
    refine AW.condF rfl ?_
    refine AW.go ?_
    refine AW.callE (fun _ => 0) (wayIn_fn xs w hx) (.pv _ (.pv _ .nil)) ?_
    refine AW.go ?_
    refine AW.callE (fun _ => 0) (refWayIn_fn xs w hx) (.pv _ (.pv _ .nil)) ?_
    refine AW.gg ?_ (by simp only [go_sem, ↓reduceIte, ee] <;> rfl)
    refine AW.guardT rfl rfl ?_
    refine AW.callE (fun _ => 0) (ref01Same_fn (wayI xs w).1 (wayI xs w).1 (Nat.le_trans (wayI_len w hx) (by decide))) (.lend rfl co_5 (.lend rfl co_5 .nil)) ?_
    refine AW.gg ?_ (by simp only [go_sem, ↓reduceIte, decide_true] <;> rfl)
    refine AW.finE (.pv _ .nil) rfl
  · have d1 : decide ((xs.length : Int) > 300) = false := decide_eq_false (by omega)
    refine AW.gg ?_ (by simp only [go_sem, ↓reduceIte, d1] <;> rfl)
    refine AW.condF rfl ?_
    refine AW.go ?_
    refine AW.callE (fun _ => 0) (wayIn_fn xs w hx) (.pv _ (.pv _ .nil)) ?_
    refine AW.go ?_
    refine AW.callE (fun _ => 0) (refWayIn_fn xs w hx) (.pv _ (.pv _ .nil)) ?_
    refine AW.gg ?_ (by simp only [go_sem, ↓reduceIte, ee] <;> rfl)
    refine AW.guardT rfl rfl ?_
    refine AW.callE (fun _ => 0) (ref01Same_fn (wayI xs w).1 (wayI xs w).1 (Nat.le_trans (wayI_len w hx) (by decide))) (.lend rfl co_5 (.lend rfl co_5 .nil)) ?_
    refine AW.gg ?_ (by simp only [go_sem, ↓reduceIte, decide_true] <;> rfl)
    refine AW.finE (.pv _ .nil) rfl

theorem law08encodes_fn (xs : List Int) (hx : ∀ x ∈ xs, i64r x) : Fn Try.prog 4 [] [.pv (.sl 1 (ints xs))] (fun rs H' => rs = [.pv (.bool true)] ∧ H' = []) := by
  refine Fn.of_body (fn := Try.f4) (n := 39) (res := [.tmp 2]) (by kernel_rfl) rfl rfl rfl rfl rfl (fun C => ?_)
  have ee : ∀ e : Int, (e == e) = true := fun e => by simp
  refine AW.go ?_
  refine AW.callE (fun _ => 0) awake08_fn .nil ?_
  by_cases h1 : 300 < xs.length
  · have d1 : decide ((xs.length : Int) > 300) = true := decide_eq_true (by omega)
    by_cases h2 : xs.length ≤ 65536
    · have d2 : decide ((xs.length : Int) ≤ 65536) = true := decide_eq_true (by omega)
      refine AW.gg ?_ (by simp only [go_sem, ↓reduceIte, d1, d2] <;> rfl)
      refine AW.condT rfl ?_
      refine AW.go ?_
      refine AW.finE (.pv _ .nil) rfl
    have d2 : decide ((xs.length : Int) ≤ 65536) = false := decide_eq_false (by omega)
    refine AW.gg ?_ (by simp only [go_sem, ↓reduceIte, d1, d2] <;> rfl)
    refine AW.condF rfl ?_
    refine AW.go ?_
    refine AW.callE (fun _ => 0) (encI_fn xs hx) (.pv _ .nil) ?_
    refine AW.go ?_
    refine AW.callE (fun _ => 0) (refEncI_fn xs hx) (.pv _ .nil) ?_
    refine AW.gg ?_ (by simp only [go_sem, ↓reduceIte, ee] <;> rfl)
    refine AW.guardT rfl rfl ?_
    refine AW.callE (fun _ => 0) (ref01Same_fn (encI xs).1 (encI xs).1 (Nat.le_trans (encI_room hx) (by decide))) (.lend rfl co_5 (.lend rfl co_5 .nil)) ?_
    refine AW.gg ?_ (by simp only [go_sem, ↓reduceIte, decide_true] <;> rfl)
    refine AW.finE (.pv _ .nil) rfl
  · have d1 : decide ((xs.length : Int) > 300) = false := decide_eq_false (by omega)
    refine AW.gg ?_ (by simp only [go_sem, ↓reduceIte, d1] <;> rfl)
    refine AW.condF rfl ?_
    refine AW.go ?_
    refine AW.callE (fun _ => 0) (encI_fn xs hx) (.pv _ .nil) ?_
    refine AW.go ?_
    refine AW.callE (fun _ => 0) (refEncI_fn xs hx) (.pv _ .nil) ?_
    refine AW.gg ?_ (by simp only [go_sem, ↓reduceIte, ee] <;> rfl)
    refine AW.guardT rfl rfl ?_
    refine AW.callE (fun _ => 0) (ref01Same_fn (encI xs).1 (encI xs).1 (Nat.le_trans (encI_room hx) (by decide))) (.lend rfl co_5 (.lend rfl co_5 .nil)) ?_
    refine AW.gg ?_ (by simp only [go_sem, ↓reduceIte, decide_true] <;> rfl)
    refine AW.finE (.pv _ .nil) rfl

theorem law08decodes_fn (l : List Nat) (n : Int) (hb : ∀ x ∈ l, x < 256) : Fn Try.prog 5 [] [.pv (.sl 1 (bytes l)), .pv (.int .i64 n)] (fun rs H' => rs = [.pv (.bool true)] ∧ H' = []) := by
  refine Fn.of_body (fn := Try.f5) (n := 46) (res := [.tmp 4]) (by kernel_rfl) rfl rfl rfl rfl rfl (fun C => ?_)
  have ee : ∀ e : Int, (e == e) = true := fun e => by simp
  have hr : room = 140737488355328 := rfl
  refine AW.go ?_
  refine AW.callE (fun _ => 0) awake08_fn .nil ?_
  by_cases h1 : 300 < l.length
  · have d1 : decide ((l.length : Int) > 300) = true := decide_eq_true (by omega)
    refine AW.gg ?_ (by simp only [go_sem, ↓reduceIte, d1] <;> rfl)
    refine AW.condT rfl ?_
    refine AW.go ?_
    refine AW.finE (.pv _ .nil) rfl
  have d1 : decide ((l.length : Int) > 300) = false := decide_eq_false (by omega)
  have hlen : (decI l n).1.length ≤ room := Nat.le_trans (decI_len hb n) (by decide)
  by_cases h2 : 600 < n
  · have d2 : decide (n > 600) = true := decide_eq_true (by omega)
    by_cases h3 : n ≤ 65536
    · have d3 : decide (n ≤ 65536) = true := decide_eq_true h3
      refine AW.gg ?_ (by simp only [go_sem, ↓reduceIte, d1, d2, d3] <;> rfl)
      refine AW.condT rfl ?_
      refine AW.go ?_
      refine AW.finE (.pv _ .nil) rfl
    have d3 : decide (n ≤ 65536) = false := decide_eq_false h3
    refine AW.gg ?_ (by simp only [go_sem, ↓reduceIte, d1, d2, d3] <;> rfl)
    refine AW.condF rfl ?_
    refine AW.go ?_
    refine AW.callE (fun _ => 0) (decI_fn l n (by omega) hb) (.pv _ (.pv _ .nil)) ?_
    refine AW.go ?_
    refine AW.callE (fun _ => 0) (refDecI_fn l n (by omega) hb) (.pv _ (.pv _ .nil)) ?_
    refine AW.gg ?_ (by simp only [go_sem, ↓reduceIte, ee] <;> rfl)
    refine AW.guardT rfl rfl ?_
    refine AW.callE (fun _ => 0) (ref04Same_fn (decI l n).1 (decI l n).1 hlen) (.lend rfl co_3 (.lend rfl co_3 .nil)) ?_
    refine AW.gg ?_ (by simp only [go_sem, ↓reduceIte, decide_true] <;> rfl)
    refine AW.finE (.pv _ .nil) rfl
  · have d2 : decide (n > 600) = false := decide_eq_false (by omega)
    refine AW.gg ?_ (by simp only [go_sem, ↓reduceIte, d1, d2] <;> rfl)
    refine AW.condF rfl ?_
    refine AW.go ?_
    refine AW.callE (fun _ => 0) (decI_fn l n (by omega) hb) (.pv _ (.pv _ .nil)) ?_
    refine AW.go ?_
    refine AW.callE (fun _ => 0) (refDecI_fn l n (by omega) hb) (.pv _ (.pv _ .nil)) ?_
    refine AW.gg ?_ (by simp only [go_sem, ↓reduceIte, ee] <;> rfl)
    refine AW.guardT rfl rfl ?_
    refine AW.callE (fun _ => 0) (ref04Same_fn (decI l n).1 (decI l n).1 hlen) (.lend rfl co_3 (.lend rfl co_3 .nil)) ?_
    refine AW.gg ?_ (by simp only [go_sem, ↓reduceIte, decide_true] <;> rfl)
    refine AW.finE (.pv _ .nil) rfl
end Go.Ck

set_option linter.unusedVariables false
namespace Go.Ck
theorem rwN_raw : ∀ (xs : List Int) (acc : List Nat), rwN xs.length acc (raw8 xs) = (acc ++ xs.map u64of, 0)
  | [], acc => by simp [rwN, raw8]
  | x :: xs, acc => by
    have e : raw8 (x :: xs) = beB (u64of x) 8 ++ raw8 xs := by simp [raw8]
    have h8 : (beB (u64of x) 8).length = 8 := beB_len _ _
    rw [List.length_cons, rwN, e, if_neg (by rw [List.length_append]; omega)]
    have ht : (beB (u64of x) 8 ++ raw8 xs).take 8 = beB (u64of x) 8 := List.take_left' h8
    have hd : (beB (u64of x) 8 ++ raw8 xs).drop 8 = raw8 xs := List.drop_left' h8
    rw [ht, hd, beN8 (u64of_lt x), rwN_raw xs]
    simp
theorem rvN_lebs : ∀ (z : List Nat) (acc : List Nat), (∀ x ∈ z, x < 2 ^ 64) → rvN z.length acc (lebs z) = (acc ++ z, 0)
  | [], acc, _ => by simp [rvN, lebs]
  | x :: z, acc, h => by
    rw [List.length_cons, rvN, lebs_cons, readV_leb (h x (by simp))]
    simp only [ne_eq, not_true_eq_false, if_false, List.drop_left]
    rw [rvN_lebs z _ (fun y hy => h y (by simp [hy]))]
    simp
theorem unF_pack {z : List Nat} (h : ∀ x ∈ z, x < 2 ^ 64) : unF (packF z) z.length = (z, 0) := by
  have hlo := lo_lt (by omega) h
  have hw := wF_le h
  have hr := readV_leb hlo (wF z :: pk (bitsF z (lo z) (wF z)))
  unfold unF packF
  rw [hr]
  simp only [ne_eq, not_true_eq_false, if_false, List.drop_left, unF1]
  have hbl := bitsF_len z (lo z) (wF z)
  have hpl := pk_len (bitsF z (lo z) (wF z))
  have hub := unb_pk (bitsF_bit z (lo z) (wF z))
  have hval : ∀ i, (hi : i < z.length) → valF (pk (bitsF z (lo z) (wF z))) (wF z) i + lo z = z[i] := by
    intro i hi
    have hm := List.getElem_mem hi
    unfold valF getB
    rw [hub, Nat.mul_comm i]
    unfold bitsF
    rw [flat_takeN (fun x => binB (x - lo z) (wF z)) (wF z) (fun x => binB_len _ _) z _ i hi, binN_binB, Nat.mod_eq_of_lt (wF_fit hm)]
    have := lo_le hm
    omega
  have hvals : valsF (pk (bitsF z (lo z) (wF z))) (wF z) z.length (lo z) = z := by
    refine List.ext_getElem (valsF_len _ _ _ _) (fun i h1 h2 => ?_)
    simp only [valsF, List.getElem_map, List.getElem_range]
    exact hval i h2
  have hok : okF (pk (bitsF z (lo z) (wF z))) (wF z) z.length (lo z) = true := by
    rw [okF, List.all_eq_true]
    intro i hi
    simp only [List.mem_range] at hi
    rw [decide_eq_true_eq, hval i hi]
    exact h _ (List.getElem_mem hi)
  have hend : endF (pk (bitsF z (lo z) (wF z))) (z.length * wF z) = true := by
    unfold endF
    rw [hub]
    simp only [Bool.and_eq_true, decide_eq_true_eq]
    refine ⟨by omega, ?_⟩
    rw [← hbl, List.drop_left]
    intro x hx
    exact List.eq_of_mem_replicate hx
  rw [if_neg (by omega), if_neg (by omega)]
  unfold unF2
  rw [hok, hend, hvals]
  simp
theorem hornB_div {w : Nat} : ∀ (l : List Nat), (∀ x ∈ l, x < 2 ^ w) → ∀ j, j ≤ l.length → hornB w l / 2 ^ ((l.length - j) * w) = hornB w (l.take j) := by
  intro l
  induction l using snoc_ind with
  | h0 => intro _ j hj; simp [hornB]
  | h1 l b ih =>
    intro h j hj
    rw [List.length_append, List.length_singleton] at hj ⊢
    by_cases hjl : j = l.length + 1
    · subst hjl
      rw [Nat.sub_self, Nat.zero_mul, Nat.pow_zero, Nat.div_one, List.take_of_length_le (by simp)]
    · have hb := h b (by simp)
      have e : (l.length + 1 - j) * w = w + (l.length - j) * w := by rw [show l.length + 1 - j = (l.length - j) + 1 by omega, Nat.succ_mul]; omega
      rw [e, Nat.pow_add, ← Nat.div_div_eq_div_mul, hornB_snoc]
      have e2 : (hornB w l * 2 ^ w + b) / 2 ^ w = hornB w l := by
        rw [Nat.add_comm, Nat.add_mul_div_right _ _ (Nat.two_pow_pos w), Nat.div_eq_of_lt hb, Nat.zero_add]
      rw [e2, ih (fun x hx => h x (by simp [hx])) j (by omega), List.take_append_of_le_length (by omega)]
theorem unS_word {z : List Nat} {s : Nat} (hs : s < 16) (hf : fitS z s = true) : unS (wordS z s) = z.take (cn s) := by
  obtain ⟨c1, c2, c3, c4⟩ := cw s hs
  obtain ⟨hcl, hfit⟩ := fitS_len hf
  have hwl := (wordS_lt hs hf).1
  have hdiv : wordS z s / 2 ^ 60 = s := by
    unfold wordS
    rw [Nat.add_comm, Nat.add_mul_div_right _ _ (Nat.two_pow_pos 60), Nat.div_eq_of_lt hwl, Nat.zero_add]
  unfold unS
  rw [hdiv]
  have hql : (z.take (cn s)).length = cn s := by rw [List.length_take]; omega
  refine List.ext_getElem (by rw [valsS_len, hql]) (fun i h1 h2 => ?_)
  simp only [valsS, List.getElem_map, List.getElem_range, hdiv]
  unfold wordS
  generalize hq : z.take (cn s) = q at *
  have hi : i < cn s := by omega
  generalize cn s = c at *
  generalize wn s = w at *
  have hm : (i + 1) * w ≤ c * w := Nat.mul_le_mul_right _ hi
  have e1 : 60 - c * w = (60 - (i + 1) * w) - (c - (i + 1)) * w := by rw [Nat.sub_mul]; omega
  have hcm : (c - (i + 1)) * w ≤ 60 - (i + 1) * w := by rw [Nat.sub_mul]; omega
  -- everything over 2 ^ (60 - (i+1) w)
  have e60 : 2 ^ 60 = 2 ^ ((i + 1) * w) * 2 ^ (60 - (i + 1) * w) := by rw [← Nat.pow_add]; congr 1; omega
  have hsplit : hornB w q * 2 ^ (60 - c * w) / 2 ^ (60 - (i + 1) * w) = hornB w (q.take (i + 1)) := by
    have e3 : 2 ^ (60 - (i + 1) * w) = 2 ^ (60 - c * w) * 2 ^ ((c - (i + 1)) * w) := by rw [← Nat.pow_add]; congr 1; rw [Nat.sub_mul]; omega
    rw [e3, Nat.mul_comm (hornB w q), Nat.mul_div_mul_left _ _ (Nat.two_pow_pos _), ← hornB_div q hfit (i + 1) (by omega), hql]
  have e4 : (s * 2 ^ 60 + hornB w q * 2 ^ (60 - c * w)) / 2 ^ (60 - (i + 1) * w) = s * 2 ^ ((i + 1) * w) + hornB w (q.take (i + 1)) := by
    rw [e60, ← Nat.mul_assoc, Nat.add_comm, Nat.add_mul_div_right _ _ (Nat.two_pow_pos _), hsplit, Nat.add_comm]
  rw [e4]
  have ht : q.take (i + 1) = q.take i ++ [q[i]] := by simp
  rw [ht, hornB_snoc]
  have e5 : s * 2 ^ ((i + 1) * w) + (hornB w (q.take i) * 2 ^ w + q[i]) = (s * 2 ^ (i * w) + hornB w (q.take i)) * 2 ^ w + q[i] := by
    have e6 : (s * 2 ^ (i * w) + hornB w (q.take i)) * 2 ^ w = s * 2 ^ (i * w) * 2 ^ w + hornB w (q.take i) * 2 ^ w := Nat.add_mul _ _ _
    rw [e6, Nat.mul_assoc s, ← Nat.pow_add, show (i + 1) * w = i * w + w from Nat.succ_mul _ _]; omega
  rw [e5, Nat.mul_add_mod_self_right, Nat.mod_eq_of_lt (hfit _ (List.getElem_mem _))]
theorem rdS_enc (n : Nat) : ∀ (k : Nat) (z acc : List Nat), z.length ≤ k → (∀ x ∈ z, x < 2 ^ 60) → acc.length + z.length = n → rdS n acc (encS z) = (acc ++ z, [], 0) := by
  intro k
  induction k with
  | zero =>
    intro z acc hk _ hn
    have h0 : z = [] := List.length_eq_zero_iff.1 (by omega)
    subst h0
    rw [rdS_end (by simp at hn; omega), encS_nil, List.append_nil]
  | succ k ih =>
    intro z acc hk hz hn
    by_cases h0 : z = []
    · subst h0
      rw [rdS_end (by simp at hn; omega), encS_nil, List.append_nil]
    · have hpos : 0 < z.length := by cases z with | nil => exact absurd rfl h0 | cons a r => simp
      have hs := fstS_lt z
      have hf := fstS_fit h0 hz
      have hc := cw _ hs
      have hcl := (fitS_len hf).1
      have hwl := (wordS_lt hs hf).2
      have h8 : (beB (wordS z (fstS z)) 8).length = 8 := beB_len _ _
      rw [encS_cons h0]
      have ht : (beB (wordS z (fstS z)) 8 ++ encS (z.drop (cn (fstS z)))).take 8 = beB (wordS z (fstS z)) 8 := List.take_left' h8
      have hd : (beB (wordS z (fstS z)) 8 ++ encS (z.drop (cn (fstS z)))).drop 8 = encS (z.drop (cn (fstS z))) := List.drop_left' h8
      rw [rdS_step (by omega) (by rw [List.length_append]; omega), ht, hd, beN8 hwl, unS_word hs hf, ih _ _ (by rw [List.length_drop]; omega) (fun x hx => hz x (List.mem_of_mem_drop hx)) (by rw [List.length_append, List.length_take, List.length_drop]; omega), List.append_assoc, List.take_append_drop]
theorem decS_enc {z : List Nat} (h : ∀ x ∈ z, x < 2 ^ 60) : decS (encS z) z.length = (z, 0) := by
  unfold decS
  rw [rdS_enc z.length z.length z [] (Nat.le_refl _) h (by simp)]
  simp
theorem run_split {z : List Nat} (h : z ≠ []) : ∃ x m r, z = List.replicate (m + 1) x ++ r ∧ r.head? ≠ some x := by
  induction z with
  | nil => exact absurd rfl h
  | cons x z ih =>
    cases z with
    | nil => exact ⟨x, 0, [], rfl, by simp⟩
    | cons y z =>
      by_cases hxy : y = x
      · obtain ⟨x', m, r, e, hr⟩ := ih (by simp)
        have hx' : x' = y := by
          have := congrArg List.head? e
          simp [List.replicate_succ] at this
          exact this.symm
        subst hx'
        subst hxy
        exact ⟨x', m + 1, r, by rw [e]; rfl, hr⟩
      · exact ⟨x, 0, y :: z, rfl, by simpa using hxy⟩
theorem rdR_enc (n : Nat) (hn16 : n ≤ 65536) : ∀ (k : Nat) (z acc : List Nat), z.length ≤ k → (∀ x ∈ z, x < 2 ^ 64) → acc.length + z.length = n → (z ≠ [] → acc.getLast? ≠ z.head?) → rdR n acc (encRn 0 z) = (acc ++ z, [], 0) := by
  intro k
  induction k with
  | zero =>
    intro z acc hk _ hn _
    have h0 : z = [] := List.length_eq_zero_iff.1 (by omega)
    subst h0
    rw [rdR_end (by simp at hn; omega), encRn_nil, List.append_nil]
  | succ k ih =>
    intro z acc hk hz hn hlast
    by_cases h0 : z = []
    · subst h0
      rw [rdR_end (by simp at hn; omega), encRn_nil, List.append_nil]
    · have hlast := hlast h0
      obtain ⟨x, m, r, rfl, hr⟩ := run_split h0
      rw [List.length_append, List.length_replicate] at hn hk
      have hx : x < 2 ^ 64 := hz x (by simp [List.replicate_succ])
      have hh : (List.replicate (m + 1) x ++ r).head? = some x := by simp [List.replicate_succ]
      rw [hh] at hlast
      have h1 := readV_leb hx (leb m ++ encRn 0 r)
      have h2 := readV_leb (v := m) (by omega) (encRn 0 r)
      rw [encRn_run hr m 0, Nat.zero_add, List.append_assoc]
      have hd1 : (leb x ++ (leb m ++ encRn 0 r)).drop (leb x).length = leb m ++ encRn 0 r := List.drop_left
      have hd2 : (leb m ++ encRn 0 r).drop (leb m).length = encRn 0 r := List.drop_left
      have hst := rdR_step (n := n) (acc := acc) (l := leb x ++ (leb m ++ encRn 0 r)) (by omega) (by rw [h1]; simp) (by rw [h1]; simp only [hd1]; rw [h2]; simp) (by
        rw [h1]
        simp only [hd1]
        rw [h2]
        simp only [badR, Bool.or_eq_true, decide_eq_true_eq, not_or]
        exact ⟨by omega, hlast⟩)
      rw [hst, h1]
      simp only [hd1]
      rw [h2]
      simp only [hd2]
      rw [ih r (acc ++ List.replicate (m + 1) x) (by omega) (fun y hy => hz y (by simp [hy])) (by rw [List.length_append, List.length_replicate]; omega) (by
        intro _
        rw [List.getLast?_append, List.replicate_succ', List.getLast?_concat]
        simpa using fun h => hr h.symm)]
      rw [List.append_assoc]
theorem decR_enc {z : List Nat} (h : ∀ x ∈ z, x < 2 ^ 64) (hl : z.length ≤ 65536) : decR (encRn 0 z) z.length = (z, 0) := by
  unfold decR
  rw [rdR_enc z.length hl z.length z [] (Nat.le_refl _) h (by simp) (by
    intro h0
    cases z with
    | nil => exact absurd rfl h0
    | cons a r => simp)]
  simp
end Go.Ck
