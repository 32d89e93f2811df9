/- What is proved here: parts of the proofs of this seat's statements (a verified evaluator for calls over pure values, its laws, and contracts of functions). No condition. -/
import Derived.Test.YthjibccogjggbaaGreatKw
import Derived.Test.YthjibccogjggbaaGreatKu
import Derived.Test.YthjibccogjggbaaGreatKo
import Derived.Test.YthjibccogjggbaaGreatKt
import Derived.Shelf.Sort.Plain
import Derived.Test.YthjibccogjggbaaGreatKn
import Derived.Test.YthjibccogjggbaaGreatKd
import Derived.Test.YthjibccogjggbaaGreatKj
import Derived.Lib.SlBytesConst
set_option linter.all false
set_option linter.unusedVariables false
set_option maxRecDepth 100000
set_option maxHeartbeats 400000
namespace Go.Ck
open Go.Proofs
theorem sizes_fn : Fn Tryz.prog 77 [] [] (fun rs H' => rs = [.fn 89 []] ∧ H' = []) := by
  refine Fn.of_body (fn := Tryz.f77) (n := 1) (res := [.tmp 0]) (by kernel_rfl) rfl rfl rfl rfl rfl (fun C => ?_)
  refine AW.go ?_
  refine AW.finE (.fn rfl .nil) rfl
theorem sizes_iter : Iter Tryz.prog 89 [] [] szs := by
  refine Iter.of_body (fn := Tryz.f89) (n := 15) (by kernel_rfl) rfl rfl rfl rfl (fun l X X0 N hY hN => ?_)
  refine AW.go ?_
  refine AW.loopC (n := 9) (fun m C s => ∃ i, m = 9 - i ∧ i ≤ 9 ∧ i ≤ N ∧ C = plain (X i) ∧ keepB [0, 2, 3] [] s = ⟨15, [(0, .yl l), (2, .pv (.int .i64 i)), (3, .pv (.int .i64 (szB i : Int)))], []⟩ ∧ keptB none [0, 2, 3] [] s = true) ⟨0, rfl, by omega, Nat.zero_le _, rfl, by simp only [go_sem, ↓reduceIte] <;> rfl, by simp only [go_sem, ↓reduceIte]⟩ ?_
  rintro m C s ⟨i, rfl, hi, hiN, rfl, hs, hk⟩
  refine AW.keepB [0, 2, 3] [] hk hs ?_
  have hin := szB_in i hi
  have hle := szB_le i hi
  have hsu := szB_succ i
  refine AW.go ?_
  refine AW.cond rfl (fun hc => ?_) (fun hc => ?_)
  · have h8 : i ≤ 8 := hin.1 (by have := of_decide_eq_true hc; omega)
    have hxi : szs i = some [.int .i64 (i : Int), .int .i64 (szB i : Int)] := by unfold szs; rw [if_pos (by omega)]
    by_cases hn : i = N
    · rcases hN with h | h
      · rw [← hn, hxi] at h; cases h
      · rw [hn]; exact AW.absurdC h
    obtain ⟨p, hp, hY1⟩ := hY _ (by omega : i < N)
    rw [hxi] at hp
    cases hp
    have e1 : IntKind.i64.wrap ((i : Int) + 1) = ((i + 1 : Nat) : Int) := wrap_i64_succ (by omega)
    have e2 : IntKind.i64.wrap ((szB i : Int) * 4) = (szB (i + 1) : Int) := by rw [wrap_i64_of (by omega) (by omega), hsu]; omega
    refine AW.go ?_
    refine AW.yield hY1 rfl rfl ?_ ?_
    · refine AW.go ?_
      refine AW.condF rfl ?_
      refine AW.go ?_ (by simp only [go_sem, ↓reduceIte, e1, e2] <;> rfl)
      refine AW.stop ⟨9 - (i + 1), by omega, i + 1, rfl, by omega, by omega, rfl, by simp only [go_sem, ↓reduceIte] <;> rfl, by simp only [go_sem, ↓reduceIte]⟩
    · refine AW.go ?_
      refine AW.condT rfl ?_
      refine AW.go ?_
      exact AW.nil ⟨.inr rfl, .inr rfl⟩
  · have h9 : i = 9 := by
      have := of_decide_eq_false hc
      apply Classical.byContradiction; intro h
      have := hin.2 (by omega); omega
    subst h9
    have hend : szs 9 = none := rfl
    have hNe : 9 = N := by
      apply Classical.byContradiction
      intro hne
      obtain ⟨p, hp, _⟩ := hY _ (by omega : 9 < N)
      rw [hend] at hp; cases hp
    rw [hNe] at hend
    rw [hNe]
    refine AW.go ?_
    exact AW.nil ⟨.inl rfl, .inl ⟨hend, rfl⟩⟩
theorem size_fn (k : Int) : Fn Tryz.prog 55 [] [.pv (.int .i64 k)] (fun rs H' => rs = [.pv (.int .i64 (padSz k : Nat))] ∧ H' = []) := by
  refine Fn.of_bodyR (fn := Tryz.f55) (n := 14) (res := [.tmp 2]) (by kernel_rfl) rfl rfl rfl rfl rfl (fun C => ?_)
  rw [← padAcc_9]
  refine AW.go ?_
  refine AW.callE (fun _ => 0) sizes_fn .nil ?_
  refine AW.go ?_
  refine AW.rangeFunc [1, 3] [1, 3] (fun i hp => hp = [(1, .cells 3 [.pv (.int .i64 k)]), (3, .cells 3 [.pv (.int .i64 (padAcc k i : Nat))])]) (fun _ _ => False) 9 sizes_iter rfl (by simp only [go_sem, ↓reduceIte]) (by simp only [go_sem, ↓reduceIte]) (by simp only [go_sem, ↓reduceIte]) (by simp only [go_sem, ↓reduceIte] <;> rfl) rfl rfl rfl rfl (by rw [padAcc_0]; rfl) ?_ ?_ (.inl rfl) ?_ ?_ ?_
  · intro i p hp
    unfold szs at hp
    split at hp
    · cases hp; rfl
    · cases hp
  · intro i hi
    exact ⟨_, by unfold szs; rw [if_pos hi]⟩
  · intro i p hi hp
    unfold szs at hp
    rw [if_pos hi] at hp
    cases hp
    rintro _ rfl l C1
    refine AW.go ?_
    refine AW.nil ⟨rfl, rfl, fun C2 => ?_⟩
    by_cases hik : (i : Int) = k
    · have d1 : ((i : Int) == k) = true := by simpa using hik
      have hsu : padAcc k (i + 1) = szB i := by rw [← hik]; exact padAcc_eq i
      refine AW.go ?_ (by simp only [go_sem, ↓reduceIte, d1] <;> rfl)
      refine AW.condT rfl ?_
      refine AW.go ?_
      refine AW.nil ⟨rfl, by simp only [go_sem, ↓reduceIte], by simp only [go_sem, ↓reduceIte], .inl ⟨rfl, ?_⟩⟩
      simp only [go_sem, ↓reduceIte, hsu]
    · have d1 : ((i : Int) == k) = false := by simpa using hik
      have hsu := padAcc_ne k i hik
      refine AW.go ?_ (by simp only [go_sem, ↓reduceIte, d1] <;> rfl)
      refine AW.condF rfl ?_
      refine AW.go ?_
      refine AW.nil ⟨rfl, by simp only [go_sem, ↓reduceIte], by simp only [go_sem, ↓reduceIte], .inl ⟨rfl, ?_⟩⟩
      simp only [go_sem, ↓reduceIte, hsu]
  · rintro hp _ rfl
    refine AW.go ?_
    refine AW.finR (.inr rfl) (.inr rfl) (by simp only [go_sem, ↓reduceIte, retsV] <;> rfl) (.pv _ .nil) (H' := []) (by simp only [go_sem, ↓reduceIte]) (by simp only [go_sem, ↓reduceIte]) (by simp only [go_sem, ↓reduceIte]) ⟨rfl, rfl⟩
  · rintro j hp h; exact h.elim

theorem longE_fn (e : Ent) : Fn Tryz.prog 57 [] [.pv (.agg [.str e.1, .int .i64 e.2])] (fun rs H' => rs = [.pv (.bool (longB e))] ∧ H' = []) := by
  refine Fn.of_body (fn := Tryz.f57) (n := 7) (res := [.tmp 2]) (by kernel_rfl) rfl rfl rfl rfl rfl (fun C => ?_)
  have d1 : decide ((e.1.length : Int) > 64) = longB e := by unfold longB; rw [Bool.eq_iff_iff]; simp; omega
  refine AW.go ?_ (by simp only [go_sem, ↓reduceIte, d1] <;> rfl)
  refine AW.finE (.pv _ .nil) rfl
theorem indexLong_fn (es : List Ent) (hl : es.length < 2 ^ 40) : Fn Tryz.prog 78 [] [.pv (.sl 2 (entsP es)), .fn 57 []] (fun rs H' => ∃ n : Int, rs = [.pv (.int .i64 n)] ∧ decide (n ≥ 0) = es.any longB ∧ H' = []) := by
  refine Fn.of_body (fn := Tryz.f78) (n := 19) (res := [.tmp 4]) (by kernel_rfl) rfl rfl rfl rfl rfl (fun C => ?_)
  refine AW.go ?_
  refine AW.loopS (fun i : Nat => ⟨19, [(8, .pv (.int .i64 i)), (0, .pv (.sl 2 (entsP es))), (1, .fn 57 []), (7, .pv (.int .i64 es.length))], []⟩) (fun i => i ≤ es.length ∧ (es.take i).any longB = false) (fun i => es.length - i) [8, 0, 1, 7] [] 0 ⟨Nat.zero_le _, rfl⟩ ?_
  rintro i ⟨hi, hn⟩ K hK
  refine AW.go ?_
  refine AW.cond rfl (fun hc => ?_) (fun hc => ?_)
  · have hlt : i < es.length := by have := of_decide_eq_true hc; omega
    obtain ⟨e, he⟩ : ∃ e, es[i]? = some e := ⟨es[i], List.getElem?_eq_getElem hlt⟩
    have hg := entsP_get he
    have hst : (es.take (i + 1)).any longB = longB e := by rw [List.take_add_one, he, List.any_append, hn]; simp
    have e1 : IntKind.i64.wrap ((i : Int) + 1) = ((i + 1 : Nat) : Int) := wrap_i64_succ (by omega)
    refine AW.go ?_ (by simp only [go_sem, ↓reduceIte, hg] <;> rfl)
    refine AW.callE (fun _ => 0) (longE_fn e) (.pv _ .nil) ?_
    refine AW.go ?_
    refine AW.cond rfl (fun hc2 => ?_) (fun hc2 => ?_)
    · refine AW.go ?_
      refine AW.fin (.inr rfl) (by simp only [go_sem, ↓reduceIte] <;> rfl) (.pv _ .nil) (H' := []) (by simp only [go_sem, ↓reduceIte]) (by simp only [go_sem, ↓reduceIte]) (by simp only [go_sem, ↓reduceIte]) ⟨i, rfl, ?_, rfl⟩
      rw [decide_eq_true (by omega)]
      symm
      rw [List.any_eq_true]
      exact ⟨e, List.mem_of_getElem? he, hc2⟩
    · refine AW.go ?_ (by simp only [go_sem, ↓reduceIte, e1] <;> rfl)
      exact AW.again hK (i + 1) (by exact ⟨by omega, by rw [hst]; exact hc2⟩) (by omega)
  · have hge : i = es.length := by have := of_decide_eq_false hc; omega
    subst hge
    rw [List.take_length] at hn
    refine AW.go ?_
    refine AW.fin (.inr rfl) (by simp only [go_sem, ↓reduceIte] <;> rfl) (.pv _ .nil) (H' := []) (by simp only [go_sem, ↓reduceIte]) (by simp only [go_sem, ↓reduceIte]) (by simp only [go_sem, ↓reduceIte]) ⟨-1, rfl, ?_, rfl⟩
    rw [hn]; rfl
theorem containsLong_fn (es : List Ent) (hl : es.length < 2 ^ 40) : Fn Tryz.prog 56 [] [.pv (.sl 2 (entsP es)), .fn 57 []] (fun rs H' => rs = [.pv (.bool (es.any longB))] ∧ H' = []) := by
  refine Fn.of_body (fn := Tryz.f56) (n := 9) (res := [.tmp 4]) (by kernel_rfl) rfl rfl rfl rfl rfl (fun C => ?_)
  refine AW.go ?_
  refine AW.callX id rfl rfl (by simp only [go_sem, ↓reduceIte] <;> rfl) (indexLong_fn es hl) (.pv _ (.fn rfl .nil)) (by simp only [go_sem, ↓reduceIte]) (by simp only [go_sem, ↓reduceIte]) ?_
  rintro rs H' ⟨n, rfl, hn, rfl⟩
  refine ⟨by simp only [go_sem, ↓reduceIte], ?_⟩
  rw [← hn]
  refine AW.go ?_
  refine AW.finE (.pv _ .nil) rfl

theorem wrongMan_fn (m : Man) (hl : m.es.length < 2 ^ 40) : Fn Tryz.prog 24 [] [.pv (manP m)] (fun rs H' => rs = [.pv (.int .i64 (wrongM m : Nat))] ∧ H' = []) := by
  refine Fn.of_body (fn := Tryz.f24) (n := 41) (res := [.tmp 2]) (by kernel_rfl) rfl rfl rfl rfl rfl (fun C => ?_)
  obtain ⟨v, prev, es, root⟩ := m
  simp only at hl
  have hm : manP ⟨v, prev, es, root⟩ = .agg [.int .u64 (v : Int), .sl 1 (bytes prev), .sl 2 (entsP es), .sl 1 (bytes root)] := rfl
  rw [hm]
  unfold wrongM
  simp only
  obtain ⟨b1, hb1⟩ : ∃ b, b = decide (v = 18446744073709551615) := ⟨_, rfl⟩
  obtain ⟨b2, hb2⟩ : ∃ b, b = decide (prev.length ≠ 32) := ⟨_, rfl⟩
  obtain ⟨b3, hb3⟩ : ∃ b, b = decide (root.length ≠ 32) := ⟨_, rfl⟩
  have d1 : ((v : Int) == 18446744073709551615) = b1 := by rw [hb1, Bool.eq_iff_iff]; simp; try omega
  have d2 : ((prev.length : Int) != 32) = b2 := by rw [hb2, Bool.eq_iff_iff]; simp; omega
  have d3 : ((root.length : Int) != 32) = b3 := by rw [hb3, Bool.eq_iff_iff]; simp; omega
  have d2' : (prev.length != 32) = b2 := by rw [hb2, Bool.eq_iff_iff]; simp
  have d3' : (root.length != 32) = b3 := by rw [hb3, Bool.eq_iff_iff]; simp
  have hcond : (v = 18446744073709551615 ∨ prev.length ≠ 32 ∨ root.length ≠ 32) ↔ (b1 || (b2 || b3)) = true := by
    rw [hb1, hb2, hb3]; simp
  · cases b1 with
    | true =>
      rw [if_pos (hcond.2 rfl)]
      refine AW.gg ?_ (by simp only [go_sem, ↓reduceIte, d1, d2, d3, d2', d3'] <;> rfl)
      refine AW.condT rfl ?_
      refine AW.go ?_
      exact AW.finE (.pv _ .nil) rfl
    | false =>
      cases b2 with
      | true =>
        rw [if_pos (hcond.2 rfl)]
        refine AW.gg ?_ (by simp only [go_sem, ↓reduceIte, d1, d2, d3, d2', d3'] <;> rfl)
        refine AW.condT rfl ?_
        refine AW.go ?_
        exact AW.finE (.pv _ .nil) rfl
      | false =>
        cases b3 with
        | true =>
          rw [if_pos (hcond.2 rfl)]
          refine AW.gg ?_ (by simp only [go_sem, ↓reduceIte, d1, d2, d3, d2', d3'] <;> rfl)
          refine AW.condT rfl ?_
          refine AW.go ?_
          exact AW.finE (.pv _ .nil) rfl
        | false =>
          rw [if_neg (fun h => by have := hcond.1 h; cases this)]
          refine AW.gg ?_ (by simp only [go_sem, ↓reduceIte, d1, d2, d3, d2', d3'] <;> rfl)
          refine AW.condF rfl ?_
          refine AW.go ?_
          refine AW.loopS (fun i : Nat => ⟨41, [(23, .pv (.int .i64 i)), (1, .ptr 1 0), (21, .pv (.sl 2 (entsP es))), (22, .pv (.int .i64 es.length))], [(1, .cells 26 [.pv (.int .u64 (v : Int)), .pv (.sl 1 (bytes prev)), .pv (.sl 2 (entsP es)), .pv (.sl 1 (bytes root))])]⟩) (fun i => i ≤ es.length ∧ (es.take i).any badB = false) (fun i => es.length - i) [23, 1, 21, 22] [1] 0 ⟨Nat.zero_le _, rfl⟩ ?_
          rintro i ⟨hi, hn⟩ K hK
          refine AW.go ?_
          refine AW.cond rfl (fun hc => ?_) (fun hc => ?_)
          · have hlt : i < es.length := by have := of_decide_eq_true hc; omega
            obtain ⟨e, he⟩ : ∃ e, es[i]? = some e := ⟨es[i], List.getElem?_eq_getElem hlt⟩
            have hg := entsP_get he
            have hst : (es.take (i + 1)).any badB = badB e := by rw [List.take_add_one, he, List.any_append, hn]; simp
            have e1 : IntKind.i64.wrap ((i : Int) + 1) = ((i + 1 : Nat) : Int) := wrap_i64_succ (by omega)
            have d5 : ((padSz e.2 : Int) == 0) = badB e := by unfold badB; rw [Bool.eq_iff_iff]; simp
            refine AW.go ?_ (by simp only [go_sem, ↓reduceIte, hg] <;> rfl)
            refine AW.callE (fun _ => 0) (size_fn e.2) (.pv _ .nil) ?_
            refine AW.go ?_ (by simp only [go_sem, ↓reduceIte, d5] <;> rfl)
            refine AW.cond rfl (fun hc2 => ?_) (fun hc2 => ?_)
            · rw [if_pos (List.any_eq_true.2 ⟨e, List.mem_of_getElem? he, hc2⟩)]
              refine AW.go ?_
              exact AW.finE (.pv _ .nil) rfl
            · refine AW.go ?_ (by simp only [go_sem, ↓reduceIte, e1] <;> rfl)
              exact AW.again hK (i + 1) (by exact ⟨by omega, by rw [hst]; exact hc2⟩) (by omega)
          · have hge : i = es.length := by have := of_decide_eq_false hc; omega
            subst hge
            rw [List.take_length] at hn
            rw [if_neg (by rw [hn]; simp)]
            by_cases hL : 1048576 < es.length
            · have d6 : decide ((es.length : Int) > 1048576) = true := decide_eq_true (by omega)
              have d6' : decide (1048576 < es.length) = true := decide_eq_true hL
              rw [if_pos (.inl hL)]
              refine AW.gg ?_ (by simp only [go_sem, ↓reduceIte, d6, d6'] <;> rfl)
              refine AW.condT rfl ?_
              refine AW.go ?_
              exact AW.finE (.pv _ .nil) rfl
            · have d6 : decide ((es.length : Int) > 1048576) = false := decide_eq_false (by omega)
              have d6' : decide (1048576 < es.length) = false := decide_eq_false hL
              refine AW.gg ?_ (by simp only [go_sem, ↓reduceIte, d6, d6'] <;> rfl)
              refine AW.guardT rfl rfl ?_
              refine AW.callE (fun _ => 0) (containsLong_fn es hl) (.pv _ (.fn rfl .nil)) ?_
              refine AW.gg ?_
              cases hlg : es.any longB with
              | true =>
                rw [if_pos (.inr rfl)]
                refine AW.condT rfl ?_
                refine AW.go ?_
                exact AW.finE (.pv _ .nil) rfl
              | false =>
                rw [if_neg (by simp [hL])]
                refine AW.condF rfl ?_
                refine AW.go ?_
                exact AW.finE (.pv _ .nil) rfl
end Go.Ck

set_option linter.unusedVariables false
set_option maxRecDepth 10000
namespace Go.Ck
open Go.Proofs
/-- What Len64's string tells. -/
theorem len64_fn (v : Nat) (hv : v < 2 ^ 64) : Fn Tryz.prog 100 [] [.pv (.int .u64 v)] (fun rs H' => rs = [.pv (.int .i64 (blen v : Nat))] ∧ H' = []) := by
  refine Fn.of_body (fn := Tryz.f100) (n := 25) (res := [.tmp 2]) (by kernel_rfl) rfl rfl rfl rfl rfl (fun C => ?_)
  have s32 : ∀ v : Nat, shrI .u64 (v : Int) 32 = ((v / 2 ^ 32 : Nat) : Int) := fun v => shrI_nat .u64 v 32 (by decide)
  have s16 : ∀ v : Nat, shrI .u64 (v : Int) 16 = ((v / 2 ^ 16 : Nat) : Int) := fun v => shrI_nat .u64 v 16 (by decide)
  have s8 : ∀ v : Nat, shrI .u64 (v : Int) 8 = ((v / 2 ^ 8 : Nat) : Int) := fun v => shrI_nat .u64 v 8 (by decide)
  refine AW.go ?_
  refine AW.joinS (fun a : Nat × Nat => ⟨25, [(0, .pv (.int .u64 a.1)), (2, .pv (.int .i64 a.2))], []⟩) (fun a => a.1 < 2 ^ 32 ∧ blen v = a.2 + blen a.1 ∧ a.2 ≤ 32) [0, 2] [] ?_ ?_
  · intro K hK
    refine AW.cond rfl (fun hc => ?_) (fun hc => ?_)
    · refine AW.go ?_
      refine AW.meet hK (v / 2 ^ 32, 32) ⟨by simp only; omega, ?_, by simp⟩ (by simp only [go_sem, ↓reduceIte]) (by simp only [go_sem, ↓reduceIte, s32] <;> rfl)
      exact blen_shift 32 (by simp at hc; omega)
    · refine AW.go ?_
      refine AW.meet hK (v, 0) ⟨by simp at hc; simp only; omega, by simp, by simp⟩
  rintro ⟨u, m⟩ ⟨hu, hm, hm2⟩
  simp only at hu hm hm2
  refine AW.go ?_
  refine AW.joinS (fun a : Nat × Nat => ⟨25, [(0, .pv (.int .u64 a.1)), (2, .pv (.int .i64 a.2))], []⟩) (fun a => a.1 < 2 ^ 16 ∧ blen v = a.2 + blen a.1 ∧ a.2 ≤ 48) [0, 2] [] ?_ ?_
  · intro K hK
    refine AW.cond rfl (fun hc => ?_) (fun hc => ?_)
    · have e : IntKind.i64.wrap ((m : Int) + 16) = ((m + 16 : Nat) : Int) := by rw [wrap_i64_of (by omega) (by omega)]; omega
      refine AW.go ?_
      refine AW.meet hK (u / 2 ^ 16, m + 16) ⟨by simp only; omega, ?_, by simp only; omega⟩ (by simp only [go_sem, ↓reduceIte]) (by simp only [go_sem, ↓reduceIte, s16, e] <;> rfl)
      have := blen_shift 16 (v := u) (by simp at hc; omega)
      simp only; omega
    · refine AW.go ?_
      refine AW.meet hK (u, m) ⟨by simp at hc; simp only; omega, hm, by simp only; omega⟩
  clear hu hm hm2
  rintro ⟨u, m⟩ ⟨hu, hm, hm2⟩
  simp only at hu hm hm2
  refine AW.go ?_
  refine AW.joinS (fun a : Nat × Nat => ⟨25, [(0, .pv (.int .u64 a.1)), (2, .pv (.int .i64 a.2))], []⟩) (fun a => a.1 < 2 ^ 8 ∧ blen v = a.2 + blen a.1 ∧ a.2 ≤ 56) [0, 2] [] ?_ ?_
  · intro K hK
    refine AW.cond rfl (fun hc => ?_) (fun hc => ?_)
    · have e : IntKind.i64.wrap ((m : Int) + 8) = ((m + 8 : Nat) : Int) := by rw [wrap_i64_of (by omega) (by omega)]; omega
      refine AW.go ?_
      refine AW.meet hK (u / 2 ^ 8, m + 8) ⟨by simp only; omega, ?_, by simp only; omega⟩ (by simp only [go_sem, ↓reduceIte]) (by simp only [go_sem, ↓reduceIte, s8, e] <;> rfl)
      have := blen_shift 8 (v := u) (by simp at hc; omega)
      simp only; omega
    · refine AW.go ?_
      refine AW.meet hK (u, m) ⟨by simp at hc; simp only; omega, hm, by simp only; omega⟩
  clear hu hm hm2
  rintro ⟨u, m⟩ ⟨hu, hm, hm2⟩
  simp only at hu hm hm2
  have e8 : IntKind.u8.wrap (u : Int) = (u : Int) := wrap_u8_lt hu
  refine AW.go ?_ (by simp only [go_sem, ↓reduceIte, e8] <;> rfl)
  refine AW.indexStr (UInt8.ofNat (bl8 u)) (ho := rfl) rfl rfl ?_ ?_
  · clear e8 hm
    revert u
    decide +kernel
  · have h8 := bl8_le u
    have ec : ((UInt8.ofNat (bl8 u)).toNat : Int) = (blen u : Nat) := by
      rw [UInt8.toNat_ofNat', Nat.mod_eq_of_lt (by omega), blen_bl8 hu]
    have hb8 := blen_le.2 hu
    have e1 : IntKind.i64.wrap ((blen u : Nat) : Int) = (blen u : Nat) := wrap_i64_nat (by omega)
    have e2 : IntKind.i64.wrap ((m : Int) + (blen u : Nat)) = ((blen v : Nat) : Int) := by rw [hm]; exact wrap_i64_nat (n := m + blen u) (by omega)
    refine AW.go ?_ (by simp only [go_sem, ↓reduceIte, ec, e1, e2] <;> rfl)
    refine AW.finE (.pv _ .nil) rfl
end Go.Ck

namespace Go.Proofs
open Go.Shelf
def Tryz.lays190_ren : Go.Shelf.Ren := ⟨fun | 190 => 58 | 125 => 80 | 258 => 79 | 128 => 99 | 129 => 100 | 302 => 90 | 303 => 91 | 304 => 92 | 305 => 93 | 306 => 94 | 307 => 95 | 308 => 96 | 309 => 97 | 310 => 98 | 333 => 105 | 329 => 106 | 330 => 107 | 334 => 108 | 335 => 109 | 336 => 110 | 344 => 114 | n => n, fun | 31 => 46 | 9 => 9 | 3 => 3 | 46 => 82 | 0 => 0 | 51 => 101 | 53 => 23 | 4 => 4 | 183 => 130 | 182 => 129 | 131 => 80 | 5 => 5 | 218 => 141 | 222 => 144 | 228 => 151 | 229 => 152 | n => n, fun | n => n⟩
theorem Tryz.lays190 : Go.Proofs.Lays.n190 Tryz.prog Tryz.lays190_ren := {
  mixed := by kernel_rfl
  f125 := Tryz.func80.trans (congrArg some (by kernel_rfl))
  f128 := Tryz.func99.trans (congrArg some (by kernel_rfl))
  f129 := Tryz.func100.trans (congrArg some (by kernel_rfl))
  f190 := Tryz.func58.trans (congrArg some (by kernel_rfl))
  f258 := Tryz.func79.trans (congrArg some (by kernel_rfl))
  f302 := Tryz.func90.trans (congrArg some (by kernel_rfl))
  f303 := Tryz.func91.trans (congrArg some (by kernel_rfl))
  f304 := Tryz.func92.trans (congrArg some (by kernel_rfl))
  f305 := Tryz.func93.trans (congrArg some (by kernel_rfl))
  f306 := Tryz.func94.trans (congrArg some (by kernel_rfl))
  f307 := Tryz.func95.trans (congrArg some (by kernel_rfl))
  f308 := Tryz.func96.trans (congrArg some (by kernel_rfl))
  f309 := Tryz.func97.trans (congrArg some (by kernel_rfl))
  f310 := Tryz.func98.trans (congrArg some (by kernel_rfl))
  f329 := Tryz.func106.trans (congrArg some (by kernel_rfl))
  f330 := Tryz.func107.trans (congrArg some (by kernel_rfl))
  f333 := Tryz.func105.trans (congrArg some (by kernel_rfl))
  f334 := Tryz.func108.trans (congrArg some (by kernel_rfl))
  f335 := Tryz.func109.trans (congrArg some (by kernel_rfl))
  f336 := Tryz.func110.trans (congrArg some (by kernel_rfl))
  f344 := Tryz.func114.trans (congrArg some (by kernel_rfl))
  t0 := Tryz.underlying0
  a0 := Tryz.isAgg0
  z0 := Tryz.sizeOf0
  v0 := Tryz.zeroValue0
  t3 := Tryz.underlying3
  a3 := Tryz.isAgg3
  z3 := Tryz.sizeOf3
  v3 := Tryz.zeroValue3
  t4 := Tryz.underlying4
  a4 := Tryz.isAgg4
  z4 := Tryz.sizeOf4
  v4 := Tryz.zeroValue4
  t5 := Tryz.underlying5
  a5 := Tryz.isAgg5
  z5 := Tryz.sizeOf5
  v5 := Tryz.zeroValue5
  t9 := Tryz.underlying9
  a9 := Tryz.isAgg9
  z9 := Tryz.sizeOf9
  v9 := Tryz.zeroValue9
  t31 := Tryz.underlying46
  a31 := Tryz.isAgg46
  z31 := Tryz.sizeOf46
  v31 := Tryz.zeroValue46
  t46 := Tryz.underlying82
  a46 := Tryz.isAgg82
  z46 := Tryz.sizeOf82
  v46 := Tryz.zeroValue82
  t51 := Tryz.underlying101
  a51 := Tryz.isAgg101
  z51 := Tryz.sizeOf101
  v51 := Tryz.zeroValue101
  t53 := Tryz.underlying23
  a53 := Tryz.isAgg23
  z53 := Tryz.sizeOf23
  v53 := Tryz.zeroValue23
  t131 := Tryz.underlying80
  a131 := Tryz.isAgg80
  z131 := Tryz.sizeOf80
  v131 := Tryz.zeroValue80
  t182 := Tryz.underlying129
  a182 := Tryz.isAgg129
  z182 := Tryz.sizeOf129
  v182 := Tryz.zeroValue129
  t183 := Tryz.underlying130
  a183 := Tryz.isAgg130
  z183 := Tryz.sizeOf130
  v183 := Tryz.zeroValue130
  t218 := Tryz.underlying141
  a218 := Tryz.isAgg141
  z218 := Tryz.sizeOf141
  v218 := Tryz.zeroValue141
  t222 := Tryz.underlying144
  a222 := Tryz.isAgg144
  z222 := Tryz.sizeOf144
  v222 := Tryz.zeroValue144
  t228 := Tryz.underlying151
  a228 := Tryz.isAgg151
  z228 := Tryz.sizeOf151
  v228 := Tryz.zeroValue151
  t229 := Tryz.underlying152
  a229 := Tryz.isAgg152
  z229 := Tryz.sizeOf152
  v229 := Tryz.zeroValue152 }
end Go.Proofs
namespace Go.Ck
open Go.Proofs
theorem sort_ok : SortOK Tryz.prog 58 := fun blk off cap ss w h1 h2 h3 => Any.slices_Sort_string Tryz.lays190 blk off cap ss w h1 h2 h3
theorem sort_is : ∃ fn, (Tryz.prog).funcs[58]? = some fn ∧ (fn.name == "runtime.NumGoroutine") = false ∧ fn.body.isNone = false := ⟨Tryz.f58, by kernel_rfl, rfl, rfl⟩
end Go.Ck

set_option linter.unusedVariables false
set_option maxRecDepth 100000
set_option maxHeartbeats 400000
namespace Go.Ck
open Go.Proofs
theorem len_fn (v : Nat) (hv : v < 2 ^ 64) : Fn Tryz.prog 80 [] [.pv (.int .u64 v)] (fun rs H' => rs = [.pv (.int .i64 (blen v : Nat))] ∧ H' = []) := by
  refine Fn.of_body (fn := Tryz.f80) (n := 8) (res := [.tmp 2]) (by kernel_rfl) rfl rfl rfl rfl rfl (fun C => ?_)
  refine AW.go ?_
  refine AW.condF rfl ?_
  refine AW.go ?_
  refine AW.callE (fun _ => 0) (len64_fn v hv) (.pv _ .nil) ?_
  refine AW.go ?_
  refine AW.finE (.pv _ .nil) rfl
theorem isort0_fn : Fn Tryz.prog 90 [] [.pv (.sl 1 []), .pv (.int .i64 0), .pv (.int .i64 0)] (fun rs H' => rs = [] ∧ H' = []) := by
  refine Fn.of_body (fn := Tryz.f90) (n := 49) (res := []) (by kernel_rfl) rfl rfl rfl rfl rfl (fun C => ?_)
  have e1 : IntKind.i64.wrap (0 + 1) = 1 := by decide
  refine AW.go ?_
  refine AW.loopS (fun _ : Unit => ⟨49, [(6, .pv (.int .i64 1)), (2, .pv (.int .i64 0))], []⟩) (fun _ => True) (fun _ => 0) [6, 2] [] () trivial ?_
  rintro _ - K hK
  refine AW.go ?_
  refine AW.condF rfl ?_
  refine AW.go ?_
  refine AW.finE .nil rfl
theorem pdq0_fn (k : Int) : Fn Tryz.prog 79 [] [.pv (.sl 1 []), .pv (.int .i64 0), .pv (.int .i64 0), .pv (.int .i64 k)] (fun rs H' => rs = [] ∧ H' = []) := by
  refine Fn.of_body (fn := Tryz.f79) (n := 134) (res := []) (by kernel_rfl) rfl rfl rfl rfl rfl (fun C => ?_)
  refine AW.go ?_
  refine AW.loopS (fun _ : Unit => ⟨134, [(0, .pv (.sl 1 [])), (1, .pv (.int .i64 0)), (2, .pv (.int .i64 0))], []⟩) (fun _ => True) (fun _ => 0) [0, 1, 2] [] () trivial ?_
  rintro _ - K hK
  refine AW.go ?_
  refine AW.condT rfl ?_
  refine AW.go ?_
  refine AW.callE (fun _ => 0) isort0_fn (.pv _ (.pv _ (.pv _ .nil))) ?_
  refine AW.go ?_
  refine AW.finE .nil rfl
theorem sort0_fn : Fn Tryz.prog 58 [] [.pv (.sl 1 [])] (fun rs H' => rs = [] ∧ H' = []) := by
  refine Fn.of_body (fn := Tryz.f58) (n := 11) (res := []) (by kernel_rfl) rfl rfl rfl rfl rfl (fun C => ?_)
  have e1 : IntKind.u64.wrap 0 = 0 := by decide
  refine AW.go ?_ (by simp only [go_sem, ↓reduceIte, e1] <;> rfl)
  refine AW.callE (fun _ => 0) (len_fn 0 (by decide)) (.pv _ .nil) ?_
  refine AW.go ?_
  refine AW.callE (fun _ => 0) (pdq0_fn _) (.pv _ (.pv _ (.pv _ (.pv _ .nil)))) ?_
  refine AW.go ?_
  refine AW.finE .nil rfl

theorem directory_fn (es : List Ent) (hl : es.length < 2 ^ 30) : Fn Tryz.prog 25 [] [.pv (.sl 2 (entsP es))] (fun rs H' => rs = [.own 9 (strs (dirS es)), .mp 12] ∧ H' = [(12, .mp (mpS (posK (dirS es) (dirS es).length) (nmS es)))]) := by
  refine Fn.of_body (fn := Tryz.f25) (n := 52) (res := [.tmp 2, .tmp 3]) (by kernel_rfl) rfl rfl rfl rfl rfl (fun C => ?_)
  have hroom : room = 140737488355328 := rfl
  refine AW.go ?_
  refine AW.unread ?_
  refine AW.go ?_
  refine AW.loopS (fun i : Nat => ⟨52, [(15, .pv (.int .i64 i)), (13, .pv (.sl 2 (entsP es))), (14, .pv (.int .i64 es.length)), (4, .mp 12), (5, .own 9 (strs (nmS (es.take i))))], [(12, .mp (mpS (fun _ => 0) (nmS (es.take i))))]⟩) (fun i => i ≤ es.length) (fun i => es.length - i) [15, 13, 14, 4, 5] [12] 0 (Nat.zero_le _) ?_
  rintro i hi K hK
  have hnl := nmS_len (es.take i)
  rw [List.length_take] at hnl
  refine AW.go ?_
  refine AW.cond rfl (fun hc => ?_) (fun hc => ?_)
  · have hlt : i < es.length := by have := of_decide_eq_true hc; omega
    obtain ⟨e, he⟩ : ∃ e, es[i]? = some e := ⟨es[i], List.getElem?_eq_getElem hlt⟩
    have hg := entsP_get he
    have hsu := nmS_succ he
    have e1 : IntKind.i64.wrap ((i : Int) + 1) = ((i + 1 : Nat) : Int) := wrap_i64_succ (by omega)
    have hml := mlook_mpS (fun _ => 0) e.1 (nmS (es.take i))
    generalize nmS (es.take i) = ns at *
    refine AW.go ?_ (by simp only [go_sem, ↓reduceIte, hg] <;> rfl)
    refine AW.lookup2 rfl rfl rfl hml tk_47 (by simp only [go_sem] <;> rfl) ze_3 ?_
    by_cases h : e.1 ∈ ns
    · simp only [if_pos h]
      rw [nmStep, if_pos h] at hsu
      refine AW.go ?_ (by simp only [go_sem, ↓reduceIte, mval] <;> rfl)
      refine AW.condF rfl ?_
      refine AW.go ?_ (by simp only [go_sem, ↓reduceIte, e1] <;> rfl)
      exact AW.again hK (i + 1) (by omega) (by omega) (hs := by simp only [go_sem, ↓reduceIte, hsu] <;> rfl)
    · simp only [if_neg h]
      rw [nmStep, if_neg h] at hsu
      have hms := mset_add (fun _ => 0) e.1 ns h
      have r1 : ((ns.length + 1) * 16 ≤ room) = True := eq_true (by omega)
      have r2 : (ns.length + 1 ≤ room) = True := eq_true (by omega)
      refine AW.go ?_ (by simp only [go_sem, ↓reduceIte, mval] <;> rfl)
      refine AW.condT rfl ?_
      refine AW.go ?_
      refine AW.mapSet rfl rfl rfl rfl hms tk_47 (by simp only [go_sem] <;> rfl) ?_
      refine AW.go ?_ (by simp only [go_sem, ↓reduceIte, e1, r1, r2, strs_snoc, List.length_cons, List.length_nil, Nat.zero_add] <;> rfl)
      exact AW.again hK (i + 1) (by omega) (by omega) (hs := by simp only [go_sem, ↓reduceIte, hsu] <;> rfl)
  have hge : i = es.length := by have := of_decide_eq_false hc; omega
  subst hge
  have hnn := nmS_nodup es
  have hsp := sortS_perm (nmS es)
  have hsn : (sortS (nmS es)).Nodup := hsp.nodup_iff.2 hnn
  have hnl2 := nmS_len es
  have hsl := sortS_len (nmS es)
  rw [List.take_length]
  unfold dirS
  generalize nmS es = ns at *
  refine AW.go ?_
  refine via (T := ?Tsort) (fun hT => ?_) ?_; rotate_left
  · by_cases hne : ns = []
    · have hs0 : sortS ns = ns := by rw [hne]; simp [sortS]
      have f0 : Fn Tryz.prog 58 [] [.pv (.sl 1 (strs ns))] (fun rs H' => rs = [] ∧ H' = []) := by rw [hne]; exact sort0_fn
      refine AW.callE (fun _ => 0) f0 (.lend rfl co_9 .nil) ?_
      refine AW.keepB [4, 5] [12] (s' := ⟨52, [(4, .mp 12), (5, .own 9 (strs (sortS ns)))], [(12, .mp (mpS (fun _ => 0) ns))]⟩) (by simp only [go_sem, ↓reduceIte]) (by simp only [go_sem, ↓reduceIte, hs0] <;> rfl) ?_
      exact hT ()
    · refine AW.sortOwn sort_ok sort_is rfl rfl hne (by omega) co_9 ?_
      refine AW.keepB [4, 5] [12] (by simp only [go_sem, ↓reduceIte]) (by simp only [go_sem, ↓reduceIte] <;> rfl) ?_
      exact hT ()
  generalize sortS ns = ls at *
  refine AW.go ?_
  refine AW.loopS (fun k : Nat => ⟨52, [(41, .pv (.int .i64 k)), (39, .al (.slot 5)), (40, .pv (.int .i64 ls.length)), (4, .mp 12), (5, .own 9 (strs ls))], [(12, .mp (mpS (posK ls k) ns))]⟩) (fun k => k ≤ ls.length) (fun k => ls.length - k) [41, 39, 40, 4, 5] [12] 0 (Nat.zero_le _) ?_ (hs := by simp only [go_sem, ↓reduceIte, posK_0] <;> rfl)
  rintro k hk K hK
  refine AW.go ?_
  refine AW.cond rfl (fun hc => ?_) (fun hc => ?_)
  · have hlt : k < ls.length := by have := of_decide_eq_true hc; omega
    obtain ⟨t, ht⟩ : ∃ t, ls[k]? = some t := ⟨ls[k], List.getElem?_eq_getElem hlt⟩
    have hg := strs_get ht
    have htn : t ∈ ns := hsp.mem_iff.1 (List.mem_of_getElem? ht)
    have hms := mset_old (posK ls k) t k ns htn hnn
    rw [posK_succ hsn ht] at hms
    have e1 : IntKind.i64.wrap ((k : Int) + 1) = ((k + 1 : Nat) : Int) := wrap_i64_succ (by omega)
    have l1 : (k < ls.length) = True := eq_true hlt
    refine AW.go ?_ (by simp only [go_sem, ↓reduceIte, hg, l1] <;> rfl)
    refine AW.mapSet rfl rfl rfl rfl hms tk_47 (by simp only [go_sem] <;> rfl) ?_
    refine AW.go ?_ (by simp only [go_sem, ↓reduceIte, e1] <;> rfl)
    exact AW.again hK (k + 1) (by omega) (by omega)
  have hge : k = ls.length := by have := of_decide_eq_false hc; omega
  subst hge
  refine AW.go ?_
  refine AW.finE (.move rfl (.mp rfl .nil)) rfl
end Go.Ck

set_option linter.unusedVariables false
namespace Go.Ck
open Go.RowKit
section
variable {P : Program} {R : Option Nat} {Φ : Exit → Cx → St → Prop} {k : List It} {C : Cx} {s : St}
/-- The two operations that lay a constant's bytes. -/
theorem AW.constB {all : Array Oper} {o1 o2 : Oper} {r : List Oper} {d1 d2 t e n eb : Nat} {ea : Bool} {ps : Array (Nat × Operand)} {z : PV} {xs : List PV} (hT : tk P t = .sl e 1 eb ea) (he : tk P e = .int .u8) (hz : zeroElem P e = some z)
    (hf : fillElems P 1 ps.toList (List.replicate n z) s = some (xs, s)) (h0 : 0 < n) (hn : n ≤ 1000) (h1 : xs.all PV.one = true) (hn1 : d1 < s.n)
    (hk : AW P R Φ .normal (.ops all r :: k) C (put d2 (.lit xs) (put d1 .dead s)))
    (hg1 : o1.guard = none := by rfl) (hd1' : o1.dst = some d1 := by rfl) (ho1 : o1.op = .buildSlice t n ps := by rfl) (hg2 : o2.guard = none := by rfl) (hd2 : o2.dst = some d2 := by rfl) (ho2 : o2.op = .convert t t (.tmp d1) := by rfl) : AW P R Φ .normal (.ops all (o1 :: o2 :: r) :: k) C s := fun B a w ha => by
  simp only [den]
  refine wpListIn_want (by simp [Region.wanted, hg1]) (fun c hc => by rw [ho1] at hc; cases hc) ?_
  obtain ⟨hdf, E, h⟩ := ha
  obtain ⟨hu, hce, _⟩ := tk_sl hT
  obtain ⟨ie, zv, hie, hzv, hzs, hro, hzl⟩ := zeroElem_sound (P := P) (w := w) (A := fun b => E.om b ∨ B.F b) hz
  have hsz : ie.size = 1 := by rw [← hce]; simp [Program.cellsOf, hie]
  have hr0 := made_ros hro n
  rw [hzl] at hr0
  obtain ⟨E1, cells', f1, f2, f3, f4, f5⟩ := fillElems_sound ps.toList h hf hr0 (fun x hx => by rw [List.eq_of_mem_replicate hx, hzl, hsz])
  have hl : xs.length = n := by simpa using f5
  have hone : flat xs = xs := flat_one h1
  rw [hone] at f3
  have hrun1 : (execOp a.eval o1).run P w = .ok (.value (.slice (some ⟨w.heap.size, 0, none⟩) n n)) (w.alloc (.cells cells' e)) := by
    have := run_buildSlice (P := P) w t e n (ps.map fun (i, x) => (i, a.eval x)) cells' ie zv hu hie hzv (by rw [hsz]; omega) (by rw [hsz]; omega) (by
      rw [Array.toList_map, hsz]
      rw [hsz] at f1
      exact f1)
    simp [execOp, ho1, this]
  rw [hrun1, Oper.uponIn_value, hd1']
  refine wpListIn_want (by simp [Region.wanted, hg2]) (fun c hc => by rw [ho2] at hc; cases hc) ?_
  have hsize : d1 < a.tmps.size := by rw [← h.size]; exact hn1
  have hev : (a.put (some d1) (.slice (some ⟨w.heap.size, 0, none⟩) n n)).eval (.tmp d1) = .slice (some ⟨w.heap.size, 0, none⟩) n n := by
    show (a.tmps.setIfInBounds d1 _).getD d1 undef = _
    simp [Array.getD_eq_getD_getElem?, hsize]
  have hrun2 : (execOp (a.put (some d1) (.slice (some ⟨w.heap.size, 0, none⟩) n n)).eval o2).run P (w.alloc (.cells cells' e)) = .ok (.value (.slice (some ⟨w.heap.size, 0, none⟩) n n)) (w.alloc (.cells cells' e (cells'.size, cells'.size + 1))) := by
    have := Lib.run_convert_bytes_const (P := P) w t e cells' n n hu (tk_int he)
    simp [execOp, ho2, hev, this]
  rw [hrun2, Oper.uponIn_value, hd2]
  have hw2 : (w.alloc (.cells cells' e (cells'.size, cells'.size + 1))).heap = w.heap.push (.cells cells' e (cells'.size, cells'.size + 1)) := rfl
  have hgr : Grow (fun _ => False) w (w.alloc (.cells cells' e (cells'.size, cells'.size + 1))) := ⟨rfl, rfl, rfl, by rw [hw2]; simp, fun b hb _ => by rw [hw2, Array.getElem?_push, if_neg (by omega)]⟩
  have hE1 := f2.world hgr (fun b hb => hb.elim) (fun _ => False) (fun b hb => hb.elim)
  obtain ⟨hc, hfree⟩ := hE1.clear d1
  have hE2 := hc.setDead (.slice (some ⟨w.heap.size, 0, none⟩) n n) (by rw [clear_n]; exact hn1) hfree
  have hput : put d1 .dead s = setSlot d1 .dead (clear d1 s) := by
    unfold put
    rw [if_pos hn1]
    have : (if SV.dead.on (.slot d1) = true then SV.dead else SV.dead) = SV.dead := by split <;> rfl
    rw [this]
  rw [hput] at hk
  have hnA : ¬ ((E1.addOm fun _ => False).om w.heap.size ∨ B.F w.heap.size) := by
    rintro ((h2 | h2) | h2)
    · have := (f2.om_lt _ h2).1; omega
    · exact h2
    · have h3 := f2.flt _ h2
      have h4 := f2.gr.size
      omega
  have hros : ROs (fun b => (E1.addOm fun _ => False).om b ∨ B.F b) (w.alloc (.cells cells' e (cells'.size, cells'.size + 1))) xs cells'.toList := f3.mono (fun b hb hn => ⟨by
    rintro ((h2 | h2) | h2)
    · exact hn (.inl h2)
    · exact h2
    · exact hn (.inr h2), hgr.block b hb (fun h => h)⟩)
  have hrs : RS P (fun b => (E1.addOm fun _ => False).om b ∨ B.F b) (E1.addOm fun _ => False) (w.alloc (.cells cells' e (cells'.size, cells'.size + 1))) (.lit xs) (.slice (some ⟨w.heap.size, 0, none⟩) n n) := by
    have := RS.lit (P := P) (A := fun b => (E1.addOm fun _ => False).om b ∨ B.F b) (E := E1.addOm fun _ => False) (w := w.alloc (.cells cells' e (cells'.size, cells'.size + 1))) xs w.heap.size cells' e (cells'.size, cells'.size + 1) hnA (by rw [hw2]; simp) hros
    rw [hl] at this; exact this
  have hE3 := hE2.putGood d2 (v := .lit xs) ⟨rfl, by simp [SV.on], fun o ho => by simp [SV.pts] at ho⟩ hrs
  exact hk B _ _ ⟨by rw [put_defers, put_defers]; exact hdf, _, hE3⟩

/-- append onto it: a new row. -/
theorem AW.appendLit {all : Array Oper} {o : Oper} {r : List Oper} {d t tx e eb : Nat} {ea : Bool} {c : Call} {x y : Operand} {xs ys : List PV} {v : SV} (hx : ev s x = some (.lit xs)) (hy : ev s y = some v) (hys : elemsOf P s 1 v = some ys) (hx1 : xs.all PV.one = true) (hT : tk P t = .sl e 1 eb ea) (hsrc : (tk P tx).isSrc = true) (hz : zok P e = true) (hpos : 0 < ys.length)
    (hr1 : (xs.length + ys.length) * eb ≤ room) (hr2 : xs.length + ys.length ≤ room)
    (hk : AW P R Φ .normal (.ops all r :: k) C (put d (.own e (xs ++ ys)) s)) (hg : o.guard = none := by rfl) (hd : o.dst = some d := by rfl) (ho : o.op = .call c := by rfl) (hc : c.callee = .builtin .append := by rfl) (hca : c.args = #[x, y] := by rfl) (hct : c.argTypes = #[t, tx] := by rfl) : AW P R Φ .normal (.ops all (o :: r) :: k) C s := fun B a w ha => by
  simp only [den]
  refine wpListIn_want (by simp [Region.wanted, hg]) (fun c hc => by rw [ho] at hc; cases hc) ?_
  obtain ⟨hdf, E, h⟩ := ha
  obtain ⟨hu, hce, hbe⟩ := tk_sl hT
  obtain ⟨i, z, hi, hiz, hzs⟩ := zok_parts hz
  have hsz : i.size = 1 := by rw [← hce]; simp [Program.cellsOf, hi]
  have hby : i.bytes = eb := by rw [← hbe]; simp [Program.bytesOf, hi]
  have e1 := ev_rs h hx
  generalize hxe : a.eval x = v1 at e1
  cases e1 with | lit _ g cur e' fr hA hgc hro => ?_
  obtain ⟨news, h1, h2, h3⟩ := elems_src h hsrc (by decide) hys (ev_rs h hy)
  have hcs : cur.size = xs.length := by have := hro.1; simpa using this
  have hold : (Builtin.firstCells i.size xs.length (.slice (some ⟨g, 0, none⟩) xs.length xs.length)).run P w.drew = .ok cur.toList.toArray w.drew := by
    refine run_firstCells_some w.drew i.size xs.length ⟨g, 0, none⟩ xs.length xs.length cur.toList (by simp [hsz, hcs]) (fun j u hu' => ?_)
    have hg' : w.drew.heap[g]? = some (.cells cur e' fr) := hgc
    have : cur[j]? = some u := by simpa using hu'
    by_cases hj : j = 0 <;> simp [World.cell?, Addr.add, hg', hj, Addr.spot] <;> simpa [hj] using this
  have hns : (xs.length + ys.length) * i.bytes ≤ 140737488355328 := by rw [hby]; unfold room at hr1; exact hr1
  have hrun := run_append_grow_src (P := P) w t tx o.type e i z hu hi hiz (some ⟨g, 0, none⟩) xs.length xs.length cur.toList hold (a.eval y) ys.length news (by rw [hsz]; exact h1) (by omega) (by unfold room at hr2; omega) (growslice_fits (by omega) hns)
  have hrunO : (execOp a.eval o).run P w = .ok (.value (.slice (some ⟨w.heap.size, 0, none⟩) (xs.length + ys.length) (grownCap w (xs.length + ys.length) xs.length e))) (w.drew.alloc (.cells ((cur.toList ++ news).toArray ++ Builtin.zeroCells z.cells (grownCap w (xs.length + ys.length) xs.length e - (xs.length + ys.length))) e)) := by
    have hal : c.args.map a.eval = #[a.eval x, a.eval y] := by rw [hca]; simp
    simp [execOp, ho, resolve, hc, invoke, builtin, hal, hxe, hct, hrun]
  rw [hrunO, Oper.uponIn_value, hd]
  have hflat := flat_one hx1
  have h63 : xs.length + ys.length ≤ maxLen := by unfold room at hr2; simp only [maxLen]; omega
  have hnl : news.length = ys.length := by have := h1.newsLen; simpa using this
  have hge := grownCap_ge w (xs.length + ys.length) xs.length e
  have hcm := grownCap_le_maxLen w (xs.length + ys.length) xs.length e h63
  have hgr : Grow (fun _ => False) w (w.drew.alloc (.cells ((cur.toList ++ news).toArray ++ Builtin.zeroCells z.cells (grownCap w (xs.length + ys.length) xs.length e - (xs.length + ys.length))) e)) := ⟨rfl, rfl, rfl, by simp, fun b hb _ => heap_alloc_old w.drew _ hb⟩
  have hA : ∀ b, b < w.heap.size → ¬ (E.om b ∨ B.F b) → ¬ ((E.om b ∨ w.heap.size ≤ b ∧ b < (w.drew.alloc (.cells ((cur.toList ++ news).toArray ++ Builtin.zeroCells z.cells (grownCap w (xs.length + ys.length) xs.length e - (xs.length + ys.length))) e)).heap.size) ∨ B.F b) ∧ (w.drew.alloc (.cells ((cur.toList ++ news).toArray ++ Builtin.zeroCells z.cells (grownCap w (xs.length + ys.length) xs.length e - (xs.length + ys.length))) e)).heap[b]? = w.heap[b]? := by
    intro b hb' hn'
    refine ⟨?_, hgr.block b hb' (fun h => h)⟩
    rintro ((h3 | h3) | h3)
    · exact hn' (.inl h3)
    · omega
    · exact hn' (.inr h3)
  obtain ⟨E', hE⟩ := h.newOwn hgr (fun b hb' => hb'.elim) (e := e) (xs := xs ++ ys) (x := .slice (some ⟨w.heap.size, 0, none⟩) (xs.length + ys.length) (grownCap w (xs.length + ys.length) xs.length e)) d (by
    refine ⟨cur.toList ++ news, ?_, ?_, ?_, by rw [List.length_append]; exact h63⟩
    · rw [List.length_append, hce]
      refine ⟨by simp [hcs, hnl], .inr ⟨w.heap.size, _, _, rfl, Nat.zero_le _, heap_alloc_new w.drew _, hge, hcm, ?_, ?_⟩⟩
      · rw [Array.size_append, List.size_toArray, size_zeroCells, hzs, hsz]
        simp [hcs, hnl]
        omega
      · simp only [Array.toList_append]
        have : (xs.length + ys.length) * 1 = (cur.toList ++ news).length := by simp [hcs, hnl]
        rw [this]
        exact List.take_left
    · rw [flat_append, hflat]; exact (hro.mono hA).append (h2.mono hA)
    · intro c hc
      rw [hce]
      rcases List.mem_append.1 hc with hc | hc
      · have := List.all_eq_true.1 hx1 c hc
        cases c <;> first | rfl | (simp [PV.one] at this)
      · exact h3 c hc) (fun b hb' => by
    cases hb'
    right
    exact ⟨Nat.le_refl _, by simp⟩)
  refine hk B _ _ ⟨by rw [put_defers]; exact hdf, E', ?_⟩
  exact hE
end
/-- A struct's parts, all pure. -/
def partPK : Option (Nat × Nat × Bool) → List SV → Option SV → Option (List SV)
  | some (fo, fz, _), cs, some (.pv p) => if p.cells.length = fz ∧ fo + fz ≤ cs.length then some (setCells cs (p.cells.map .pv) fo) else none
  | _, _, _ => none
def partsP (fs : List (Nat × Nat × Bool)) (s : St) : List (Nat × Operand) → Option (List SV) → Option (List SV)
  | [], cs => cs
  | (i, x) :: r, some cs => partsP fs s r (partPK fs[i]? cs (ev s x))
  | _ :: _, none => none
theorem partsP_none (fs : List (Nat × Nat × Bool)) (s : St) (l : List (Nat × Operand)) : partsP fs s l none = none := by cases l <;> rfl
theorem partsP_nil (fs : List (Nat × Nat × Bool)) (s : St) (cs : List SV) : partsP fs s [] (some cs) = some cs := rfl
theorem partsP_cons (fs : List (Nat × Nat × Bool)) (s : St) (i : Nat) (x : Operand) (r : List (Nat × Operand)) (cs : List SV) : partsP fs s ((i, x) :: r) (some cs) = partsP fs s r (partPK fs[i]? cs (ev s x)) := rfl
theorem partPK_pv (fo fz : Nat) (b : Bool) (cs : List SV) (p : PV) : partPK (some (fo, fz, b)) cs (some (.pv p)) = if p.cells.length = fz ∧ fo + fz ≤ cs.length then some (setCells cs (p.cells.map .pv) fo) else none := rfl
attribute [go_sem] partsP_nil partsP_cons partPK_pv
theorem partsP_sound {P : Program} {fs : List (Nat × Nat × Bool)} {s t : St} (h : Le s t) : ∀ {l : List (Nat × Operand)} {z cs : List SV}, partsP fs s l (some z) = some cs → fillParts P fs l z t = some (cs, t)
  | [], z, cs, hf => by cases hf; rfl
  | (i, x) :: r, z, cs, hf => by
    simp only [partsP] at hf
    cases hx : ev s x with
    | none => rw [hx] at hf; cases hfi : fs[i]? <;> simp [hfi, partPK, partsP_none] at hf
    | some v =>
      rw [hx] at hf
      cases hfi : fs[i]? with
      | none => rw [hfi] at hf; simp [partPK, partsP_none] at hf
      | some f =>
        obtain ⟨fo, fz, b⟩ := f
        rw [hfi] at hf
        cases v with
        | pv p =>
          simp only [partPK] at hf
          split at hf
          · rename_i hc
            simp only [fillParts, hfi, h.ev hx, partCells, freeze]
            rw [if_pos (by simpa using hc)]
            exact partsP_sound h hf
          · rw [partsP_none] at hf; cases hf
        | _ => simp [partPK, partsP_none] at hf
section
variable {P : Program} {R : Option Nat} {Φ : Exit → Cx → St → Prop} {k : List It} {C : Cx} {s : St} {all : Array Oper}
theorem Does.build {o : Oper} {d ty : Nat} {fs : List (Nat × Nat × Bool)} {ps : Array (Nat × Operand)} {z cs : List SV} {p : PV} (hg : o.guard = none) (hd : o.dst = some d) (ho : o.op = .build ty ps) (hT : tk P ty = .st fs) (hz : zcs P ty = some z) (h1 : fs.all (fun f => f.2.1 != 0) = true) (hf : partsP fs s ps.toList (some z) = some cs) (hm : mkAgg cs = .pv p) : Does P o d s (.pv p) := fun R Φ k C all r t hle hl hn h => by
  refine AW.step (s' := put d (.pv p) t) hg ?_ ?_
  · unfold astep
    simp only [hd, ho, reads, Bool.false_eq_true, if_false, orElse, aeff, hT, hz]
    rw [if_pos h1, partsP_sound hle hf]
    simp only [hm]
  · rw [put_fresh hl hn rfl]; exact h
theorem CK.build {id i d ty : Nat} {fs : List (Nat × Nat × Bool)} {usl : List (List Nat)} {T : List (Nat × SV)} {o : Oper} {ps : Array (Nat × Operand)} {z cs : List SV} {p : PV} (us : List Nat) (h : CK P R Φ k C id all s (i + 1) (usl ++ [us]) (T ++ [(d, .pv p)]))
    (ho : all[i]? = some o := by rfl) (hg : o.guard = none := by rfl) (hd : o.dst = some d := by rfl) (hop : o.op = .build ty ps := by rfl) (hT : tk P ty = .st fs := by simp only [go_sem] <;> rfl) (hz : zcs P ty = some z := by simp only [go_sem] <;> rfl) (hf : partsP fs (subSt T us s) ps.toList (some z) = some cs := by simp only [go_sem, ↓reduceIte] <;> rfl) (hm : mkAgg cs = .pv p := by simp only [go_sem, ↓reduceIte] <;> rfl) (h1 : fs.all (fun f => f.2.1 != 0) = true := by rfl) : CK P R Φ k C id all s i usl T := fun hi hR =>
  h (by simp [hi]) (hR.add (by rw [hi]; exact ho) hg hd (.build hg hd hop hT hz h1 hf hm))
end
end Go.Ck
