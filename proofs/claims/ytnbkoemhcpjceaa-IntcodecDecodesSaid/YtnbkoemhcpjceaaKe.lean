/- What is proved here: parts of the proofs of this seat's statements (a verified evaluator for calls over pure values, its laws, and contracts of functions). No condition. -/
import Derived.Test.YtnbkoemhcpjceaaKd
import Derived.Test.YtnbkoemhcpjceaaKc
set_option linter.all false
set_option linter.unusedVariables false
set_option maxRecDepth 10000
set_option maxHeartbeats 1000000
namespace Go.Ck
open Go.Proofs

theorem refWayIn_fn (xs : List Int) (w : Int) (hr64 : ∀ x ∈ xs, i64r x) : Fn Try.prog 12 [] [.pv (.sl 1 (ints xs)), .pv (.int .i64 w)]
    (fun rs H' => rs = [.own 5 (bytes (wayI xs w).1), .pv (.int .i64 (wayI xs w).2)] ∧ H' = []) := by
  refine Fn.of_body (fn := Try.f12) (n := 86) (res := [.tmp 4, .tmp 5]) (by kernel_rfl) rfl rfl rfl rfl rfl (fun C => ?_)
  have hr : room = 140737488355328 := rfl
  unfold wayI
  by_cases hw : w < 0 ∨ 5 ≤ w
  · rw [if_pos hw]
    by_cases h0 : w < 0
    · have d0 : decide (w < 0) = true := decide_eq_true h0
      refine AW.gg ?_ (by simp only [go_sem, ↓reduceIte, d0] <;> rfl)
      refine AW.condT rfl ?_
      refine AW.go ?_
      refine AW.finE (.move rfl (.pv _ .nil)) rfl
    · have d0 : decide (w < 0) = false := decide_eq_false h0
      have d5 : decide (w > 4) = true := decide_eq_true (by omega)
      have d5' : decide (4 < w) = true := decide_eq_true (by omega)
      refine AW.gg ?_ (by simp only [go_sem, ↓reduceIte, d0, d5, d5'] <;> rfl)
      refine AW.condT rfl ?_
      refine AW.go ?_
      refine AW.finE (.move rfl (.pv _ .nil)) rfl
  rw [if_neg hw]
  obtain ⟨t, rfl⟩ : ∃ t : Nat, w = t := ⟨w.toNat, by omega⟩
  have ht : t < 5 := by omega
  rw [Int.toNat_natCast]
  have d5 : decide ((t : Int) > 4) = false := decide_eq_false (by omega)
  have d5' : decide ((4 : Int) < (t : Int)) = false := decide_eq_false (by omega)
  have d5'' : decide (4 < t) = false := decide_eq_false (by omega)
  refine AW.gg ?_ (by simp only [go_sem, ↓reduceIte, d5, d5', d5''] <;> rfl)
  refine AW.condF rfl ?_
  refine AW.go ?_
  refine AW.cond rfl (fun hc => ?_) (fun hc => ?_)
  · have hl : 65536 < xs.length := by simp at hc; omega
    rw [if_pos hl]
    refine AW.go ?_
    refine AW.finE (.move rfl (.pv _ .nil)) rfl
  have hl : ¬ 65536 < xs.length := by simp at hc; omega
  rw [if_neg hl]
  refine AW.go ?_
  refine AW.cond rfl (fun hc => ?_) (fun hc => ?_)
  · have h0 : xs = [] := by
      have : xs.length = 0 := by simpa using hc
      exact List.length_eq_zero_iff.1 this
    rw [if_pos h0]
    refine AW.go ?_
    refine AW.finE (.move rfl (.pv _ .nil)) rfl
  have h0 : ¬ xs = [] := by rintro rfl; simp at hc
  rw [if_neg h0]
  have hpos : 0 < xs.length := by cases xs with | nil => exact absurd rfl h0 | cons a r => simp
  unfold wayT
  refine AW.go ?_
  refine AW.cond rfl (fun hc => ?_) (fun hc => ?_)
  · have ht0 : t = 0 := by simpa using hc
    rw [if_pos ht0]
    refine AW.go ?_
    refine AW.loopS (fun i : Nat => ⟨86, [(7, .pv (.int .i64 i)), (6, .own 5 (bytes (raw8 (xs.take i)))), (0, .pv (.sl 1 (ints xs)))], []⟩) (fun i => i ≤ xs.length) (fun i => xs.length - i) [7, 6, 0] [] 0 (Nat.zero_le _) ?_
    rintro i hi K hK
    refine AW.go ?_
    refine AW.cond rfl (fun hc2 => ?_) (fun hc2 => ?_)
    · have hlt : i < xs.length := by simpa using hc2
      have hget := ints_get hlt
      have hti : xs.take (i + 1) = xs.take i ++ [xs[i]] := by simp
      have hll := raw8_len (xs.take i)
      have hls := raw8_snoc (xs.take i) xs[i]
      rw [List.length_take] at hll
      rw [← hti] at hls
      generalize xs[i] = x at *
      have eu := u64of_wrap x
      have hu := u64of_lt x
      generalize u64of x = u at *
      have hb8 := beB_len u 8
      have ei : IntKind.i64.wrap ((i : Int) + 1) = ((i + 1 : Nat) : Int) := wrap_i64_succ (by omega)
      have h1 : (raw8 (xs.take i)).length + (beB u 8).length ≤ room := by omega
      refine AW.go ?_ (by simp only [go_sem, ↓reduceIte, hget, eu] <;> rfl)
      refine AW.callE (fun _ => 0) (refFix_fn u 8 hu (by omega)) (.pv _ (.pv _ .nil)) ?_
      refine AW.go ?_ (by simp only [go_sem, ↓reduceIte, h1, ← hls, ei] <;> rfl)
      refine AW.again hK (i + 1) hlt (by omega)
    · have hge : ¬ i < xs.length := by simpa using hc2
      rw [List.take_of_length_le (by omega)]
      refine AW.go ?_
      refine AW.finE (.move rfl (.pv _ .nil)) rfl
  have ht0 : ¬ t = 0 := by simpa using hc
  rw [if_neg ht0]
  unfold zdI
  have hdl := diffS_len xs (oft t)
  have hdr := diffS_r hr64 (oft t)
  have hD := refDiff_fn xs (by omega) (oft t) (oft_le t)
  refine AW.go ?_
  refine AW.joinS (fun _ : Unit => ⟨86, [(8, .pv (.int .i64 (oft t : Nat))), (6, .own 5 (bytes [])), (1, .pv (.int .i64 t)), (0, .pv (.sl 1 (ints xs)))], []⟩) (fun _ => True) [8, 6, 1, 0] [] ?_ ?_
  · intro K hK
    refine AW.cond rfl (fun hc2 => ?_) (fun hc2 => ?_)
    · have h3 : 3 ≤ t := by simp at hc2; omega
      have ho : ((oft t : Nat) : Int) = 2 := by unfold oft; rw [if_neg ht0, if_pos (by omega)]; rfl
      refine AW.go ?_
      refine AW.meet hK () trivial (by simp only [go_sem, ↓reduceIte]) (by simp only [go_sem, ↓reduceIte, ho] <;> rfl)
    · have h3 : ¬ 3 ≤ t := by simp at hc2; omega
      have ho : ((oft t : Nat) : Int) = 1 := by unfold oft; rw [if_neg ht0, if_neg (by omega)]; rfl
      refine AW.go ?_
      refine AW.meet hK () trivial (by simp only [go_sem, ↓reduceIte]) (by simp only [go_sem, ↓reduceIte, ho] <;> rfl)
  rintro _ -
  refine AW.go ?_
  refine AW.callE (fun _ => 0) hD (.pv _ (.pv _ .nil)) ?_
  refine AW.freeze (p := .part 49 0) (by simp only [go_sem, ↓reduceIte, freeze, freezeO] <;> rfl) ?_
  generalize diffS xs (oft t) = d at *
  refine AW.go ?_
  refine AW.callE (fun _ => 0) (zigs_fn d (by omega) hdr) (.pv _ .nil) ?_
  have hzx : ∀ x ∈ d.map zig, x < 2 ^ 64 := by
    intro x hx
    simp only [List.mem_map] at hx
    obtain ⟨y, hy, rfl⟩ := hx
    exact zig_lt (hdr y hy)
  have hml : (d.map zig).length = d.length := by simp
  generalize d.map zig = zz at *
  refine AW.go ?_
  cases zz with
  | nil => simp at hml; omega
  | cons z0 z =>
    have hz0 := hzx z0 (by simp)
    have hzt : ∀ x ∈ z, x < 2 ^ 64 := fun x hx => hzx x (by simp [hx])
    simp only [List.length_cons] at hml
    have hg0 := u64s_get0 z0 z
    have h10 := leb_len10 hz0
    have hzd : (z0 :: z).tail = z := rfl
    have hzh : (z0 :: z).headD 0 = z0 := rfl
    unfold wayZ
    refine AW.cond rfl (fun hc2 => ?_) (fun hc2 => ?_)
    · have ht1 : t = 1 := by simp at hc2; omega
      have htail : tailI z t = (lebs z, 0) := by unfold tailI; rw [if_neg (by omega), if_neg (by omega), if_neg (by omega)]
      have hlz : leb z0 ++ lebs z = lebs (z0 :: z) := (lebs_cons z0 z).symm
      rw [hzd, hzh, htail]
      simp only [ne_eq, not_true_eq_false, if_false, hlz]
      clear hg0 hzd hzh
      have hzl : (z0 :: z).length ≤ 65536 := by simp only [List.length_cons]; omega
      generalize z0 :: z = q at *
      refine AW.go ?_
      refine AW.loopS (fun i : Nat => ⟨86, [(12, .pv (.int .i64 i)), (11, .own 42 (u64s q)), (6, .own 5 (bytes (lebs (q.take i))))], []⟩) (fun i => i ≤ q.length) (fun i => q.length - i) [12, 11, 6] [] 0 (Nat.zero_le _) ?_
      rintro i hi K hK
      refine AW.go ?_
      refine AW.cond rfl (fun hc3 => ?_) (fun hc3 => ?_)
      · have hlt : i < q.length := by simpa using hc3
        have hget := u64s_get hlt
        have hti : q.take (i + 1) = q.take i ++ [q[i]] := by simp
        have hxx := hzx _ (List.getElem_mem hlt)
        have hll := lebs_len (z := q.take i) (fun x hx' => hzx x (List.mem_of_mem_take hx'))
        have hls := lebs_snoc (q.take i) q[i]
        rw [List.length_take] at hll
        rw [← hti] at hls
        generalize q[i] = x at *
        have ei : IntKind.i64.wrap ((i : Int) + 1) = ((i + 1 : Nat) : Int) := wrap_i64_succ (by omega)
        refine AW.go ?_ (by simp only [go_sem, ↓reduceIte, hget, hlt] <;> rfl)
        refine AW.callE (fun _ => 0) (refAppend_fn (lebs (q.take i)) x hxx (by omega)) (.lend rfl co_5 (.pv _ .nil)) ?_
        refine AW.go ?_ (by simp only [go_sem, ↓reduceIte, ← hls, ei] <;> rfl)
        refine AW.again hK (i + 1) hlt (by omega)
      · have hge : ¬ i < q.length := by simpa using hc3
        rw [List.take_of_length_le (by omega)]
        refine AW.go ?_
        refine AW.finE (.move rfl (.pv _ .nil)) rfl
    have ht1 : ¬ t = 1 := by simp at hc2; omega
    refine AW.go ?_ (by simp only [go_sem, ↓reduceIte, hg0] <;> rfl)
    refine AW.callE (fun _ => 0) (refAppend_fn [] z0 hz0 (by simp; omega)) (.nilsP 1 (.pv _ .nil)) ?_
    have v1 : (1 : Int) ≤ ((z.length + 1 : Nat) : Int) := by omega
    have v2 : (((z.length + 1 : Nat) : Int) - 1).toNat = z.length := by omega
    refine AW.go ?_ (by simp only [go_sem, ↓reduceIte, List.nil_append, List.length_cons, v1, v2] <;> rfl)
    have v3 : u64s z = ((u64s (z0 :: z)).drop 1).take z.length := by
      show u64s z = (u64s z).take z.length
      rw [List.take_of_length_le (by rw [u64s_length]; exact Nat.le_refl _)]
    refine AW.callE (fun _ => 0) (other_fn z t (by omega) (by omega) (by omega) hzt) (.lendV rfl rfl v3 (.pv _ .nil)) ?_
    rw [hzd, hzh]
    have htl := tailI_len t hzt (by omega)
    generalize tailI z t = r at *
    obtain ⟨rb, re⟩ := r
    simp only at htl ⊢
    refine AW.go ?_
    refine AW.cond rfl (fun hc3 => ?_) (fun hc3 => ?_)
    · have he : re ≠ 0 := by simpa using hc3
      simp only [if_pos he]
      refine AW.go ?_
      refine AW.finE (.move rfl (.pv _ .nil)) rfl
    · have he : ¬ re ≠ 0 := by simpa using hc3
      simp only [if_neg he]
      have h1 : (leb z0).length + rb.length ≤ room := by omega
      refine AW.go ?_ (by simp only [go_sem, ↓reduceIte, h1] <;> rfl)
      refine AW.finE (.move rfl (.pv _ .nil)) rfl

theorem encI_fn (xs : List Int) (hr64 : ∀ x ∈ xs, i64r x) : Fn Try.prog 14 [] [.pv (.sl 1 (ints xs))]
    (fun rs H' => rs = [.own 5 (bytes (encI xs).1), .pv (.int .i64 (encI xs).2)] ∧ H' = []) := by
  refine Fn.of_body (fn := Try.f14) (n := 44) (res := [.tmp 2, .tmp 3]) (by kernel_rfl) rfl rfl rfl rfl rfl (fun C => ?_)
  have hr : room = 140737488355328 := rfl
  unfold encI
  refine AW.go ?_
  refine AW.cond rfl (fun hc => ?_) (fun hc => ?_)
  · have hl : 65536 < xs.length := by simp at hc; omega
    simp only [if_pos hl]
    refine AW.go ?_
    refine AW.finE (.move rfl (.pv _ .nil)) rfl
  have hl : ¬ 65536 < xs.length := by simp at hc; omega
  simp only [if_neg hl]
  have hinv := bestI_inv hr64
  have hb0 := bestI_zero xs
  refine AW.go ?_
  refine AW.callE (fun _ => 0) (wayIn_fn xs 0 hr64) (.pv _ (.pv _ .nil)) ?_
  refine AW.freeze (p := .part 15 0) (by simp only [go_sem, ↓reduceIte, freeze, freezeO] <;> rfl) ?_
  refine AW.go ?_
  refine AW.loopS (fun w : Nat => ⟨44, [(18, .pv (.int .i64 w)), (6, .pv (.int .i64 ((bestI xs w).1 : Nat))), (4, .pv (.sl 1 (bytes (bestI xs w).2))), (0, .pv (.sl 1 (ints xs)))], []⟩) (fun w => w ≤ 5) (fun w => 5 - w) [18, 6, 4, 0] [] 0 (Nat.zero_le _) ?_ (by simp only [go_sem, ↓reduceIte]) (by simp only [go_sem, ↓reduceIte, hb0] <;> rfl)
  rintro w hw K hK
  refine AW.go ?_
  refine AW.cond rfl (fun hc2 => ?_) (fun hc2 => ?_)
  · have hlt : w < 5 := by simp at hc2; omega
    have hsu := bestI_succ xs w
    rw [stepI] at hsu
    have ei : IntKind.i64.wrap ((w : Int) + 1) = ((w + 1 : Nat) : Int) := wrap_i64_succ (by omega)
    refine AW.go ?_
    refine AW.callE (fun _ => 0) (wayIn_fn xs (w : Int) hr64) (.pv _ (.pv _ .nil)) ?_
    refine AW.freeze (p := .part 24 0) (by simp only [go_sem, ↓reduceIte, freeze, freezeO] <;> rfl) ?_
    generalize wayI xs (w : Int) = r at *
    obtain ⟨rb, re⟩ := r
    simp only at hsu ⊢
    generalize bestI xs w = b at *
    obtain ⟨bt, bb⟩ := b
    simp only at hsu ⊢
    by_cases he : re = 0
    · have eb : (re == 0) = true := by simpa using he
      by_cases hlen : rb.length < bb.length
      · rw [if_pos ⟨he, hlen⟩] at hsu
        have dl : decide (rb.length < bb.length) = true := decide_eq_true hlen
        refine AW.gg ?_ (by simp only [go_sem, ↓reduceIte, eb, dl] <;> rfl)
        refine AW.condT rfl ?_
        refine AW.go ?_ (by simp only [go_sem, ↓reduceIte, ei] <;> rfl)
        refine AW.again hK (w + 1) (by omega) (by omega) (by simp only [go_sem, ↓reduceIte]) (by simp only [go_sem, ↓reduceIte, hsu] <;> rfl)
      · rw [if_neg (fun h => hlen h.2)] at hsu
        have dl : decide (rb.length < bb.length) = false := decide_eq_false hlen
        refine AW.gg ?_ (by simp only [go_sem, ↓reduceIte, eb, dl] <;> rfl)
        refine AW.condF rfl ?_
        refine AW.go ?_ (by simp only [go_sem, ↓reduceIte, ei] <;> rfl)
        refine AW.again hK (w + 1) (by omega) (by omega) (by simp only [go_sem, ↓reduceIte]) (by simp only [go_sem, ↓reduceIte, hsu] <;> rfl)
    · have eb : (re == 0) = false := by simpa using he
      rw [if_neg (fun h => he h.1)] at hsu
      refine AW.gg ?_ (by simp only [go_sem, ↓reduceIte, eb] <;> rfl)
      refine AW.condF rfl ?_
      refine AW.go ?_ (by simp only [go_sem, ↓reduceIte, ei] <;> rfl)
      refine AW.again hK (w + 1) (by omega) (by omega) (by simp only [go_sem, ↓reduceIte]) (by simp only [go_sem, ↓reduceIte, hsu] <;> rfl)
  · have hge : w = 5 := by simp at hc2; omega
    subst hge
    obtain ⟨i1, i2, -⟩ := hinv 5 (Nat.le_refl _)
    generalize bestI xs 5 = b at *
    obtain ⟨bt, bb⟩ := b
    simp only at i1 i2 ⊢
    have eu : IntKind.u8.wrap ((bt : Nat) : Int) = (bt : Nat) := wrap_u8_lt (by omega)
    have h1 : 1 + bb.length ≤ room := by omega
    refine AW.go ?_ (by simp only [go_sem, ↓reduceIte, eu, bytes_one, h1, List.length_cons, List.length_nil, Nat.zero_add, List.cons_append, List.nil_append] <;> rfl)
    refine AW.finE (.move rfl (.pv _ .nil)) rfl

def refB (xs : List Int) (w : Nat) : Int × List Nat := if w = 0 then (-1, []) else (((bestI xs w).1 : Nat), (bestI xs w).2)
theorem wayI_zero {xs : List Int} (h : ¬ 65536 < xs.length) : (wayI xs 0).2 = 0 := by
  unfold wayI
  rw [if_neg (by omega), if_neg h]
  split
  · rfl
  · rfl
theorem refEncI_fn (xs : List Int) (hr64 : ∀ x ∈ xs, i64r x) : Fn Try.prog 15 [] [.pv (.sl 1 (ints xs))]
    (fun rs H' => rs = [.own 5 (bytes (encI xs).1), .pv (.int .i64 (encI xs).2)] ∧ H' = []) := by
  refine Fn.of_body (fn := Try.f15) (n := 42) (res := [.tmp 2, .tmp 3]) (by kernel_rfl) rfl rfl rfl rfl rfl (fun C => ?_)
  have hr : room = 140737488355328 := rfl
  unfold encI
  refine AW.go ?_
  refine AW.cond rfl (fun hc => ?_) (fun hc => ?_)
  · have hl : 65536 < xs.length := by simp at hc; omega
    simp only [if_pos hl]
    refine AW.go ?_
    refine AW.finE (.move rfl (.pv _ .nil)) rfl
  have hl : ¬ 65536 < xs.length := by simp at hc; omega
  simp only [if_neg hl]
  have hinv := bestI_inv hr64
  have hb1 := bestI_one xs
  have hz := wayI_zero hl
  refine AW.go ?_
  refine AW.freeze (p := .slot 5) (by simp only [go_sem, ↓reduceIte, freeze, freezeO] <;> rfl) ?_
  refine AW.loopS (fun w : Nat => ⟨42, [(6, .pv (.int .i64 w)), (4, .pv (.int .i64 (refB xs w).1)), (5, .pv (.sl 1 (bytes (refB xs w).2))), (0, .pv (.sl 1 (ints xs)))], []⟩) (fun w => w ≤ 5) (fun w => 5 - w) [6, 4, 5, 0] [] 0 (Nat.zero_le _) ?_
  rintro w hw K hK
  refine AW.go ?_
  refine AW.cond rfl (fun hc2 => ?_) (fun hc2 => ?_)
  · have hlt : w < 5 := by simp at hc2; omega
    have hsu := bestI_succ xs w
    rw [stepI] at hsu
    have ei : IntKind.i64.wrap ((w : Int) + 1) = ((w + 1 : Nat) : Int) := wrap_i64_succ (by omega)
    have hrs : refB xs (w + 1) = (((bestI xs (w + 1)).1 : Int), (bestI xs (w + 1)).2) := by unfold refB; rw [if_neg (by omega)]
    refine AW.go ?_
    refine AW.callE (fun _ => 0) (refWayIn_fn xs (w : Int) hr64) (.pv _ (.pv _ .nil)) ?_
    refine AW.freeze (p := .part 19 0) (by simp only [go_sem, ↓reduceIte, freeze, freezeO] <;> rfl) ?_
    by_cases hw0 : w = 0
    · subst hw0
      have hr0 : refB xs 0 = (-1, []) := rfl
      rw [hb1] at hrs
      have hc0 : ((0 : Nat) : Int) = 0 := rfl
      rw [hc0]
      generalize wayI xs 0 = r at *
      obtain ⟨rb, re⟩ := r
      simp only at hz hrs ⊢
      subst hz
      refine AW.gg ?_ (by simp only [go_sem, ↓reduceIte, hr0] <;> rfl)
      refine AW.condT rfl ?_
      refine AW.go ?_ (by simp only [go_sem, ↓reduceIte, ei] <;> rfl)
      refine AW.again hK 1 (by omega) (by omega) (by simp only [go_sem, ↓reduceIte]) (by simp only [go_sem, ↓reduceIte, hrs] <;> rfl)
    have hrw : refB xs w = (((bestI xs w).1 : Int), (bestI xs w).2) := by unfold refB; rw [if_neg hw0]
    rw [hrw]
    generalize wayI xs (w : Int) = r at *
    obtain ⟨rb, re⟩ := r
    simp only at hsu ⊢
    generalize bestI xs w = b at *
    obtain ⟨bt, bb⟩ := b
    simp only at hsu ⊢
    by_cases he : re = 0
    · have eb : (re == 0) = true := by simpa using he
      by_cases hlen : rb.length < bb.length
      · rw [if_pos ⟨he, hlen⟩] at hsu
        rw [hsu] at hrs
        have dl : decide (rb.length < bb.length) = true := decide_eq_true hlen
        refine AW.gg ?_ (by simp only [go_sem, ↓reduceIte, eb, dl] <;> rfl)
        refine AW.condT rfl ?_
        refine AW.go ?_ (by simp only [go_sem, ↓reduceIte, ei] <;> rfl)
        refine AW.again hK (w + 1) (by omega) (by omega) (by simp only [go_sem, ↓reduceIte]) (by simp only [go_sem, ↓reduceIte, hrs] <;> rfl)
      · rw [if_neg (fun h => hlen h.2)] at hsu
        rw [hsu] at hrs
        have dl : decide (rb.length < bb.length) = false := decide_eq_false hlen
        refine AW.gg ?_ (by simp only [go_sem, ↓reduceIte, eb, dl] <;> rfl)
        refine AW.condF rfl ?_
        refine AW.go ?_ (by simp only [go_sem, ↓reduceIte, ei] <;> rfl)
        refine AW.again hK (w + 1) (by omega) (by omega) (by simp only [go_sem, ↓reduceIte]) (by simp only [go_sem, ↓reduceIte, hrs] <;> rfl)
    · have eb : (re == 0) = false := by simpa using he
      rw [if_neg (fun h => he h.1)] at hsu
      rw [hsu] at hrs
      refine AW.gg ?_ (by simp only [go_sem, ↓reduceIte, eb] <;> rfl)
      refine AW.condF rfl ?_
      refine AW.go ?_ (by simp only [go_sem, ↓reduceIte, ei] <;> rfl)
      refine AW.again hK (w + 1) (by omega) (by omega) (by simp only [go_sem, ↓reduceIte]) (by simp only [go_sem, ↓reduceIte, hrs] <;> rfl)
  · have hge : w = 5 := by simp at hc2; omega
    subst hge
    have hrw : refB xs 5 = (((bestI xs 5).1 : Int), (bestI xs 5).2) := by unfold refB; rw [if_neg (by omega)]
    rw [hrw]
    obtain ⟨i1, i2, -⟩ := hinv 5 (Nat.le_refl _)
    generalize bestI xs 5 = b at *
    obtain ⟨bt, bb⟩ := b
    simp only at i1 i2 ⊢
    have eu : IntKind.u8.wrap ((bt : Nat) : Int) = (bt : Nat) := wrap_u8_lt (by omega)
    have h1 : 1 + bb.length ≤ room := by omega
    refine AW.go ?_ (by simp only [go_sem, ↓reduceIte, eu, bytes_one, h1, List.length_cons, List.length_nil, Nat.zero_add, List.cons_append, List.nil_append] <;> rfl)
    refine AW.finE (.move rfl (.pv _ .nil)) rfl
end Go.Ck

set_option linter.unusedVariables false
/-! Calls that leave something unsaid. -/
namespace Go.Ck
section
variable {P : Program} {R : Option Nat} {Φ : Exit → Cx → St → Prop} {k : List It} {C : Cx} {s : St}
theorem AW.callZ {α : Type} {all : Array Oper} {o : Oper} {r : List Oper} {f : FuncId} {svs : List SV} {H : List (Nat × HO)} {H' : α → List (Nat × HO)} {args : List SV} {rs : α → List SV} {L : List Place} {m : Option Place} {d : Nat} {s' : α → St} (ρ : Nat → Nat)
    (hF : Fn P f H args (fun rs' h => ∃ z, rs' = rs z ∧ h = H' z)) (hP : Pass P s ρ svs args L m) (h : ∀ z, AW P R Φ .normal (.ops all r :: k) C (s' z)) (hg : o.guard = none := by rfl) (hd : o.dst = some d := by rfl) (hc : callOp s o.op = some (f, svs) := by simp only [go_sem, ↓reduceIte] <;> rfl) (hM : HM s ρ H := by simp only [go_sem, ↓reduceIte]) (hB : okB ρ H args L m = true := by simp only [go_sem, ↓reduceIte])
    (hA : ∀ z, okA s ρ H L (rs z) (H' z) = true := by intro z; simp only [go_sem, ↓reduceIte]) (hs : ∀ z, behind s ρ m H d (rs z) (H' z) = s' z := by intro z; simp only [go_sem, ↓reduceIte] <;> rfl) :
    AW P R Φ .normal (.ops all (o :: r) :: k) C s := AW.callX ρ hg hd hc hF hP hM hB (fun rs' h' ⟨z, e1, e2⟩ => by subst e1; subst e2; exact ⟨hA z, by rw [hs]; exact h z⟩)
theorem AW.finZ {α : Type} {res : List ResultVar} {H : List (Nat × HO)} {H' : α → List (Nat × HO)} {e : Exit} {svs : List SV} {rs : α → List SV} {L : List Place} {m : Option Place} (z : α) (hP : Pass P s id svs (rs z) L m) (he : e = .normal ∨ e = .ret := by first | exact .inl rfl | exact .inr rfl) (hv : retsV P s res = some svs := by simp only [go_sem, ↓reduceIte] <;> rfl) (hM : HM s id (H' z) := by simp only [go_sem, ↓reduceIte]; try trivial) (hB : okB id (H' z) (rs z) L m = true := by simp only [go_sem, ↓reduceIte])
    (hn : allIn H (H' z) = true := by simp only [go_sem, ↓reduceIte]) : AW P R (Ends P res H (fun rs' h => ∃ z, rs' = rs z ∧ h = H' z) C) e [] C s := AW.fin he hv hP hM hB hn ⟨z, rfl, rfl⟩
end
end Go.Ck

set_option linter.unusedVariables false
set_option maxRecDepth 10000
set_option maxHeartbeats 1000000
namespace Go.Ck
open Go.Proofs

theorem i64of_def (v : Nat) : IntKind.i64.wrap ((v : Nat) : Int) = i64of v := rfl
theorem whole_fn (l : List Nat) (n : Nat) (hn : n ≤ 65536) (hl : l.length ≤ 2 ^ 40) (hb : ∀ x ∈ l, x < 256) : Fn Try.prog 32 (curO l) [.ptr 1000 0, .pv (.int .i64 n)]
    (fun rs H' => ∃ q : List Nat, rs = [.own 3 (ints ((rwN n [] l).1.map i64of)), .pv (.int .i64 (rwN n [] l).2)] ∧ H' = curO q) := by
  refine Fn.of_body (fn := Try.f32) (n := 29) (res := [.tmp 4, .tmp 5]) (by kernel_rfl) rfl rfl rfl rfl rfl (fun C => ?_)
  have hr : room = 140737488355328 := rfl
  refine AW.go ?_
  refine AW.loopS (fun a : Nat × List Nat × List Nat => ⟨29, [(10, .pv (.int .i64 a.1)), (9, .pv (.int .i64 n)), (6, .own 3 (ints (a.2.1.map i64of))), (0, .ptr 1000 0)], curO a.2.2⟩) (fun a => a.1 ≤ n ∧ rwN (n - a.1) a.2.1 a.2.2 = rwN n [] l ∧ (∀ x ∈ a.2.2, x < 256) ∧ a.2.2.length ≤ l.length ∧ a.2.1.length = a.1) (fun a => n - a.1) [10, 9, 6, 0] [1000] (0, [], l) ⟨Nat.zero_le _, rfl, hb, Nat.le_refl _, rfl⟩ ?_
  rintro ⟨i, acc, q⟩ ⟨hi, hrw, hq, hql, hal⟩ K hK
  simp only at hi hrw hq hql hal
  rw [← hrw] at hK ⊢
  refine AW.go ?_
  refine AW.cond rfl (fun hc => ?_) (fun hc => ?_)
  · have hlt : i < n := by simpa using hc
    obtain ⟨m, hm⟩ : ∃ m, n - i = m + 1 := ⟨n - i - 1, by omega⟩
    have hst : rwN (n - i) acc q = if q.length < 8 then ([], 2) else rwN m (acc ++ [beN (q.take 8)]) (q.drop 8) := by rw [hm, rwN]
    rw [hst]
    have ei : IntKind.i64.wrap ((i : Int) + 1) = ((i + 1 : Nat) : Int) := wrap_i64_succ (by omega)
    refine AW.go ?_
    refine AW.callE id (curFixed_fn q 8 (by omega) (by omega) hq) (.ptr rfl (.pv _ .nil)) ?_
    by_cases h8 : 8 ≤ q.length
    · simp only [if_pos h8]
      rw [if_neg (by omega)] at hst ⊢
      have hmi : (acc ++ [beN (q.take 8)]).map i64of = acc.map i64of ++ [i64of (beN (q.take 8))] := by simp
      have hml : (acc.map i64of).length = i := by simp [hal]
      generalize beN (q.take 8) = v at *
      have hdv := i64of_def v
      have h1 : (i + 1) * 8 ≤ room := by omega
      have h2 : i + 1 ≤ room := by omega
      refine AW.go ?_
      refine AW.condF rfl ?_
      refine AW.go ?_ (by simp only [go_sem, ↓reduceIte, hdv, hml, ints_one, h1, h2, ← hmi, ei] <;> rfl)
      refine AW.again hK (i + 1, acc ++ [v], q.drop 8) ⟨hlt, by rw [show n - (i + 1) = m by omega, hst], fun x hx => hq x (List.mem_of_mem_drop hx), by simp only [List.length_drop]; omega, by simp [hal]⟩ (by simp only; omega)
    · simp only [if_neg h8]
      rw [if_pos (by omega)]
      refine AW.go ?_
      refine AW.condT rfl ?_
      refine AW.go ?_
      exact AW.finZ q (.move rfl (.pv _ .nil))
  · have hge : n - i = 0 := by simp at hc; omega
    rw [hge, rwN]
    refine AW.go ?_
    refine AW.callE id (curEnd_fn q) (.ptr rfl .nil) ?_
    refine AW.go ?_
    exact AW.finZ q (.move rfl (.pv _ .nil))

theorem under_fn (q : List Nat) (n t : Nat) (hn : n ≤ 65536) (hl : q.length ≤ 2 ^ 40) (hb : ∀ x ∈ q, x < 256) : Fn Try.prog 56 [] [.pv (.sl 1 (bytes q)), .pv (.int .i64 n), .pv (.int .i64 t)]
    (fun rs H' => rs = [.own 42 (u64s (underI q n t).1), .pv (.int .i64 (underI q n t).2)] ∧ H' = []) := by
  refine Fn.of_body (fn := Try.f56) (n := 28) (res := [.tmp 6, .tmp 7]) (by kernel_rfl) rfl rfl rfl rfl rfl (fun C => ?_)
  unfold underI
  refine AW.go ?_
  refine AW.cond rfl (fun hc => ?_) (fun hc => ?_)
  · have h2 : t = 2 := by simp at hc; omega
    simp only [if_pos h2]
    refine AW.go ?_
    refine AW.callE (fun _ => 0) (unpack_fn q n hn hl hb) (.pv _ (.pv _ .nil)) ?_
    refine AW.go ?_
    refine AW.finE (.move rfl (.pv _ .nil)) rfl
  have h2 : ¬ t = 2 := by simp at hc; omega
  simp only [if_neg h2]
  refine AW.go ?_
  refine AW.cond rfl (fun hc => ?_) (fun hc => ?_)
  · have h3 : t = 3 := by simp at hc; omega
    simp only [if_pos h3]
    refine AW.go ?_
    refine AW.callE (fun _ => 0) (simpleDec_fn q n hn hl hb) (.pv _ (.pv _ .nil)) ?_
    refine AW.go ?_
    refine AW.finE (.move rfl (.pv _ .nil)) rfl
  have h3 : ¬ t = 3 := by simp at hc; omega
  simp only [if_neg h3]
  refine AW.go ?_
  refine AW.callE (fun _ => 0) (runsDec_fn q n hn hl hb) (.pv _ (.pv _ .nil)) ?_
  refine AW.go ?_
  refine AW.finE (.move rfl (.pv _ .nil)) rfl

theorem numbers_fn (l : List Nat) (n t : Nat) (hn : n ≤ 65536) (ht : 1 ≤ t) (hl : l.length ≤ 2 ^ 40) (hb : ∀ x ∈ l, x < 256) : Fn Try.prog 33 (curO l) [.ptr 1000 0, .pv (.int .i64 n), .pv (.int .i64 t)]
    (fun rs H' => ∃ q : List Nat, rs = [.own 42 (u64s (numI l n t).1), .pv (.int .i64 (numI l n t).2)] ∧ H' = curO q) := by
  refine Fn.of_body (fn := Try.f33) (n := 71) (res := [.tmp 6, .tmp 7]) (by kernel_rfl) rfl rfl rfl rfl rfl (fun C => ?_)
  have hr : room = 140737488355328 := rfl
  unfold numI
  refine AW.go ?_
  refine AW.cond rfl (fun hc => ?_) (fun hc => ?_)
  · have h0 : n = 0 := by simpa using hc
    rw [if_pos h0]
    refine AW.go ?_
    refine AW.callE id (curEnd_fn l) (.ptr rfl .nil) ?_
    refine AW.go ?_
    exact AW.finZ l (.move rfl (.pv _ .nil))
  have h0 : ¬ n = 0 := by simpa using hc
  rw [if_neg h0]
  refine AW.go ?_
  refine AW.callE id (curVarint_fn l (by omega) hb) (.ptr rfl .nil) ?_
  have hv := readV_lt hb
  have hq : ∀ x ∈ l.drop (readV l).2.1, x < 256 := fun x hx => hb x (List.mem_of_mem_drop hx)
  have hql : (l.drop (readV l).2.1).length ≤ 2 ^ 40 := by rw [List.length_drop]; omega
  generalize l.drop (readV l).2.1 = q at *
  generalize (readV l).1 = v at *
  generalize (readV l).2.2 = e at *
  refine AW.go ?_
  refine AW.cond rfl (fun hc => ?_) (fun hc => ?_)
  · have he : e ≠ 0 := by simpa using hc
    rw [if_pos he]
    refine AW.go ?_
    exact AW.finZ q (.move rfl (.pv _ .nil))
  have he : ¬ e ≠ 0 := by simpa using hc
  rw [if_neg he]
  have en1 : IntKind.i64.wrap ((n : Int) - 1) = ((n - 1 : Nat) : Int) := by rw [wrap_i64_of (by omega) (by omega)]; omega
  refine AW.go ?_
  refine AW.cond rfl (fun hc => ?_) (fun hc => ?_)
  · have h1 : t = 1 := by simp at hc; omega
    rw [if_pos h1]
    refine AW.go ?_ (by simp only [go_sem, ↓reduceIte, en1] <;> rfl)
    refine AW.loopS (fun a : Nat × List Nat × List Nat => ⟨71, [(34, .pv (.int .i64 a.1)), (33, .pv (.int .i64 (n - 1 : Nat))), (10, .own 42 (u64s a.2.1)), (0, .ptr 1000 0)], curO a.2.2⟩) (fun a => a.1 ≤ n - 1 ∧ rvN (n - 1 - a.1) a.2.1 a.2.2 = rvN (n - 1) [v] q ∧ (∀ x ∈ a.2.2, x < 256) ∧ a.2.2.length ≤ q.length ∧ a.2.1.length = a.1 + 1) (fun a => n - 1 - a.1) [34, 33, 10, 0] [1000] (0, [v], q) ⟨Nat.zero_le _, rfl, hq, Nat.le_refl _, rfl⟩ ?_
    rintro ⟨i, acc, p⟩ ⟨hi, hrw, hp, hpl, hal⟩ K hK
    simp only at hi hrw hp hpl hal
    rw [← hrw] at hK ⊢
    refine AW.go ?_
    refine AW.cond rfl (fun hc => ?_) (fun hc => ?_)
    · have hlt : i < n - 1 := by simpa using hc
      obtain ⟨m, hm⟩ : ∃ m, n - 1 - i = m + 1 := ⟨n - 1 - i - 1, by omega⟩
      have hst : rvN (n - 1 - i) acc p = if (readV p).2.2 ≠ 0 then ([], (readV p).2.2) else rvN m (acc ++ [(readV p).1]) (p.drop (readV p).2.1) := by rw [hm, rvN]
      rw [hst]
      have ei : IntKind.i64.wrap ((i : Int) + 1) = ((i + 1 : Nat) : Int) := wrap_i64_succ (by omega)
      have hp2 : ∀ x ∈ p.drop (readV p).2.1, x < 256 := fun x hx => hp x (List.mem_of_mem_drop hx)
      have hpl2 : (p.drop (readV p).2.1).length ≤ q.length := by rw [List.length_drop]; omega
      refine AW.go ?_
      refine AW.callE id (curVarint_fn p (by omega) hp) (.ptr rfl .nil) ?_
      generalize p.drop (readV p).2.1 = p2 at *
      generalize (readV p).1 = u at *
      generalize (readV p).2.2 = e2 at *
      refine AW.go ?_
      refine AW.cond rfl (fun hc2 => ?_) (fun hc2 => ?_)
      · have he2 : e2 ≠ 0 := by simpa using hc2
        rw [if_pos he2]
        refine AW.go ?_
        exact AW.finZ p2 (.move rfl (.pv _ .nil))
      · have he2 : ¬ e2 ≠ 0 := by simpa using hc2
        rw [if_neg he2] at hst ⊢
        have h1 : (acc.length + 1) * 8 ≤ room := by omega
        have h2 : acc.length + 1 ≤ room := by omega
        refine AW.go ?_ (by simp only [go_sem, ↓reduceIte, u64s_one, h1, h2, ei] <;> rfl)
        refine AW.again hK (i + 1, acc ++ [u], p2) ⟨hlt, by rw [show n - 1 - (i + 1) = m by omega, hst], hp2, hpl2, by simp [hal]⟩ (by simp only; omega)
    · have hge : n - 1 - i = 0 := by simp at hc; omega
      rw [hge, rvN]
      refine AW.go ?_
      refine AW.callE id (curEnd_fn p) (.ptr rfl .nil) ?_
      refine AW.go ?_
      exact AW.finZ p (.move rfl (.pv _ .nil))
  have h1 : ¬ t = 1 := by simp at hc; omega
  rw [if_neg h1]
  refine AW.go ?_
  refine AW.callE id (curLeft_fn q) (.ptr rfl .nil) ?_
  refine AW.go ?_
  refine AW.callE id (curBytes_fn q q.length (by omega)) (.ptr rfl (.pv _ .nil)) ?_
  simp only [if_pos (Nat.le_refl _), List.take_length, List.drop_length]
  refine AW.freeze (p := .part 56 0) (by simp only [go_sem, ↓reduceIte, freeze, freezeO] <;> rfl) ?_
  refine AW.go ?_ (by simp only [go_sem, ↓reduceIte, en1] <;> rfl)
  refine AW.callE (fun _ => 0) (under_fn q (n - 1) t (by omega) hql hq) (.pv _ (.pv _ (.pv _ .nil))) ?_
  have hul := (underI_inv (n - 1) t hq).1
  generalize underI q (n - 1) t = r at *
  obtain ⟨rb, re⟩ := r
  simp only at hul ⊢
  have h2 : (1 + rb.length) * 8 ≤ room := by omega
  have h3 : 1 + rb.length ≤ room := by omega
  refine AW.go ?_ (by simp only [go_sem, ↓reduceIte, u64s_one, List.length_cons, List.length_nil, Nat.zero_add, List.cons_append, List.nil_append, h2, h3] <;> rfl)
  exact AW.finZ [] (.move rfl (.pv _ .nil))
end Go.Ck

set_option linter.unusedVariables false
set_option maxRecDepth 10000
set_option maxHeartbeats 1000000
namespace Go.Ck
open Go.Proofs

theorem valI_r (z : List Nat) (t : Nat) (h : ∀ x ∈ z, x < 2 ^ 64) : ∀ x ∈ valI z t, i64r x := by
  unfold valI
  split
  · intro x hx
    simp only [List.mem_map] at hx
    obtain ⟨y, _, rfl⟩ := hx
    exact i64of_r y
  · refine sumS_r _ (fun x hx => ?_)
    simp only [List.mem_map] at hx
    obtain ⟨y, hy, rfl⟩ := hx
    exact zag_r (h y hy)
theorem encI_byte {xs : List Int} (h : ∀ x ∈ xs, i64r x) : ∀ x ∈ (encI xs).1, x < 256 := by
  obtain ⟨h1, h2, h3⟩ := bestI_inv h 5 (Nat.le_refl _)
  unfold encI
  split
  · simp
  · intro x hx
    rcases List.mem_cons.1 hx with rfl | hx
    · omega
    · exact h3 x hx
theorem encI_room {xs : List Int} (h : ∀ x ∈ xs, i64r x) : (encI xs).1.length ≤ 2 ^ 23 := by
  obtain ⟨h1, h2, h3⟩ := bestI_inv h 5 (Nat.le_refl _)
  unfold encI
  split
  · simp
  · simp only [List.length_cons]; omega

theorem decI_fn (b : List Nat) (w : Int) (hl : b.length ≤ 2 ^ 40) (hb : ∀ x ∈ b, x < 256) : Fn Try.prog 16 [] [.pv (.sl 1 (bytes b)), .pv (.int .i64 w)]
    (fun rs H' => rs = [.own 3 (ints (decI b w).1), .pv (.int .i64 (decI b w).2)] ∧ H' = []) := by
  refine Fn.of_body (fn := Try.f16) (n := 82) (res := [.tmp 4, .tmp 5]) (by kernel_rfl) rfl rfl rfl rfl rfl (fun C => ?_)
  have hr : room = 140737488355328 := rfl
  unfold decI
  by_cases hw : w < 0 ∨ 65536 < w
  · rw [if_pos hw]
    by_cases h0 : w < 0
    · have d0 : decide (w < 0) = true := decide_eq_true h0
      refine AW.gg ?_ (by simp only [go_sem, ↓reduceIte, d0] <;> rfl)
      refine AW.condT rfl ?_
      refine AW.go ?_
      refine AW.finE (.move rfl (.pv _ .nil)) rfl
    · have d0 : decide (w < 0) = false := decide_eq_false h0
      have d5 : decide (w > 65536) = true := decide_eq_true (by omega)
      have d5' : decide (65536 < w) = true := decide_eq_true (by omega)
      refine AW.gg ?_ (by simp only [go_sem, ↓reduceIte, d0, d5, d5'] <;> rfl)
      refine AW.condT rfl ?_
      refine AW.go ?_
      refine AW.finE (.move rfl (.pv _ .nil)) rfl
  rw [if_neg hw]
  obtain ⟨n, rfl⟩ : ∃ n : Nat, w = n := ⟨w.toNat, by omega⟩
  have hn : n ≤ 65536 := by omega
  rw [Int.toNat_natCast]
  have d5 : decide ((n : Int) > 65536) = false := decide_eq_false (by omega)
  have d5' : decide ((65536 : Int) < (n : Int)) = false := decide_eq_false (by omega)
  refine AW.gg ?_ (by simp only [go_sem, ↓reduceIte, d5, d5'] <;> rfl)
  refine AW.condF rfl ?_
  refine AW.go ?_
  refine AW.callE (fun o => if o = 7 then 22 else 0) (curNew_fn b (by omega)) (.pv _ .nil) ?_
  refine AW.go ?_
  refine AW.callE (fun _ => 22) (curByte_fn b (by omega)) (.ptr rfl .nil) ?_
  refine AW.go ?_
  cases b with
  | nil =>
    refine AW.condT rfl ?_
    refine AW.go ?_
    refine AW.finE (.move rfl (.pv _ .nil)) rfl
  | cons t l =>
    have htb := hb t (by simp)
    have hbl : ∀ x ∈ l, x < 256 := fun x hx => hb x (by simp [hx])
    simp only [List.length_cons] at hl
    refine AW.condF rfl ?_
    refine AW.go ?_
    simp only [List.headD_cons, List.tail_cons, decI1]
    refine AW.cond rfl (fun hc => ?_) (fun hc => ?_)
    · have h5 : 5 ≤ t := by simp at hc; omega
      simp only [if_pos h5]
      refine AW.go ?_
      refine AW.finE (.move rfl (.pv _ .nil)) rfl
    have h5 : ¬ 5 ≤ t := by simp at hc; omega
    simp only [if_neg h5]
    have hinv := rdI_inv n t hbl
    refine AW.go ?_
    refine AW.joinS (fun _ : Unit => ⟨82, [(9, .own 3 (ints (valI (rdI l n t).1 t))), (8, .pv (.int .i64 (rdI l n t).2)), (0, .pv (.sl 1 (bytes (t :: l))))], []⟩) (fun _ => True) [9, 8, 0] [] ?_ ?_
    · intro K hK
      refine AW.cond rfl (fun hc => ?_) (fun hc => ?_)
      · have h0 : t = 0 := by simpa using hc
        have hrd : rdI l n t = rwN n [] l := by unfold rdI; rw [if_pos h0]
        have hva : ∀ z, valI z t = z.map i64of := fun z => by unfold valI; rw [if_pos h0]
        refine AW.go ?_
        refine AW.callZ (fun _ => 22) (whole_fn l n hn (by omega) hbl) (.ptr rfl (.pv _ .nil)) (fun q => ?_)
        refine AW.go ?_
        refine AW.meet hK () trivial (by simp only [go_sem, ↓reduceIte]) (by simp only [go_sem, ↓reduceIte, hrd, hva] <;> rfl)
      · have h0 : ¬ t = 0 := by simpa using hc
        have hrd : rdI l n t = numI l n t := by unfold rdI; rw [if_neg h0]
        have hva : ∀ z, valI z t = sumS (z.map zag) (oft t) := fun z => by unfold valI; rw [if_neg h0]
        have ec : IntKind.i64.wrap ((t : Nat) : Int) = (t : Int) := wrap_i64_nat (by omega)
        rw [hrd] at hinv
        refine AW.go ?_ (by simp only [go_sem, ↓reduceIte, ec] <;> rfl)
        refine AW.callZ (fun _ => 22) (numbers_fn l n t hn (by omega) (by omega) hbl) (.ptr rfl (.pv _ (.pv _ .nil))) (fun q => ?_)
        obtain ⟨i1, i2⟩ := hinv
        generalize numI l n t = r at *
        obtain ⟨z, e⟩ := r
        simp only at i1 i2 ⊢
        refine AW.freeze (p := .part 46 0) (by simp only [go_sem, ↓reduceIte, freeze, freezeO] <;> rfl) ?_
        refine AW.go ?_
        refine AW.loopS (fun i : Nat => ⟨82, [(51, .pv (.int .i64 i)), (50, .pv (.int .i64 z.length)), (49, .pv (.sl 1 (u64s z))), (9, .own 3 (ints ((z.take i).map zag))), (8, .pv (.int .i64 e)), (7, .pv (.int .u8 t)), (0, .pv (.sl 1 (bytes (t :: l))))], []⟩) (fun i => i ≤ z.length) (fun i => z.length - i) [51, 50, 49, 9, 8, 7, 0] [] 0 (Nat.zero_le _) ?_
        rintro i hi K2 hK2
        refine AW.go ?_
        refine AW.cond rfl (fun hc2 => ?_) (fun hc2 => ?_)
        · have hlt : i < z.length := by simpa using hc2
          have hget := u64s_get hlt
          have hti : (z.take (i + 1)).map zag = (z.take i).map zag ++ [zag z[i]] := by rw [← List.map_singleton, ← List.map_append]; congr 1; simp
          have hxx := i2 _ (List.getElem_mem hlt)
          generalize z[i] = x at *
          have ei : IntKind.i64.wrap ((i : Int) + 1) = ((i + 1 : Nat) : Int) := wrap_i64_succ (by omega)
          have hml : ((z.take i).map zag).length = i := by simp; omega
          have h1 : (i + 1) * 8 ≤ room := by omega
          have h2 : i + 1 ≤ room := by omega
          generalize (z.take i).map zag = m at *
          refine AW.go ?_ (by simp only [go_sem, ↓reduceIte, hget] <;> rfl)
          refine AW.callE (fun _ => 0) (zag_fn x hxx) (.pv _ .nil) ?_
          refine AW.go ?_ (by simp only [go_sem, ↓reduceIte, hml, ints_one, h1, h2, ← hti, ei] <;> rfl)
          refine AW.again hK2 (i + 1) hlt (by omega)
        · have hge : ¬ i < z.length := by simpa using hc2
          rw [List.take_of_length_le (by omega)]
          clear hK2
          have hml : (z.map zag).length = z.length := by simp
          refine AW.go ?_ (by simp only [go_sem, ↓reduceIte, ec] <;> rfl)
          refine AW.callE (fun _ => 0) (often_fn t) (.pv _ .nil) ?_
          refine AW.go ?_
          refine AW.callE (fun _ => 0) (sum_fn (z.map zag) (oft t) (oft_le t) (by omega)) (.lend rfl co_3 (.pv _ .nil)) ?_
          refine AW.go ?_
          refine AW.meet hK () trivial (by simp only [go_sem, ↓reduceIte]) (by simp only [go_sem, ↓reduceIte, hrd, hva] <;> rfl)
    rintro _ -
    unfold decI0
    have hvr := valI_r (rdI l n t).1 t hinv.2
    generalize rdI l n t = r at *
    obtain ⟨z, e⟩ := r
    simp only at hvr ⊢
    generalize valI z t = xs at *
    refine AW.go ?_
    refine AW.cond rfl (fun hc => ?_) (fun hc => ?_)
    · have he : e ≠ 0 := by simpa using hc
      simp only [if_pos he]
      refine AW.go ?_
      refine AW.finE (.move rfl (.pv _ .nil)) rfl
    have he : ¬ e ≠ 0 := by simpa using hc
    simp only [if_neg he]
    refine AW.go ?_
    refine AW.callE (fun _ => 0) (encI_fn xs hvr) (.lend rfl co_3 .nil) ?_
    refine AW.go ?_
    refine AW.callE (fun _ => 0) (bytesEqual_fn (encI xs).1 (t :: l) (encI_byte hvr) hb) (.lend rfl co_5 (.pv _ .nil)) ?_
    by_cases hq : (encI xs).1 = t :: l
    · rw [decide_eq_true hq]
      simp only [if_pos hq]
      refine AW.go ?_
      refine AW.condF rfl ?_
      refine AW.go ?_
      refine AW.finE (.move rfl (.pv _ .nil)) rfl
    · rw [decide_eq_false hq]
      simp only [if_neg hq]
      refine AW.go ?_
      refine AW.condT rfl ?_
      refine AW.go ?_
      refine AW.finE (.move rfl (.pv _ .nil)) rfl
end Go.Ck

set_option linter.unusedVariables false
set_option maxRecDepth 10000
set_option maxHeartbeats 1000000
namespace Go.Ck
open Go.Proofs

/-- What the reference's own reader yields. -/
def okL2 (r : List Nat × Int) : List Nat × Int := (if r.2 = 0 then r.1 else [], r.2)
theorem okL2_err {e : Int} (h : e ≠ 0) (l : List Nat) : okL2 (l, e) = ([], e) := by unfold okL2; rw [if_neg h]
theorem okL2_ok (l : List Nat) : okL2 (l, 0) = (l, 0) := rfl
theorem plain0_fn (l : List Nat) (n : Nat) (hn : n ≤ 65536) (hl : l.length ≤ 2 ^ 40) (hb : ∀ x ∈ l, x < 256) (t : Nat) (ht : n = 0 ∨ t = 0) : Fn Try.prog 57 [] [.pv (.sl 1 (bytes l)), .pv (.int .i64 n), .pv (.int .i64 t)]
    (fun rs H' => rs = [.own 42 (u64s (okL2 (rwN n [] l)).1), .pv (.int .i64 (okL2 (rwN n [] l)).2)] ∧ H' = []) := by
  refine Fn.of_body (fn := Try.f57) (n := 44) (res := [.tmp 6, .tmp 7]) (by kernel_rfl) rfl rfl rfl rfl rfl (fun C => ?_)
  have hr : room = 140737488355328 := rfl
  refine AW.go ?_
  refine AW.loopS (fun a : Nat × List Nat × List Nat => ⟨44, [(9, .pv (.int .i64 a.1)), (8, .own 42 (u64s a.2.1)), (2, .pv (.int .i64 t)), (1, .pv (.int .i64 n)), (0, .pv (.sl 1 (bytes a.2.2)))], []⟩) (fun a => a.1 ≤ n ∧ rwN (n - a.1) a.2.1 a.2.2 = rwN n [] l ∧ (∀ x ∈ a.2.2, x < 256) ∧ a.2.2.length ≤ l.length ∧ a.2.1.length = a.1) (fun a => n - a.1) [9, 8, 2, 1, 0] [] (0, [], l) ⟨Nat.zero_le _, rfl, hb, Nat.le_refl _, rfl⟩ ?_
  rintro ⟨i, acc, q⟩ ⟨hi, hrw, hq, hql, hal⟩ K hK
  simp only at hi hrw hq hql hal
  rw [← hrw] at hK ⊢
  refine AW.go ?_
  refine AW.cond rfl (fun hc => ?_) (fun hc => ?_)
  · have hlt : i < n := by simpa using hc
    have ht0 : t = 0 := by omega
    have ht1 : ((t : Int) == 1) = false := by simp; omega
    obtain ⟨m, hm⟩ : ∃ m, n - i = m + 1 := ⟨n - i - 1, by omega⟩
    have hst : rwN (n - i) acc q = if q.length < 8 then ([], 2) else rwN m (acc ++ [beN (q.take 8)]) (q.drop 8) := by rw [hm, rwN]
    rw [hst]
    have ei : IntKind.i64.wrap ((i : Int) + 1) = ((i + 1 : Nat) : Int) := wrap_i64_succ (by omega)
    refine AW.go ?_
    refine AW.callE (fun _ => 0) (refFixed_fn q 8 (by omega) (by omega) hq) (.pv _ (.pv _ .nil)) ?_
    by_cases h8 : 8 ≤ q.length
    · simp only [if_pos h8]
      rw [if_neg (by omega)] at hst ⊢
      generalize beN (q.take 8) = v at *
      have h1 : (i + 1) * 8 ≤ room := by omega
      have h2 : i + 1 ≤ room := by omega
      refine AW.go ?_ (by simp only [go_sem, ↓reduceIte, ht1] <;> rfl)
      refine AW.condF rfl ?_
      refine AW.go ?_
      refine AW.condF rfl ?_
      refine AW.go ?_ (by simp only [go_sem, ↓reduceIte, hal, u64s_one, h1, h2, ei] <;> rfl)
      refine AW.again hK (i + 1, acc ++ [v], q.drop 8) ⟨hlt, by rw [show n - (i + 1) = m by omega, hst], fun x hx => hq x (List.mem_of_mem_drop hx), by simp only [List.length_drop]; omega, by simp [hal]⟩ (by simp only; omega)
    · simp only [if_neg h8]
      rw [if_pos (by omega), okL2_err (by omega)]
      refine AW.go ?_ (by simp only [go_sem, ↓reduceIte, ht1] <;> rfl)
      refine AW.condF rfl ?_
      refine AW.go ?_
      refine AW.condT rfl ?_
      refine AW.go ?_
      refine AW.finE (.move rfl (.pv _ .nil)) rfl
  · have hge : n - i = 0 := by simp at hc; omega
    rw [hge, rwN]
    by_cases hqe : q = []
    · subst hqe
      rw [if_pos rfl, okL2_ok]
      refine AW.go ?_
      refine AW.condF rfl ?_
      refine AW.go ?_
      refine AW.finE (.move rfl (.pv _ .nil)) rfl
    · rw [if_neg hqe, okL2_err (by omega)]
      have hq0 : 0 < q.length := by cases q with | nil => exact absurd rfl hqe | cons a r => simp
      have d2 : decide (0 < q.length) = true := decide_eq_true hq0
      have d2i : decide ((q.length : Int) > 0) = true := decide_eq_true (by omega)
      refine AW.go ?_ (by simp only [go_sem, ↓reduceIte, d2, d2i] <;> rfl)
      refine AW.condT rfl ?_
      refine AW.go ?_
      refine AW.finE (.move rfl (.pv _ .nil)) rfl

theorem plain1_fn (l : List Nat) (n : Nat) (hn : n ≤ 65536) (hl : l.length ≤ 2 ^ 40) (hb : ∀ x ∈ l, x < 256) : Fn Try.prog 57 [] [.pv (.sl 1 (bytes l)), .pv (.int .i64 n), .pv (.int .i64 1)]
    (fun rs H' => rs = [.own 42 (u64s (okL2 (rvN n [] l)).1), .pv (.int .i64 (okL2 (rvN n [] l)).2)] ∧ H' = []) := by
  refine Fn.of_body (fn := Try.f57) (n := 44) (res := [.tmp 6, .tmp 7]) (by kernel_rfl) rfl rfl rfl rfl rfl (fun C => ?_)
  have hr : room = 140737488355328 := rfl
  refine AW.go ?_
  refine AW.loopS (fun a : Nat × List Nat × List Nat => ⟨44, [(9, .pv (.int .i64 a.1)), (8, .own 42 (u64s a.2.1)), (2, .pv (.int .i64 1)), (1, .pv (.int .i64 n)), (0, .pv (.sl 1 (bytes a.2.2)))], []⟩) (fun a => a.1 ≤ n ∧ rvN (n - a.1) a.2.1 a.2.2 = rvN n [] l ∧ (∀ x ∈ a.2.2, x < 256) ∧ a.2.2.length ≤ l.length ∧ a.2.1.length = a.1) (fun a => n - a.1) [9, 8, 2, 1, 0] [] (0, [], l) ⟨Nat.zero_le _, rfl, hb, Nat.le_refl _, rfl⟩ ?_
  rintro ⟨i, acc, q⟩ ⟨hi, hrw, hq, hql, hal⟩ K hK
  simp only at hi hrw hq hql hal
  rw [← hrw] at hK ⊢
  refine AW.go ?_
  refine AW.cond rfl (fun hc => ?_) (fun hc => ?_)
  · have hlt : i < n := by simpa using hc
    obtain ⟨m, hm⟩ : ∃ m, n - i = m + 1 := ⟨n - i - 1, by omega⟩
    have hst : rvN (n - i) acc q = if (readV q).2.2 ≠ 0 then ([], (readV q).2.2) else rvN m (acc ++ [(readV q).1]) (q.drop (readV q).2.1) := by rw [hm, rvN]
    rw [hst]
    have ei : IntKind.i64.wrap ((i : Int) + 1) = ((i + 1 : Nat) : Int) := wrap_i64_succ (by omega)
    refine AW.go ?_
    refine AW.callE (fun _ => 0) (refFixed_fn q 8 (by omega) (by omega) hq) (.pv _ (.pv _ .nil)) ?_
    generalize (if 8 ≤ q.length then beN (q.take 8) else 0) = j1
    generalize (if 8 ≤ q.length then q.drop 8 else q) = j2
    generalize (if 8 ≤ q.length then (0 : Int) else 2) = j3
    refine AW.go ?_
    refine AW.condT rfl ?_
    refine AW.go ?_
    refine AW.callE (fun _ => 0) (refVarint_fn q (by omega) hq) (.pv _ .nil) ?_
    have hp2 : ∀ x ∈ q.drop (readV q).2.1, x < 256 := fun x hx => hq x (List.mem_of_mem_drop hx)
    have hpl2 : (q.drop (readV q).2.1).length ≤ l.length := by rw [List.length_drop]; omega
    generalize q.drop (readV q).2.1 = p2 at *
    generalize (readV q).1 = u at *
    generalize (readV q).2.2 = e2 at *
    refine AW.go ?_
    refine AW.cond rfl (fun hc2 => ?_) (fun hc2 => ?_)
    · have he2 : e2 ≠ 0 := by simpa using hc2
      rw [if_pos he2, okL2_err he2]
      refine AW.go ?_
      refine AW.finE (.move rfl (.pv _ .nil)) rfl
    · have he2 : ¬ e2 ≠ 0 := by simpa using hc2
      rw [if_neg he2] at hst ⊢
      have h1 : (i + 1) * 8 ≤ room := by omega
      have h2 : i + 1 ≤ room := by omega
      refine AW.go ?_ (by simp only [go_sem, ↓reduceIte, hal, u64s_one, h1, h2, ei] <;> rfl)
      refine AW.again hK (i + 1, acc ++ [u], p2) ⟨hlt, by rw [show n - (i + 1) = m by omega, hst], hp2, hpl2, by simp [hal]⟩ (by simp only; omega)
  · have hge : n - i = 0 := by simp at hc; omega
    rw [hge, rvN]
    by_cases hqe : q = []
    · subst hqe
      rw [if_pos rfl, okL2_ok]
      refine AW.go ?_
      refine AW.condF rfl ?_
      refine AW.go ?_
      refine AW.finE (.move rfl (.pv _ .nil)) rfl
    · rw [if_neg hqe, okL2_err (by omega)]
      have hq0 : 0 < q.length := by cases q with | nil => exact absurd rfl hqe | cons a r => simp
      have d2 : decide (0 < q.length) = true := decide_eq_true hq0
      have d2i : decide ((q.length : Int) > 0) = true := decide_eq_true (by omega)
      refine AW.go ?_ (by simp only [go_sem, ↓reduceIte, d2, d2i] <;> rfl)
      refine AW.condT rfl ?_
      refine AW.go ?_
      refine AW.finE (.move rfl (.pv _ .nil)) rfl

theorem underI_ok {q : List Nat} {n t : Nat} (h : (underI q n t).2 ≠ 0) : okL2 (underI q n t) = ([], (underI q n t).2) := by unfold okL2; rw [if_neg h]
theorem rdI_zero (l : List Nat) (t : Nat) : rdI l 0 t = ([], if l = [] then 0 else 3) := by
  unfold rdI
  split
  · rfl
  · unfold numI; rw [if_pos rfl]
theorem rdI_one (l : List Nat) (n : Nat) : rdI l n 1 = rvN n [] l := by
  unfold rdI
  rw [if_neg (by omega)]
  unfold numI
  cases n with
  | zero => rfl
  | succ n =>
    rw [if_neg (by omega), rvN]
    split
    · rfl
    · rw [if_pos rfl]; rfl
theorem read08_fn (l : List Nat) (n t : Nat) (hn : n ≤ 65536) (ht : t ≤ 4) (hl : l.length ≤ 2 ^ 40) (hb : ∀ x ∈ l, x < 256) : Fn Try.prog 37 [] [.pv (.sl 1 (bytes l)), .pv (.int .i64 n), .pv (.int .i64 t)]
    (fun rs H' => rs = [.own 42 (u64s (okL2 (rdI l n t)).1), .pv (.int .i64 (okL2 (rdI l n t)).2)] ∧ H' = []) := by
  refine Fn.of_body (fn := Try.f37) (n := 69) (res := [.tmp 6, .tmp 7]) (by kernel_rfl) rfl rfl rfl rfl rfl (fun C => ?_)
  have hr : room = 140737488355328 := rfl
  refine AW.go ?_
  refine AW.cond rfl (fun hc => ?_) (fun hc => ?_)
  · have h1 : t ≤ 1 := by simp at hc; omega
    rcases Nat.lt_or_ge t 1 with h0 | h0
    · have ht0 : t = 0 := by omega
      have hrd : rdI l n t = rwN n [] l := by unfold rdI; rw [if_pos ht0]
      rw [hrd]
      refine AW.go ?_
      refine AW.callE (fun _ => 0) (plain0_fn l n hn hl hb t (.inr ht0)) (.pv _ (.pv _ (.pv _ .nil))) ?_
      refine AW.go ?_
      refine AW.finE (.move rfl (.pv _ .nil)) rfl
    · have ht1 : t = 1 := by omega
      subst ht1
      rw [rdI_one]
      refine AW.go ?_
      refine AW.callE (fun _ => 0) (plain1_fn l n hn hl hb) (.pv _ (.pv _ (.pv _ .nil))) ?_
      refine AW.go ?_
      refine AW.finE (.move rfl (.pv _ .nil)) rfl
  have h1 : ¬ t ≤ 1 := by simp at hc; omega
  refine AW.go ?_
  refine AW.cond rfl (fun hc => ?_) (fun hc => ?_)
  · have h0 : n = 0 := by simpa using hc
    subst h0
    have hpl := plain0_fn l 0 (by omega) hl hb t (.inl rfl)
    have hrw : rwN 0 [] l = rdI l 0 t := by rw [rdI_zero]; rfl
    rw [hrw] at hpl
    refine AW.go ?_
    refine AW.callE (fun _ => 0) hpl (.pv _ (.pv _ (.pv _ .nil))) ?_
    refine AW.go ?_
    refine AW.finE (.move rfl (.pv _ .nil)) rfl
  have h0 : ¬ n = 0 := by simpa using hc
  have hrd : rdI l n t = if (readV l).2.2 ≠ 0 then ([], (readV l).2.2) else ((readV l).1 :: (underI (l.drop (readV l).2.1) (n - 1) t).1, (underI (l.drop (readV l).2.1) (n - 1) t).2) := by
    unfold rdI numI
    rw [if_neg (by omega), if_neg h0]
    congr 1
    rw [if_neg (by omega)]
  rw [hrd]
  refine AW.go ?_
  refine AW.callE (fun _ => 0) (refVarint_fn l (by omega) hb) (.pv _ .nil) ?_
  have hq : ∀ x ∈ l.drop (readV l).2.1, x < 256 := fun x hx => hb x (List.mem_of_mem_drop hx)
  have hql : (l.drop (readV l).2.1).length ≤ 2 ^ 40 := by rw [List.length_drop]; omega
  generalize l.drop (readV l).2.1 = q at *
  generalize (readV l).1 = v at *
  generalize (readV l).2.2 = e at *
  refine AW.go ?_
  refine AW.cond rfl (fun hc => ?_) (fun hc => ?_)
  · have he : e ≠ 0 := by simpa using hc
    rw [if_pos he, okL2_err he]
    refine AW.go ?_
    refine AW.finE (.move rfl (.pv _ .nil)) rfl
  have he : ¬ e ≠ 0 := by simpa using hc
  rw [if_neg he]
  have en1 : IntKind.i64.wrap ((n : Int) - 1) = ((n - 1 : Nat) : Int) := by rw [wrap_i64_of (by omega) (by omega)]; omega
  have hul := (underI_inv (n - 1) t hq).1
  refine AW.go ?_
  refine AW.joinS (fun _ : Unit => ⟨69, [(11, .own 42 (u64s (underI q (n - 1) t).1)), (10, .pv (.int .i64 (underI q (n - 1) t).2)), (8, .pv (.int .u64 v))], []⟩) (fun _ => True) [11, 10, 8] [] ?_ ?_
  · intro K hK
    refine AW.cond rfl (fun hc => ?_) (fun hc => ?_)
    · have h2 : t = 2 := by simp at hc; omega
      have hu : underI q (n - 1) t = unF q (n - 1) := by unfold underI; rw [if_pos h2]
      refine AW.go ?_ (by simp only [go_sem, ↓reduceIte, en1] <;> rfl)
      refine AW.callE (fun _ => 0) (refUnpack_fn q (n - 1) (by omega) hql hq) (.pv _ (.pv _ .nil)) ?_
      refine AW.go ?_
      refine AW.meet hK () trivial (by simp only [go_sem, ↓reduceIte]) (by simp only [go_sem, ↓reduceIte, hu] <;> rfl)
    have h2 : ¬ t = 2 := by simp at hc; omega
    refine AW.go ?_
    refine AW.cond rfl (fun hc => ?_) (fun hc => ?_)
    · have h3 : t = 3 := by simp at hc; omega
      have hu : underI q (n - 1) t = decS q (n - 1) := by unfold underI; rw [if_neg h2, if_pos h3]
      refine AW.go ?_ (by simp only [go_sem, ↓reduceIte, en1] <;> rfl)
      refine AW.callE (fun _ => 0) (refSimpleDec_fn q (n - 1) (by omega) hql hq) (.pv _ (.pv _ .nil)) ?_
      refine AW.go ?_
      refine AW.meet hK () trivial (by simp only [go_sem, ↓reduceIte]) (by simp only [go_sem, ↓reduceIte, hu] <;> rfl)
    · have h3 : ¬ t = 3 := by simp at hc; omega
      have hu : underI q (n - 1) t = decR q (n - 1) := by unfold underI; rw [if_neg h2, if_neg h3]
      refine AW.go ?_ (by simp only [go_sem, ↓reduceIte, en1] <;> rfl)
      refine AW.callE (fun _ => 0) (refRunsDec_fn q (n - 1) (by omega) hql hq) (.pv _ (.pv _ .nil)) ?_
      refine AW.go ?_
      refine AW.meet hK () trivial (by simp only [go_sem, ↓reduceIte]) (by simp only [go_sem, ↓reduceIte, hu] <;> rfl)
  rintro _ -
  generalize underI q (n - 1) t = r at *
  obtain ⟨rb, re⟩ := r
  simp only at hul ⊢
  refine AW.go ?_
  refine AW.cond rfl (fun hc => ?_) (fun hc => ?_)
  · have he : re ≠ 0 := by simpa using hc
    rw [okL2_err he]
    refine AW.go ?_
    refine AW.finE (.move rfl (.pv _ .nil)) rfl
  · have he : re = 0 := by simpa using hc
    subst he
    rw [okL2_ok]
    have h2 : (1 + rb.length) * 8 ≤ room := by omega
    have h3 : 1 + rb.length ≤ room := by omega
    refine AW.go ?_ (by simp only [go_sem, ↓reduceIte, u64s_one, List.length_cons, List.length_nil, Nat.zero_add, List.cons_append, List.nil_append, h2, h3] <;> rfl)
    refine AW.finE (.move rfl (.pv _ .nil)) rfl
end Go.Ck

set_option linter.unusedVariables false
set_option maxRecDepth 10000
set_option maxHeartbeats 1000000
namespace Go.Ck
open Go.Proofs

theorem refDecI_fn (b : List Nat) (w : Int) (hl : b.length ≤ 2 ^ 40) (hb : ∀ x ∈ b, x < 256) : Fn Try.prog 17 [] [.pv (.sl 1 (bytes b)), .pv (.int .i64 w)]
    (fun rs H' => rs = [.own 3 (ints (decI b w).1), .pv (.int .i64 (decI b w).2)] ∧ H' = []) := by
  refine Fn.of_body (fn := Try.f17) (n := 84) (res := [.tmp 4, .tmp 5]) (by kernel_rfl) rfl rfl rfl rfl rfl (fun C => ?_)
  have hr : room = 140737488355328 := rfl
  unfold decI
  by_cases hw : w < 0 ∨ 65536 < w
  · rw [if_pos hw]
    by_cases h0 : w < 0
    · have d0 : decide (w < 0) = true := decide_eq_true h0
      refine AW.gg ?_ (by simp only [go_sem, ↓reduceIte, d0] <;> rfl)
      refine AW.condT rfl ?_
      refine AW.go ?_
      refine AW.finE (.move rfl (.pv _ .nil)) rfl
    · have d0 : decide (w < 0) = false := decide_eq_false h0
      have d5 : decide (w > 65536) = true := decide_eq_true (by omega)
      have d5' : decide (65536 < w) = true := decide_eq_true (by omega)
      refine AW.gg ?_ (by simp only [go_sem, ↓reduceIte, d0, d5, d5'] <;> rfl)
      refine AW.condT rfl ?_
      refine AW.go ?_
      refine AW.finE (.move rfl (.pv _ .nil)) rfl
  rw [if_neg hw]
  obtain ⟨n, rfl⟩ : ∃ n : Nat, w = n := ⟨w.toNat, by omega⟩
  have hn : n ≤ 65536 := by omega
  rw [Int.toNat_natCast]
  have d5 : decide ((n : Int) > 65536) = false := decide_eq_false (by omega)
  have d5' : decide ((65536 : Int) < (n : Int)) = false := decide_eq_false (by omega)
  refine AW.gg ?_ (by simp only [go_sem, ↓reduceIte, d5, d5'] <;> rfl)
  refine AW.condF rfl ?_
  cases b with
  | nil =>
    refine AW.go ?_
    refine AW.condT rfl ?_
    refine AW.go ?_
    refine AW.finE (.move rfl (.pv _ .nil)) rfl
  | cons t l =>
    have htb := hb t (by simp)
    have hbl : ∀ x ∈ l, x < 256 := fun x hx => hb x (by simp [hx])
    simp only [List.length_cons] at hl
    have e0 : (((t :: l).length : Int) == 0) = false := by simp; omega
    have hg0 := bytes_get0 t l
    have ec : IntKind.i64.wrap ((t : Nat) : Int) = (t : Int) := wrap_i64_nat (by omega)
    refine AW.go ?_ (by simp only [go_sem, ↓reduceIte, e0] <;> rfl)
    refine AW.condF rfl ?_
    refine AW.go ?_ (by simp only [go_sem, ↓reduceIte, hg0, ec] <;> rfl)
    simp only [decI1]
    refine AW.cond rfl (fun hc => ?_) (fun hc => ?_)
    · have h5 : 5 ≤ t := by simp at hc; omega
      simp only [if_pos h5]
      refine AW.go ?_
      refine AW.finE (.move rfl (.pv _ .nil)) rfl
    have h5 : ¬ 5 ≤ t := by simp at hc; omega
    simp only [if_neg h5]
    have hinv := rdI_inv n t hbl
    have v1 : (1 : Int) ≤ ((l.length + 1 : Nat) : Int) := by omega
    have v2 : (((l.length + 1 : Nat) : Int) - 1).toNat = l.length := by omega
    have v3 : ((bytes (t :: l)).drop 1).take l.length = bytes l := by
      show (bytes l).take l.length = bytes l
      rw [List.take_of_length_le (by rw [bytes_length]; exact Nat.le_refl _)]
    refine AW.go ?_ (by simp only [go_sem, ↓reduceIte, List.length_cons, v1, v2, List.take_length] <;> rfl)
    refine AW.callE (fun _ => 0) (read08_fn l n t hn (by omega) (by omega) hbl) (.pv _ (.pv _ (.pv _ .nil))) ?_
    refine AW.freeze (p := .part 34 0) (by simp only [go_sem, ↓reduceIte, freeze, freezeO] <;> rfl) ?_
    unfold decI0
    have hvr := valI_r (rdI l n t).1 t hinv.2
    generalize rdI l n t = r at *
    obtain ⟨z, e⟩ := r
    obtain ⟨i1, i2⟩ := hinv
    simp only at hvr i1 i2 ⊢
    by_cases he : e ≠ 0
    · rw [okL2_err he]
      simp only [if_pos he]
      have heb : (e != 0) = true := by simpa using he
      refine AW.go ?_ (by simp only [go_sem, ↓reduceIte, heb] <;> rfl)
      refine AW.condT rfl ?_
      refine AW.go ?_
      refine AW.finE (.move rfl (.pv _ .nil)) rfl
    have he : e = 0 := by simpa using he
    subst he
    rw [okL2_ok]
    simp only [ne_eq, not_true_eq_false, if_false]
    refine AW.go ?_
    refine AW.condF rfl ?_
    refine AW.go ?_
    refine AW.loopS (fun i : Nat => ⟨84, [(10, .pv (.int .i64 i)), (9, .own 3 (ints ((z.take i).map (if t = 0 then i64of else zag)))), (7, .pv (.sl 1 (u64s z))), (6, .pv (.int .i64 t)), (0, .pv (.sl 1 (bytes (t :: l))))], []⟩) (fun i => i ≤ z.length) (fun i => z.length - i) [10, 9, 7, 6, 0] [] 0 (Nat.zero_le _) ?_
    rintro i hi K hK
    refine AW.go ?_
    refine AW.cond rfl (fun hc2 => ?_) (fun hc2 => ?_)
    · have hlt : i < z.length := by simpa using hc2
      have hget := u64s_get hlt
      have hti : (z.take (i + 1)).map (if t = 0 then i64of else zag) = (z.take i).map (if t = 0 then i64of else zag) ++ [(if t = 0 then i64of else zag) z[i]] := by rw [← List.map_singleton, ← List.map_append]; congr 1; simp
      have hxx := i2 _ (List.getElem_mem hlt)
      generalize z[i] = x at *
      have ei : IntKind.i64.wrap ((i : Int) + 1) = ((i + 1 : Nat) : Int) := wrap_i64_succ (by omega)
      have hml : ((z.take i).map (if t = 0 then i64of else zag)).length = i := by simp; omega
      have h1 : (i + 1) * 8 ≤ room := by omega
      have h2 : i + 1 ≤ room := by omega
      generalize (z.take i).map (if t = 0 then i64of else zag) = m at *
      refine AW.go ?_
      refine AW.cond rfl (fun hc3 => ?_) (fun hc3 => ?_)
      · have h0 : t = 0 := by simpa using hc3
        have hg : (if t = 0 then i64of else zag) x = i64of x := by rw [if_pos h0]
        rw [hg] at hti
        have hdv := i64of_def x
        refine AW.go ?_ (by simp only [go_sem, ↓reduceIte, hget, hlt, hdv, hml, ints_one, h1, h2, ← hti, ei] <;> rfl)
        refine AW.again hK (i + 1) hlt (by omega)
      · have h0 : ¬ t = 0 := by simpa using hc3
        have hg : (if t = 0 then i64of else zag) x = zag x := by rw [if_neg h0]
        rw [hg] at hti
        refine AW.go ?_ (by simp only [go_sem, ↓reduceIte, hget, hlt] <;> rfl)
        refine AW.callE (fun _ => 0) (refZag_fn x hxx) (.pv _ .nil) ?_
        refine AW.go ?_ (by simp only [go_sem, ↓reduceIte, hml, ints_one, h1, h2, ← hti, ei] <;> rfl)
        refine AW.again hK (i + 1) hlt (by omega)
    have hge : ¬ i < z.length := by simpa using hc2
    rw [List.take_of_length_le (by omega)]
    clear hK hc2
    refine AW.go ?_
    refine AW.joinS (fun _ : Unit => ⟨84, [(9, .own 3 (ints (valI z t))), (0, .pv (.sl 1 (bytes (t :: l))))], []⟩) (fun _ => True) [9, 0] [] ?_ ?_
    · intro K hK
      refine AW.cond rfl (fun hc2 => ?_) (fun hc2 => ?_)
      · have h0 : ¬ t = 0 := by simp at hc2; omega
        have hva : valI z t = sumS (z.map zag) (oft t) := by unfold valI; rw [if_neg h0]
        have hg : (if t = 0 then i64of else zag) = zag := if_neg h0
        rw [hg]
        have hml : (z.map zag).length = z.length := by simp
        refine AW.go ?_
        refine AW.joinS (fun _ : Unit => ⟨84, [(11, .pv (.int .i64 (oft t : Nat))), (9, .own 3 (ints (z.map zag))), (0, .pv (.sl 1 (bytes (t :: l))))], []⟩) (fun _ => True) [11, 9, 0] [] ?_ ?_
        · intro K2 hK2
          refine AW.cond rfl (fun hc3 => ?_) (fun hc3 => ?_)
          · have h3 : 3 ≤ t := by simp at hc3; omega
            have ho : ((oft t : Nat) : Int) = 2 := by unfold oft; rw [if_neg h0, if_pos (by omega)]; rfl
            refine AW.go ?_
            refine AW.meet hK2 () trivial (by simp only [go_sem, ↓reduceIte]) (by simp only [go_sem, ↓reduceIte, ho] <;> rfl)
          · have h3 : ¬ 3 ≤ t := by simp at hc3; omega
            have ho : ((oft t : Nat) : Int) = 1 := by unfold oft; rw [if_neg h0, if_neg (by omega)]; rfl
            refine AW.go ?_
            refine AW.meet hK2 () trivial (by simp only [go_sem, ↓reduceIte]) (by simp only [go_sem, ↓reduceIte, ho] <;> rfl)
        rintro _ -
        refine AW.go ?_
        refine AW.callE (fun _ => 0) (refSum_fn (z.map zag) (oft t) (oft_le t) (by omega)) (.lend rfl co_3 (.pv _ .nil)) ?_
        refine AW.go ?_
        refine AW.meet hK () trivial (by simp only [go_sem, ↓reduceIte]) (by simp only [go_sem, ↓reduceIte, hva] <;> rfl)
      · have h0 : t = 0 := by simp at hc2; omega
        have hva : valI z t = z.map i64of := by unfold valI; rw [if_pos h0]
        have hg : (if t = 0 then i64of else zag) = i64of := if_pos h0
        rw [hg]
        refine AW.go ?_
        refine AW.meet hK () trivial (by simp only [go_sem, ↓reduceIte]) (by simp only [go_sem, ↓reduceIte, hva] <;> rfl)
    rintro _ -
    generalize valI z t = xs at *
    have hel := encI_room hvr
    refine AW.go ?_
    refine AW.callE (fun _ => 0) (refEncI_fn xs hvr) (.lend rfl co_3 .nil) ?_
    refine AW.go ?_
    refine AW.callE (fun _ => 0) (ref01Same_fn (encI xs).1 (t :: l) (by omega)) (.lend rfl co_5 (.pv _ .nil)) ?_
    by_cases hq : (encI xs).1 = t :: l
    · rw [decide_eq_true hq]
      simp only [if_pos hq]
      refine AW.go ?_
      refine AW.condF rfl ?_
      refine AW.go ?_
      refine AW.finE (.move rfl (.pv _ .nil)) rfl
    · rw [decide_eq_false hq]
      simp only [if_neg hq]
      refine AW.go ?_
      refine AW.condT rfl ?_
      refine AW.go ?_
      refine AW.finE (.move rfl (.pv _ .nil)) rfl
end Go.Ck

set_option linter.unusedVariables false
namespace Go.Ck
theorem awakeI_enc : encI [10, 20, 30, 40] = ([2, 20, 20, 0], 0) := by decide +kernel
theorem awakeI_dec : decI [2, 20, 20, 0] 4 = ([10, 20, 30, 40], 0) := by decide +kernel
end Go.Ck
namespace Go.Ck
theorem valI_len (z : List Nat) (t : Nat) : (valI z t).length = z.length := by
  unfold valI
  split
  · simp
  · rw [sumS_len, List.length_map]
theorem decI_len {b : List Nat} (hb : ∀ x ∈ b, x < 256) (n : Int) : (decI b n).1.length ≤ 70000 := by
  unfold decI
  split
  · simp
  · unfold decI1
    split
    · simp
    · split
      · simp
      · rename_i t l h2
        unfold decI0
        have := (rdI_inv (l := l) n.toNat t (fun x hx => hb x (by simp [hx]))).1
        split
        · simp
        · split
          · simp only [valI_len]; omega
          · simp
end Go.Ck

set_option linter.unusedVariables false
set_option maxRecDepth 10000
set_option maxHeartbeats 1000000
namespace Go.Ck
open Go.Proofs

theorem awake08_fn : Fn Try.prog 10 [] [] (fun rs H' => rs = [.pv (.bool true)] ∧ H' = []) := by
  refine Fn.of_body (fn := Try.f10) (n := 31) (res := [.tmp 0]) (by kernel_rfl) rfl rfl rfl rfl rfl (fun C => ?_)
  have b1 : [PV.int .u8 2, .int .u8 20, .int .u8 20, .int .u8 0] = bytes [2, 20, 20, 0] := rfl
  have b2 : [PV.int .i64 10, .int .i64 20, .int .i64 30, .int .i64 40] = ints [10, 20, 30, 40] := rfl
  refine AW.go ?_ (by simp only [go_sem, ↓reduceIte, b1, b2] <;> rfl)
  refine AW.callE (fun _ => 0) (encI_fn [10, 20, 30, 40] (by intro x hx; simp at hx; unfold i64r; omega)) (.lend rfl co_3 .nil) ?_
  rw [awakeI_enc]
  refine AW.go ?_ (by simp only [go_sem, ↓reduceIte, b1] <;> rfl)
  refine AW.callE (fun _ => 0) (decI_fn [2, 20, 20, 0] 4 (by decide) (by decide)) (.lend rfl co_5 (.pv _ .nil)) ?_
  rw [awakeI_dec]
  refine AW.gg ?_ (by simp only [go_sem, ↓reduceIte, b1] <;> rfl)
  refine AW.guardT rfl rfl ?_
  refine AW.callE (fun _ => 0) (ref01Same_fn [2, 20, 20, 0] [2, 20, 20, 0] (by decide)) (.lend rfl co_5 (.lend rfl co_5 .nil)) ?_
  refine AW.gg ?_ (by simp only [go_sem, ↓reduceIte, b2, decide_true] <;> rfl)
  refine AW.guardT rfl rfl ?_
  refine AW.callE (fun _ => 0) (ref04Same_fn [10, 20, 30, 40] [10, 20, 30, 40] (by decide)) (.lend rfl co_3 (.lend rfl co_3 .nil)) ?_
  refine AW.gg ?_ (by simp only [go_sem, ↓reduceIte, decide_true] <;> rfl)
  refine AW.finE (.pv _ .nil) rfl

theorem law08ways_fn (xs : List Int) (w : Int) (hx : ∀ x ∈ xs, i64r x) : Fn Try.prog 3 [] [.pv (.sl 1 (ints xs)), .pv (.int .i64 w)] (fun rs H' => rs = [.pv (.bool true)] ∧ H' = []) := by
  refine Fn.of_body (fn := Try.f3) (n := 43) (res := [.tmp 4]) (by kernel_rfl) rfl rfl rfl rfl rfl (fun C => ?_)
  have ee : ∀ e : Int, (e == e) = true := fun e => by simp
  refine AW.go ?_
  refine AW.callE (fun _ => 0) awake08_fn .nil ?_
  by_cases h1 : 300 < xs.length
  · have d1 : decide ((xs.length : Int) > 300) = true := decide_eq_true (by omega)
    by_cases h2 : xs.length ≤ 65536
    · have d2 : decide ((xs.length : Int) ≤ 65536) = true := decide_eq_true (by omega)
      refine AW.gg ?_ (by simp only [go_sem, ↓reduceIte, d1, d2] <;> rfl)
      refine AW.condT rfl ?_
      refine AW.go ?_
      refine AW.finE (.pv _ .nil) rfl
    have d2 : decide ((xs.length : Int) ≤ 65536) = false := decide_eq_false (by omega)
    refine AW.gg ?_ (by simp only [go_sem, ↓reduceIte, d1, d2] <;> rfl)
    refine AW.condF rfl ?_
    refine AW.go ?_
    refine AW.callE (fun _ => 0) (wayIn_fn xs w hx) (.pv _ (.pv _ .nil)) ?_
    refine AW.go ?_
    refine AW.callE (fun _ => 0) (refWayIn_fn xs w hx) (.pv _ (.pv _ .nil)) ?_
    refine AW.gg ?_ (by simp only [go_sem, ↓reduceIte, ee] <;> rfl)
    refine AW.guardT rfl rfl ?_
    refine AW.callE (fun _ => 0) (ref01Same_fn (wayI xs w).1 (wayI xs w).1 (Nat.le_trans (wayI_len w hx) (by decide))) (.lend rfl co_5 (.lend rfl co_5 .nil)) ?_
    refine AW.gg ?_ (by simp only [go_sem, ↓reduceIte, decide_true] <;> rfl)
    refine AW.finE (.pv _ .nil) rfl
  · have d1 : decide ((xs.length : Int) > 300) = false := decide_eq_false (by omega)
    refine AW.gg ?_ (by simp only [go_sem, ↓reduceIte, d1] <;> rfl)
    refine AW.condF rfl ?_
    refine AW.go ?_
    refine AW.callE (fun _ => 0) (wayIn_fn xs w hx) (.pv _ (.pv _ .nil)) ?_
    refine AW.go ?_
    refine AW.callE (fun _ => 0) (refWayIn_fn xs w hx) (.pv _ (.pv _ .nil)) ?_
    refine AW.gg ?_ (by simp only [go_sem, ↓reduceIte, ee] <;> rfl)
    refine AW.guardT rfl rfl ?_
    refine AW.callE (fun _ => 0) (ref01Same_fn (wayI xs w).1 (wayI xs w).1 (Nat.le_trans (wayI_len w hx) (by decide))) (.lend rfl co_5 (.lend rfl co_5 .nil)) ?_
    refine AW.gg ?_ (by simp only [go_sem, ↓reduceIte, decide_true] <;> rfl)
    refine AW.finE (.pv _ .nil) rfl

theorem law08encodes_fn (xs : List Int) (hx : ∀ x ∈ xs, i64r x) : Fn Try.prog 4 [] [.pv (.sl 1 (ints xs))] (fun rs H' => rs = [.pv (.bool true)] ∧ H' = []) := by
  refine Fn.of_body (fn := Try.f4) (n := 39) (res := [.tmp 2]) (by kernel_rfl) rfl rfl rfl rfl rfl (fun C => ?_)
  have ee : ∀ e : Int, (e == e) = true := fun e => by simp
  refine AW.go ?_
  refine AW.callE (fun _ => 0) awake08_fn .nil ?_
  by_cases h1 : 300 < xs.length
  · have d1 : decide ((xs.length : Int) > 300) = true := decide_eq_true (by omega)
    by_cases h2 : xs.length ≤ 65536
    · have d2 : decide ((xs.length : Int) ≤ 65536) = true := decide_eq_true (by omega)
      refine AW.gg ?_ (by simp only [go_sem, ↓reduceIte, d1, d2] <;> rfl)
      refine AW.condT rfl ?_
      refine AW.go ?_
      refine AW.finE (.pv _ .nil) rfl
    have d2 : decide ((xs.length : Int) ≤ 65536) = false := decide_eq_false (by omega)
    refine AW.gg ?_ (by simp only [go_sem, ↓reduceIte, d1, d2] <;> rfl)
    refine AW.condF rfl ?_
    refine AW.go ?_
    refine AW.callE (fun _ => 0) (encI_fn xs hx) (.pv _ .nil) ?_
    refine AW.go ?_
    refine AW.callE (fun _ => 0) (refEncI_fn xs hx) (.pv _ .nil) ?_
    refine AW.gg ?_ (by simp only [go_sem, ↓reduceIte, ee] <;> rfl)
    refine AW.guardT rfl rfl ?_
    refine AW.callE (fun _ => 0) (ref01Same_fn (encI xs).1 (encI xs).1 (Nat.le_trans (encI_room hx) (by decide))) (.lend rfl co_5 (.lend rfl co_5 .nil)) ?_
    refine AW.gg ?_ (by simp only [go_sem, ↓reduceIte, decide_true] <;> rfl)
    refine AW.finE (.pv _ .nil) rfl
  · have d1 : decide ((xs.length : Int) > 300) = false := decide_eq_false (by omega)
    refine AW.gg ?_ (by simp only [go_sem, ↓reduceIte, d1] <;> rfl)
    refine AW.condF rfl ?_
    refine AW.go ?_
    refine AW.callE (fun _ => 0) (encI_fn xs hx) (.pv _ .nil) ?_
    refine AW.go ?_
    refine AW.callE (fun _ => 0) (refEncI_fn xs hx) (.pv _ .nil) ?_
    refine AW.gg ?_ (by simp only [go_sem, ↓reduceIte, ee] <;> rfl)
    refine AW.guardT rfl rfl ?_
    refine AW.callE (fun _ => 0) (ref01Same_fn (encI xs).1 (encI xs).1 (Nat.le_trans (encI_room hx) (by decide))) (.lend rfl co_5 (.lend rfl co_5 .nil)) ?_
    refine AW.gg ?_ (by simp only [go_sem, ↓reduceIte, decide_true] <;> rfl)
    refine AW.finE (.pv _ .nil) rfl

theorem law08decodes_fn (l : List Nat) (n : Int) (hb : ∀ x ∈ l, x < 256) : Fn Try.prog 5 [] [.pv (.sl 1 (bytes l)), .pv (.int .i64 n)] (fun rs H' => rs = [.pv (.bool true)] ∧ H' = []) := by
  refine Fn.of_body (fn := Try.f5) (n := 46) (res := [.tmp 4]) (by kernel_rfl) rfl rfl rfl rfl rfl (fun C => ?_)
  have ee : ∀ e : Int, (e == e) = true := fun e => by simp
  have hr : room = 140737488355328 := rfl
  refine AW.go ?_
  refine AW.callE (fun _ => 0) awake08_fn .nil ?_
  by_cases h1 : 300 < l.length
  · have d1 : decide ((l.length : Int) > 300) = true := decide_eq_true (by omega)
    refine AW.gg ?_ (by simp only [go_sem, ↓reduceIte, d1] <;> rfl)
    refine AW.condT rfl ?_
    refine AW.go ?_
    refine AW.finE (.pv _ .nil) rfl
  have d1 : decide ((l.length : Int) > 300) = false := decide_eq_false (by omega)
  have hlen : (decI l n).1.length ≤ room := Nat.le_trans (decI_len hb n) (by decide)
  by_cases h2 : 600 < n
  · have d2 : decide (n > 600) = true := decide_eq_true (by omega)
    by_cases h3 : n ≤ 65536
    · have d3 : decide (n ≤ 65536) = true := decide_eq_true h3
      refine AW.gg ?_ (by simp only [go_sem, ↓reduceIte, d1, d2, d3] <;> rfl)
      refine AW.condT rfl ?_
      refine AW.go ?_
      refine AW.finE (.pv _ .nil) rfl
    have d3 : decide (n ≤ 65536) = false := decide_eq_false h3
    refine AW.gg ?_ (by simp only [go_sem, ↓reduceIte, d1, d2, d3] <;> rfl)
    refine AW.condF rfl ?_
    refine AW.go ?_
    refine AW.callE (fun _ => 0) (decI_fn l n (by omega) hb) (.pv _ (.pv _ .nil)) ?_
    refine AW.go ?_
    refine AW.callE (fun _ => 0) (refDecI_fn l n (by omega) hb) (.pv _ (.pv _ .nil)) ?_
    refine AW.gg ?_ (by simp only [go_sem, ↓reduceIte, ee] <;> rfl)
    refine AW.guardT rfl rfl ?_
    refine AW.callE (fun _ => 0) (ref04Same_fn (decI l n).1 (decI l n).1 hlen) (.lend rfl co_3 (.lend rfl co_3 .nil)) ?_
    refine AW.gg ?_ (by simp only [go_sem, ↓reduceIte, decide_true] <;> rfl)
    refine AW.finE (.pv _ .nil) rfl
  · have d2 : decide (n > 600) = false := decide_eq_false (by omega)
    refine AW.gg ?_ (by simp only [go_sem, ↓reduceIte, d1, d2] <;> rfl)
    refine AW.condF rfl ?_
    refine AW.go ?_
    refine AW.callE (fun _ => 0) (decI_fn l n (by omega) hb) (.pv _ (.pv _ .nil)) ?_
    refine AW.go ?_
    refine AW.callE (fun _ => 0) (refDecI_fn l n (by omega) hb) (.pv _ (.pv _ .nil)) ?_
    refine AW.gg ?_ (by simp only [go_sem, ↓reduceIte, ee] <;> rfl)
    refine AW.guardT rfl rfl ?_
    refine AW.callE (fun _ => 0) (ref04Same_fn (decI l n).1 (decI l n).1 hlen) (.lend rfl co_3 (.lend rfl co_3 .nil)) ?_
    refine AW.gg ?_ (by simp only [go_sem, ↓reduceIte, decide_true] <;> rfl)
    refine AW.finE (.pv _ .nil) rfl
end Go.Ck
