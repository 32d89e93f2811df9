/- What is proved here: parts of the proofs of this seat's statements (a verified evaluator for calls over pure values, its laws, and contracts of functions). No condition. -/
import Derived.Test.YtnbkoemhcpjceaaKd
import Derived.Test.YtnbkoemhcpjceaaKc
set_option linter.all false
set_option linter.unusedVariables false
set_option maxRecDepth 10000
set_option maxHeartbeats 1000000
namespace Go.Ck
open Go.Proofs

theorem refWayIn_fn (xs : List Int) (w : Int) (hr64 : ∀ x ∈ xs, i64r x) : Fn Try.prog 12 [] [.pv (.sl 1 (ints xs)), .pv (.int .i64 w)]
    (fun rs H' => rs = [.own 5 (bytes (wayI xs w).1), .pv (.int .i64 (wayI xs w).2)] ∧ H' = []) := by
  refine Fn.of_body (fn := Try.f12) (n := 86) (res := [.tmp 4, .tmp 5]) (by kernel_rfl) rfl rfl rfl rfl rfl (fun C => ?_)
  have hr : room = 140737488355328 := rfl
  unfold wayI
  by_cases hw : w < 0 ∨ 5 ≤ w
  · rw [if_pos hw]
    by_cases h0 : w < 0
    · have d0 : decide (w < 0) = true := decide_eq_true h0
      refine AW.gg ?_ (by simp only [go_sem, ↓reduceIte, d0] <;> rfl)
      refine AW.condT rfl ?_
      refine AW.go ?_
      refine AW.finE (.move rfl (.pv _ .nil)) rfl
    · have d0 : decide (w < 0) = false := decide_eq_false h0
      have d5 : decide (w > 4) = true := decide_eq_true (by omega)
      have d5' : decide (4 < w) = true := decide_eq_true (by omega)
      refine AW.gg ?_ (by simp only [go_sem, ↓reduceIte, d0, d5, d5'] <;> rfl)
      refine AW.condT rfl ?_
      refine AW.go ?_
      refine AW.finE (.move rfl (.pv _ .nil)) rfl
  rw [if_neg hw]
  obtain ⟨t, rfl⟩ : ∃ t : Nat, w = t := ⟨w.toNat, by omega⟩
  have ht : t < 5 := by omega
  rw [Int.toNat_natCast]
  have d5 : decide ((t : Int) > 4) = false := decide_eq_false (by omega)
  have d5' : decide ((4 : Int) < (t : Int)) = false := decide_eq_false (by omega)
  have d5'' : decide (4 < t) = false := decide_eq_false (by omega)
  refine AW.gg ?_ (by simp only [go_sem, ↓reduceIte, d5, d5', d5''] <;> rfl)
  refine AW.condF rfl ?_
  refine AW.go ?_
  refine AW.cond rfl (fun hc => ?_) (fun hc => ?_)
  · have hl : 65536 < xs.length := by simp at hc; omega
    rw [if_pos hl]
    refine AW.go ?_
    refine AW.finE (.move rfl (.pv _ .nil)) rfl
  have hl : ¬ 65536 < xs.length := by simp at hc; omega
  rw [if_neg hl]
  refine AW.go ?_
  refine AW.cond rfl (fun hc => ?_) (fun hc => ?_)
  · have h0 : xs = [] := by
      have : xs.length = 0 := by simpa using hc
      exact List.length_eq_zero_iff.1 this
    rw [if_pos h0]
    refine AW.go ?_
    refine AW.finE (.move rfl (.pv _ .nil)) rfl
  have h0 : ¬ xs = [] := by rintro rfl; simp at hc
  rw [if_neg h0]
  have hpos : 0 < xs.length := by cases xs with | nil => exact absurd rfl h0 | cons a r => simp
  unfold wayT
  refine AW.go ?_
  refine AW.cond rfl (fun hc => ?_) (fun hc => ?_)
  · have ht0 : t = 0 := by simpa using hc
    rw [if_pos ht0]
    refine AW.go ?_
    refine AW.loopS (fun i : Nat => ⟨86, [(7, .pv (.int .i64 i)), (6, .own 5 (bytes (raw8 (xs.take i)))), (0, .pv (.sl 1 (ints xs)))], []⟩) (fun i => i ≤ xs.length) (fun i => xs.length - i) [7, 6, 0] [] 0 (Nat.zero_le _) ?_
    rintro i hi K hK
    refine AW.go ?_
    refine AW.cond rfl (fun hc2 => ?_) (fun hc2 => ?_)
    · have hlt : i < xs.length := by simpa using hc2
      have hget := ints_get hlt
      have hti : xs.take (i + 1) = xs.take i ++ [xs[i]] := by simp
      have hll := raw8_len (xs.take i)
      have hls := raw8_snoc (xs.take i) xs[i]
      rw [List.length_take] at hll
      rw [← hti] at hls
      generalize xs[i] = x at *
      have eu := u64of_wrap x
      have hu := u64of_lt x
      generalize u64of x = u at *
      have hb8 := beB_len u 8
      have ei : IntKind.i64.wrap ((i : Int) + 1) = ((i + 1 : Nat) : Int) := wrap_i64_succ (by omega)
      have h1 : (raw8 (xs.take i)).length + (beB u 8).length ≤ room := by omega
      refine AW.go ?_ (by simp only [go_sem, ↓reduceIte, hget, eu] <;> rfl)
      refine AW.callE (fun _ => 0) (refFix_fn u 8 hu (by omega)) (.pv _ (.pv _ .nil)) ?_
      refine AW.go ?_ (by simp only [go_sem, ↓reduceIte, h1, ← hls, ei] <;> rfl)
      refine AW.again hK (i + 1) hlt (by omega)
    · have hge : ¬ i < xs.length := by simpa using hc2
      rw [List.take_of_length_le (by omega)]
      refine AW.go ?_
      refine AW.finE (.move rfl (.pv _ .nil)) rfl
  have ht0 : ¬ t = 0 := by simpa using hc
  rw [if_neg ht0]
  unfold zdI
  have hdl := diffS_len xs (oft t)
  have hdr := diffS_r hr64 (oft t)
  have hD := refDiff_fn xs (by omega) (oft t) (oft_le t)
  refine AW.go ?_
  refine AW.joinS (fun _ : Unit => ⟨86, [(8, .pv (.int .i64 (oft t : Nat))), (6, .own 5 (bytes [])), (1, .pv (.int .i64 t)), (0, .pv (.sl 1 (ints xs)))], []⟩) (fun _ => True) [8, 6, 1, 0] [] ?_ ?_
  · intro K hK
    refine AW.cond rfl (fun hc2 => ?_) (fun hc2 => ?_)
    · have h3 : 3 ≤ t := by simp at hc2; omega
      have ho : ((oft t : Nat) : Int) = 2 := by unfold oft; rw [if_neg ht0, if_pos (by omega)]; rfl
      refine AW.go ?_
      refine AW.meet hK () trivial (by simp only [go_sem, ↓reduceIte]) (by simp only [go_sem, ↓reduceIte, ho] <;> rfl)
    · have h3 : ¬ 3 ≤ t := by simp at hc2; omega
      have ho : ((oft t : Nat) : Int) = 1 := by unfold oft; rw [if_neg ht0, if_neg (by omega)]; rfl
      refine AW.go ?_
      refine AW.meet hK () trivial (by simp only [go_sem, ↓reduceIte]) (by simp only [go_sem, ↓reduceIte, ho] <;> rfl)
  rintro _ -
  refine AW.go ?_
  refine AW.callE (fun _ => 0) hD (.pv _ (.pv _ .nil)) ?_
  refine AW.freeze (p := .part 49 0) (by simp only [go_sem, ↓reduceIte, freeze, freezeO] <;> rfl) ?_
  generalize diffS xs (oft t) = d at *
  refine AW.go ?_
  refine AW.callE (fun _ => 0) (zigs_fn d (by omega) hdr) (.pv _ .nil) ?_
  have hzx : ∀ x ∈ d.map zig, x < 2 ^ 64 := by
    intro x hx
    simp only [List.mem_map] at hx
    obtain ⟨y, hy, rfl⟩ := hx
    exact zig_lt (hdr y hy)
  have hml : (d.map zig).length = d.length := by simp
  generalize d.map zig = zz at *
  refine AW.go ?_
  cases zz with
  | nil => simp at hml; omega
  | cons z0 z =>
    have hz0 := hzx z0 (by simp)
    have hzt : ∀ x ∈ z, x < 2 ^ 64 := fun x hx => hzx x (by simp [hx])
    simp only [List.length_cons] at hml
    have hg0 := u64s_get0 z0 z
    have h10 := leb_len10 hz0
    have hzd : (z0 :: z).tail = z := rfl
    have hzh : (z0 :: z).headD 0 = z0 := rfl
    unfold wayZ
    refine AW.cond rfl (fun hc2 => ?_) (fun hc2 => ?_)
    · have ht1 : t = 1 := by simp at hc2; omega
      have htail : tailI z t = (lebs z, 0) := by unfold tailI; rw [if_neg (by omega), if_neg (by omega), if_neg (by omega)]
      have hlz : leb z0 ++ lebs z = lebs (z0 :: z) := (lebs_cons z0 z).symm
      rw [hzd, hzh, htail]
      simp only [ne_eq, not_true_eq_false, if_false, hlz]
      clear hg0 hzd hzh
      have hzl : (z0 :: z).length ≤ 65536 := by simp only [List.length_cons]; omega
      generalize z0 :: z = q at *
      refine AW.go ?_
      refine AW.loopS (fun i : Nat => ⟨86, [(12, .pv (.int .i64 i)), (11, .own 42 (u64s q)), (6, .own 5 (bytes (lebs (q.take i))))], []⟩) (fun i => i ≤ q.length) (fun i => q.length - i) [12, 11, 6] [] 0 (Nat.zero_le _) ?_
      rintro i hi K hK
      refine AW.go ?_
      refine AW.cond rfl (fun hc3 => ?_) (fun hc3 => ?_)
      · have hlt : i < q.length := by simpa using hc3
        have hget := u64s_get hlt
        have hti : q.take (i + 1) = q.take i ++ [q[i]] := by simp
        have hxx := hzx _ (List.getElem_mem hlt)
        have hll := lebs_len (z := q.take i) (fun x hx' => hzx x (List.mem_of_mem_take hx'))
        have hls := lebs_snoc (q.take i) q[i]
        rw [List.length_take] at hll
        rw [← hti] at hls
        generalize q[i] = x at *
        have ei : IntKind.i64.wrap ((i : Int) + 1) = ((i + 1 : Nat) : Int) := wrap_i64_succ (by omega)
        refine AW.go ?_ (by simp only [go_sem, ↓reduceIte, hget, hlt] <;> rfl)
        refine AW.callE (fun _ => 0) (refAppend_fn (lebs (q.take i)) x hxx (by omega)) (.lend rfl co_5 (.pv _ .nil)) ?_
        refine AW.go ?_ (by simp only [go_sem, ↓reduceIte, ← hls, ei] <;> rfl)
        refine AW.again hK (i + 1) hlt (by omega)
      · have hge : ¬ i < q.length := by simpa using hc3
        rw [List.take_of_length_le (by omega)]
        refine AW.go ?_
        refine AW.finE (.move rfl (.pv _ .nil)) rfl
    have ht1 : ¬ t = 1 := by simp at hc2; omega
    refine AW.go ?_ (by simp only [go_sem, ↓reduceIte, hg0] <;> rfl)
    refine AW.callE (fun _ => 0) (refAppend_fn [] z0 hz0 (by simp; omega)) (.nilsP 1 (.pv _ .nil)) ?_
    have v1 : (1 : Int) ≤ ((z.length + 1 : Nat) : Int) := by omega
    have v2 : (((z.length + 1 : Nat) : Int) - 1).toNat = z.length := by omega
    refine AW.go ?_ (by simp only [go_sem, ↓reduceIte, List.nil_append, List.length_cons, v1, v2] <;> rfl)
    have v3 : u64s z = ((u64s (z0 :: z)).drop 1).take z.length := by
      show u64s z = (u64s z).take z.length
      rw [List.take_of_length_le (by rw [u64s_length]; exact Nat.le_refl _)]
    refine AW.callE (fun _ => 0) (other_fn z t (by omega) (by omega) (by omega) hzt) (.lendV rfl rfl v3 (.pv _ .nil)) ?_
    rw [hzd, hzh]
    have htl := tailI_len t hzt (by omega)
    generalize tailI z t = r at *
    obtain ⟨rb, re⟩ := r
    simp only at htl ⊢
    refine AW.go ?_
    refine AW.cond rfl (fun hc3 => ?_) (fun hc3 => ?_)
    · have he : re ≠ 0 := by simpa using hc3
      simp only [if_pos he]
      refine AW.go ?_
      refine AW.finE (.move rfl (.pv _ .nil)) rfl
    · have he : ¬ re ≠ 0 := by simpa using hc3
      simp only [if_neg he]
      have h1 : (leb z0).length + rb.length ≤ room := by omega
      refine AW.go ?_ (by simp only [go_sem, ↓reduceIte, h1] <;> rfl)
      refine AW.finE (.move rfl (.pv _ .nil)) rfl

theorem encI_fn (xs : List Int) (hr64 : ∀ x ∈ xs, i64r x) : Fn Try.prog 14 [] [.pv (.sl 1 (ints xs))]
    (fun rs H' => rs = [.own 5 (bytes (encI xs).1), .pv (.int .i64 (encI xs).2)] ∧ H' = []) := by
  refine Fn.of_body (fn := Try.f14) (n := 44) (res := [.tmp 2, .tmp 3]) (by kernel_rfl) rfl rfl rfl rfl rfl (fun C => ?_)
  have hr : room = 140737488355328 := rfl
  unfold encI
  refine AW.go ?_
  refine AW.cond rfl (fun hc => ?_) (fun hc => ?_)
  · have hl : 65536 < xs.length := by simp at hc; omega
    simp only [if_pos hl]
    refine AW.go ?_
    refine AW.finE (.move rfl (.pv _ .nil)) rfl
  have hl : ¬ 65536 < xs.length := by simp at hc; omega
  simp only [if_neg hl]
  have hinv := bestI_inv hr64
  have hb0 := bestI_zero xs
  refine AW.go ?_
  refine AW.callE (fun _ => 0) (wayIn_fn xs 0 hr64) (.pv _ (.pv _ .nil)) ?_
  refine AW.freeze (p := .part 15 0) (by simp only [go_sem, ↓reduceIte, freeze, freezeO] <;> rfl) ?_
  refine AW.go ?_
  refine AW.loopS (fun w : Nat => ⟨44, [(18, .pv (.int .i64 w)), (6, .pv (.int .i64 ((bestI xs w).1 : Nat))), (4, .pv (.sl 1 (bytes (bestI xs w).2))), (0, .pv (.sl 1 (ints xs)))], []⟩) (fun w => w ≤ 5) (fun w => 5 - w) [18, 6, 4, 0] [] 0 (Nat.zero_le _) ?_ (by simp only [go_sem, ↓reduceIte]) (by simp only [go_sem, ↓reduceIte, hb0] <;> rfl)
  rintro w hw K hK
  refine AW.go ?_
  refine AW.cond rfl (fun hc2 => ?_) (fun hc2 => ?_)
  · have hlt : w < 5 := by simp at hc2; omega
    have hsu := bestI_succ xs w
    rw [stepI] at hsu
    have ei : IntKind.i64.wrap ((w : Int) + 1) = ((w + 1 : Nat) : Int) := wrap_i64_succ (by omega)
    refine AW.go ?_
    refine AW.callE (fun _ => 0) (wayIn_fn xs (w : Int) hr64) (.pv _ (.pv _ .nil)) ?_
    refine AW.freeze (p := .part 24 0) (by simp only [go_sem, ↓reduceIte, freeze, freezeO] <;> rfl) ?_
    generalize wayI xs (w : Int) = r at *
    obtain ⟨rb, re⟩ := r
    simp only at hsu ⊢
    generalize bestI xs w = b at *
    obtain ⟨bt, bb⟩ := b
    simp only at hsu ⊢
    by_cases he : re = 0
    · have eb : (re == 0) = true := by simpa using he
      by_cases hlen : rb.length < bb.length
      · rw [if_pos ⟨he, hlen⟩] at hsu
        have dl : decide (rb.length < bb.length) = true := decide_eq_true hlen
        refine AW.gg ?_ (by simp only [go_sem, ↓reduceIte, eb, dl] <;> rfl)
        refine AW.condT rfl ?_
        refine AW.go ?_ (by simp only [go_sem, ↓reduceIte, ei] <;> rfl)
        refine AW.again hK (w + 1) (by omega) (by omega) (by simp only [go_sem, ↓reduceIte]) (by simp only [go_sem, ↓reduceIte, hsu] <;> rfl)
      · rw [if_neg (fun h => hlen h.2)] at hsu
        have dl : decide (rb.length < bb.length) = false := decide_eq_false hlen
        refine AW.gg ?_ (by simp only [go_sem, ↓reduceIte, eb, dl] <;> rfl)
        refine AW.condF rfl ?_
        refine AW.go ?_ (by simp only [go_sem, ↓reduceIte, ei] <;> rfl)
        refine AW.again hK (w + 1) (by omega) (by omega) (by simp only [go_sem, ↓reduceIte]) (by simp only [go_sem, ↓reduceIte, hsu] <;> rfl)
    · have eb : (re == 0) = false := by simpa using he
      rw [if_neg (fun h => he h.1)] at hsu
      refine AW.gg ?_ (by simp only [go_sem, ↓reduceIte, eb] <;> rfl)
      refine AW.condF rfl ?_
      refine AW.go ?_ (by simp only [go_sem, ↓reduceIte, ei] <;> rfl)
      refine AW.again hK (w + 1) (by omega) (by omega) (by simp only [go_sem, ↓reduceIte]) (by simp only [go_sem, ↓reduceIte, hsu] <;> rfl)
  · have hge : w = 5 := by simp at hc2; omega
    subst hge
    obtain ⟨i1, i2, -⟩ := hinv 5 (Nat.le_refl _)
    generalize bestI xs 5 = b at *
    obtain ⟨bt, bb⟩ := b
    simp only at i1 i2 ⊢
    have eu : IntKind.u8.wrap ((bt : Nat) : Int) = (bt : Nat) := wrap_u8_lt (by omega)
    have h1 : 1 + bb.length ≤ room := by omega
    refine AW.go ?_ (by simp only [go_sem, ↓reduceIte, eu, bytes_one, h1, List.length_cons, List.length_nil, Nat.zero_add, List.cons_append, List.nil_append] <;> rfl)
    refine AW.finE (.move rfl (.pv _ .nil)) rfl

def refB (xs : List Int) (w : Nat) : Int × List Nat := if w = 0 then (-1, []) else (((bestI xs w).1 : Nat), (bestI xs w).2)
theorem wayI_zero {xs : List Int} (h : ¬ 65536 < xs.length) : (wayI xs 0).2 = 0 := by
  unfold wayI
  rw [if_neg (by omega), if_neg h]
  split
  · rfl
  · rfl
theorem refEncI_fn (xs : List Int) (hr64 : ∀ x ∈ xs, i64r x) : Fn Try.prog 15 [] [.pv (.sl 1 (ints xs))]
    (fun rs H' => rs = [.own 5 (bytes (encI xs).1), .pv (.int .i64 (encI xs).2)] ∧ H' = []) := by
  refine Fn.of_body (fn := Try.f15) (n := 42) (res := [.tmp 2, .tmp 3]) (by kernel_rfl) rfl rfl rfl rfl rfl (fun C => ?_)
  have hr : room = 140737488355328 := rfl
  unfold encI
  refine AW.go ?_
  refine AW.cond rfl (fun hc => ?_) (fun hc => ?_)
  · have hl : 65536 < xs.length := by simp at hc; omega
    simp only [if_pos hl]
    refine AW.go ?_
    refine AW.finE (.move rfl (.pv _ .nil)) rfl
  have hl : ¬ 65536 < xs.length := by simp at hc; omega
  simp only [if_neg hl]
  have hinv := bestI_inv hr64
  have hb1 := bestI_one xs
  have hz := wayI_zero hl
  refine AW.go ?_
  refine AW.freeze (p := .slot 5) (by simp only [go_sem, ↓reduceIte, freeze, freezeO] <;> rfl) ?_
  refine AW.loopS (fun w : Nat => ⟨42, [(6, .pv (.int .i64 w)), (4, .pv (.int .i64 (refB xs w).1)), (5, .pv (.sl 1 (bytes (refB xs w).2))), (0, .pv (.sl 1 (ints xs)))], []⟩) (fun w => w ≤ 5) (fun w => 5 - w) [6, 4, 5, 0] [] 0 (Nat.zero_le _) ?_
  rintro w hw K hK
  refine AW.go ?_
  refine AW.cond rfl (fun hc2 => ?_) (fun hc2 => ?_)
  · have hlt : w < 5 := by simp at hc2; omega
    have hsu := bestI_succ xs w
    rw [stepI] at hsu
    have ei : IntKind.i64.wrap ((w : Int) + 1) = ((w + 1 : Nat) : Int) := wrap_i64_succ (by omega)
    have hrs : refB xs (w + 1) = (((bestI xs (w + 1)).1 : Int), (bestI xs (w + 1)).2) := by unfold refB; rw [if_neg (by omega)]
    refine AW.go ?_
    refine AW.callE (fun _ => 0) (refWayIn_fn xs (w : Int) hr64) (.pv _ (.pv _ .nil)) ?_
    refine AW.freeze (p := .part 19 0) (by simp only [go_sem, ↓reduceIte, freeze, freezeO] <;> rfl) ?_
    by_cases hw0 : w = 0
    · subst hw0
      have hr0 : refB xs 0 = (-1, []) := rfl
      rw [hb1] at hrs
      have hc0 : ((0 : Nat) : Int) = 0 := rfl
      rw [hc0]
      generalize wayI xs 0 = r at *
      obtain ⟨rb, re⟩ := r
      simp only at hz hrs ⊢
      subst hz
      refine AW.gg ?_ (by simp only [go_sem, ↓reduceIte, hr0] <;> rfl)
      refine AW.condT rfl ?_
      refine AW.go ?_ (by simp only [go_sem, ↓reduceIte, ei] <;> rfl)
      refine AW.again hK 1 (by omega) (by omega) (by simp only [go_sem, ↓reduceIte]) (by simp only [go_sem, ↓reduceIte, hrs] <;> rfl)
    have hrw : refB xs w = (((bestI xs w).1 : Int), (bestI xs w).2) := by unfold refB; rw [if_neg hw0]
    rw [hrw]
    generalize wayI xs (w : Int) = r at *
    obtain ⟨rb, re⟩ := r
    simp only at hsu ⊢
    generalize bestI xs w = b at *
    obtain ⟨bt, bb⟩ := b
    simp only at hsu ⊢
    by_cases he : re = 0
    · have eb : (re == 0) = true := by simpa using he
      by_cases hlen : rb.length < bb.length
      · rw [if_pos ⟨he, hlen⟩] at hsu
        rw [hsu] at hrs
        have dl : decide (rb.length < bb.length) = true := decide_eq_true hlen
        refine AW.gg ?_ (by simp only [go_sem, ↓reduceIte, eb, dl] <;> rfl)
        refine AW.condT rfl ?_
        refine AW.go ?_ (by simp only [go_sem, ↓reduceIte, ei] <;> rfl)
        refine AW.again hK (w + 1) (by omega) (by omega) (by simp only [go_sem, ↓reduceIte]) (by simp only [go_sem, ↓reduceIte, hrs] <;> rfl)
      · rw [if_neg (fun h => hlen h.2)] at hsu
        rw [hsu] at hrs
        have dl : decide (rb.length < bb.length) = false := decide_eq_false hlen
        refine AW.gg ?_ (by simp only [go_sem, ↓reduceIte, eb, dl] <;> rfl)
        refine AW.condF rfl ?_
        refine AW.go ?_ (by simp only [go_sem, ↓reduceIte, ei] <;> rfl)
        refine AW.again hK (w + 1) (by omega) (by omega) (by simp only [go_sem, ↓reduceIte]) (by simp only [go_sem, ↓reduceIte, hrs] <;> rfl)
    · have eb : (re == 0) = false := by simpa using he
      rw [if_neg (fun h => he h.1)] at hsu
      rw [hsu] at hrs
      refine AW.gg ?_ (by simp only [go_sem, ↓reduceIte, eb] <;> rfl)
      refine AW.condF rfl ?_
      refine AW.go ?_ (by simp only [go_sem, ↓reduceIte, ei] <;> rfl)
      refine AW.again hK (w + 1) (by omega) (by omega) (by simp only [go_sem, ↓reduceIte]) (by simp only [go_sem, ↓reduceIte, hrs] <;> rfl)
  · have hge : w = 5 := by simp at hc2; omega
    subst hge
    have hrw : refB xs 5 = (((bestI xs 5).1 : Int), (bestI xs 5).2) := by unfold refB; rw [if_neg (by omega)]
    rw [hrw]
    obtain ⟨i1, i2, -⟩ := hinv 5 (Nat.le_refl _)
    generalize bestI xs 5 = b at *
    obtain ⟨bt, bb⟩ := b
    simp only at i1 i2 ⊢
    have eu : IntKind.u8.wrap ((bt : Nat) : Int) = (bt : Nat) := wrap_u8_lt (by omega)
    have h1 : 1 + bb.length ≤ room := by omega
    refine AW.go ?_ (by simp only [go_sem, ↓reduceIte, eu, bytes_one, h1, List.length_cons, List.length_nil, Nat.zero_add, List.cons_append, List.nil_append] <;> rfl)
    refine AW.finE (.move rfl (.pv _ .nil)) rfl
end Go.Ck

set_option linter.unusedVariables false
/-! Calls that leave something unsaid. -/
namespace Go.Ck
section
variable {P : Program} {R : Option Nat} {Φ : Exit → Cx → St → Prop} {k : List It} {C : Cx} {s : St}
theorem AW.callZ {α : Type} {all : Array Oper} {o : Oper} {r : List Oper} {f : FuncId} {svs : List SV} {H : List (Nat × HO)} {H' : α → List (Nat × HO)} {args : List SV} {rs : α → List SV} {L : List Place} {m : Option Place} {d : Nat} {s' : α → St} (ρ : Nat → Nat)
    (hF : Fn P f H args (fun rs' h => ∃ z, rs' = rs z ∧ h = H' z)) (hP : Pass P s ρ svs args L m) (h : ∀ z, AW P R Φ .normal (.ops all r :: k) C (s' z)) (hg : o.guard = none := by rfl) (hd : o.dst = some d := by rfl) (hc : callOp s o.op = some (f, svs) := by simp only [go_sem, ↓reduceIte] <;> rfl) (hM : HM s ρ H := by simp only [go_sem, ↓reduceIte]) (hB : okB ρ H args L m = true := by simp only [go_sem, ↓reduceIte])
    (hA : ∀ z, okA s ρ H L (rs z) (H' z) = true := by intro z; simp only [go_sem, ↓reduceIte]) (hs : ∀ z, behind s ρ m H d (rs z) (H' z) = s' z := by intro z; simp only [go_sem, ↓reduceIte] <;> rfl) :
    AW P R Φ .normal (.ops all (o :: r) :: k) C s := AW.callX ρ hg hd hc hF hP hM hB (fun rs' h' ⟨z, e1, e2⟩ => by subst e1; subst e2; exact ⟨hA z, by rw [hs]; exact h z⟩)
theorem AW.finZ {α : Type} {res : List ResultVar} {H : List (Nat × HO)} {H' : α → List (Nat × HO)} {e : Exit} {svs : List SV} {rs : α → List SV} {L : List Place} {m : Option Place} (z : α) (hP : Pass P s id svs (rs z) L m) (he : e = .normal ∨ e = .ret := by first | exact .inl rfl | exact .inr rfl) (hv : retsV P s res = some svs := by simp only [go_sem, ↓reduceIte] <;> rfl) (hM : HM s id (H' z) := by simp only [go_sem, ↓reduceIte]; try trivial) (hB : okB id (H' z) (rs z) L m = true := by simp only [go_sem, ↓reduceIte])
    (hn : allIn H (H' z) = true := by simp only [go_sem, ↓reduceIte]) : AW P R (Ends P res H (fun rs' h => ∃ z, rs' = rs z ∧ h = H' z) C) e [] C s := AW.fin he hv hP hM hB hn ⟨z, rfl, rfl⟩
end
end Go.Ck

set_option linter.unusedVariables false
set_option maxRecDepth 10000
set_option maxHeartbeats 1000000
namespace Go.Ck
open Go.Proofs

theorem i64of_def (v : Nat) : IntKind.i64.wrap ((v : Nat) : Int) = i64of v := rfl
theorem whole_fn (l : List Nat) (n : Nat) (hn : n ≤ 65536) (hl : l.length ≤ 2 ^ 40) (hb : ∀ x ∈ l, x < 256) : Fn Try.prog 32 (curO l) [.ptr 1000 0, .pv (.int .i64 n)]
    (fun rs H' => ∃ q : List Nat, rs = [.own 3 (ints ((rwN n [] l).1.map i64of)), .pv (.int .i64 (rwN n [] l).2)] ∧ H' = curO q) := by
  refine Fn.of_body (fn := Try.f32) (n := 29) (res := [.tmp 4, .tmp 5]) (by kernel_rfl) rfl rfl rfl rfl rfl (fun C => ?_)
  have hr : room = 140737488355328 := rfl
  refine AW.go ?_
  refine AW.loopS (fun a : Nat × List Nat × List Nat => ⟨29, [(10, .pv (.int .i64 a.1)), (9, .pv (.int .i64 n)), (6, .own 3 (ints (a.2.1.map i64of))), (0, .ptr 1000 0)], curO a.2.2⟩) (fun a => a.1 ≤ n ∧ rwN (n - a.1) a.2.1 a.2.2 = rwN n [] l ∧ (∀ x ∈ a.2.2, x < 256) ∧ a.2.2.length ≤ l.length ∧ a.2.1.length = a.1) (fun a => n - a.1) [10, 9, 6, 0] [1000] (0, [], l) ⟨Nat.zero_le _, rfl, hb, Nat.le_refl _, rfl⟩ ?_
  rintro ⟨i, acc, q⟩ ⟨hi, hrw, hq, hql, hal⟩ K hK
  simp only at hi hrw hq hql hal
  rw [← hrw] at hK ⊢
  refine AW.go ?_
  refine AW.cond rfl (fun hc => ?_) (fun hc => ?_)
  · have hlt : i < n := by simpa using hc
    obtain ⟨m, hm⟩ : ∃ m, n - i = m + 1 := ⟨n - i - 1, by omega⟩
    have hst : rwN (n - i) acc q = if q.length < 8 then ([], 2) else rwN m (acc ++ [beN (q.take 8)]) (q.drop 8) := by rw [hm, rwN]
    rw [hst]
    have ei : IntKind.i64.wrap ((i : Int) + 1) = ((i + 1 : Nat) : Int) := wrap_i64_succ (by omega)
    refine AW.go ?_
    refine AW.callE id (curFixed_fn q 8 (by omega) (by omega) hq) (.ptr rfl (.pv _ .nil)) ?_
    by_cases h8 : 8 ≤ q.length
    · simp only [if_pos h8]
      rw [if_neg (by omega)] at hst ⊢
      have hmi : (acc ++ [beN (q.take 8)]).map i64of = acc.map i64of ++ [i64of (beN (q.take 8))] := by simp
      have hml : (acc.map i64of).length = i := by simp [hal]
      generalize beN (q.take 8) = v at *
      have hdv := i64of_def v
      have h1 : (i + 1) * 8 ≤ room := by omega
      have h2 : i + 1 ≤ room := by omega
      refine AW.go ?_
      refine AW.condF rfl ?_
      refine AW.go ?_ (by simp only [go_sem, ↓reduceIte, hdv, hml, ints_one, h1, h2, ← hmi, ei] <;> rfl)
      refine AW.again hK (i + 1, acc ++ [v], q.drop 8) ⟨hlt, by rw [show n - (i + 1) = m by omega, hst], fun x hx => hq x (List.mem_of_mem_drop hx), by simp only [List.length_drop]; omega, by simp [hal]⟩ (by simp only; omega)
    · simp only [if_neg h8]
      rw [if_pos (by omega)]
      refine AW.go ?_
      refine AW.condT rfl ?_
      refine AW.go ?_
      exact AW.finZ q (.move rfl (.pv _ .nil))
  · have hge : n - i = 0 := by simp at hc; omega
    rw [hge, rwN]
    refine AW.go ?_
    refine AW.callE id (curEnd_fn q) (.ptr rfl .nil) ?_
    refine AW.go ?_
    exact AW.finZ q (.move rfl (.pv _ .nil))

theorem under_fn (q : List Nat) (n t : Nat) (hn : n ≤ 65536) (hl : q.length ≤ 2 ^ 40) (hb : ∀ x ∈ q, x < 256) : Fn Try.prog 56 [] [.pv (.sl 1 (bytes q)), .pv (.int .i64 n), .pv (.int .i64 t)]
    (fun rs H' => rs = [.own 42 (u64s (underI q n t).1), .pv (.int .i64 (underI q n t).2)] ∧ H' = []) := by
  refine Fn.of_body (fn := Try.f56) (n := 28) (res := [.tmp 6, .tmp 7]) (by kernel_rfl) rfl rfl rfl rfl rfl (fun C => ?_)
  unfold underI
  refine AW.go ?_
  refine AW.cond rfl (fun hc => ?_) (fun hc => ?_)
  · have h2 : t = 2 := by simp at hc; omega
    simp only [if_pos h2]
    refine AW.go ?_
    refine AW.callE (fun _ => 0) (unpack_fn q n hn hl hb) (.pv _ (.pv _ .nil)) ?_
    refine AW.go ?_
    refine AW.finE (.move rfl (.pv _ .nil)) rfl
  have h2 : ¬ t = 2 := by simp at hc; omega
  simp only [if_neg h2]
  refine AW.go ?_
  refine AW.cond rfl (fun hc => ?_) (fun hc => ?_)
  · have h3 : t = 3 := by simp at hc; omega
    simp only [if_pos h3]
    refine AW.go ?_
    refine AW.callE (fun _ => 0) (simpleDec_fn q n hn hl hb) (.pv _ (.pv _ .nil)) ?_
    refine AW.go ?_
    refine AW.finE (.move rfl (.pv _ .nil)) rfl
  have h3 : ¬ t = 3 := by simp at hc; omega
  simp only [if_neg h3]
  refine AW.go ?_
  refine AW.callE (fun _ => 0) (runsDec_fn q n hn hl hb) (.pv _ (.pv _ .nil)) ?_
  refine AW.go ?_
  refine AW.finE (.move rfl (.pv _ .nil)) rfl

theorem numbers_fn (l : List Nat) (n t : Nat) (hn : n ≤ 65536) (ht : 1 ≤ t) (hl : l.length ≤ 2 ^ 40) (hb : ∀ x ∈ l, x < 256) : Fn Try.prog 33 (curO l) [.ptr 1000 0, .pv (.int .i64 n), .pv (.int .i64 t)]
    (fun rs H' => ∃ q : List Nat, rs = [.own 42 (u64s (numI l n t).1), .pv (.int .i64 (numI l n t).2)] ∧ H' = curO q) := by
  refine Fn.of_body (fn := Try.f33) (n := 71) (res := [.tmp 6, .tmp 7]) (by kernel_rfl) rfl rfl rfl rfl rfl (fun C => ?_)
  have hr : room = 140737488355328 := rfl
  unfold numI
  refine AW.go ?_
  refine AW.cond rfl (fun hc => ?_) (fun hc => ?_)
  · have h0 : n = 0 := by simpa using hc
    rw [if_pos h0]
    refine AW.go ?_
    refine AW.callE id (curEnd_fn l) (.ptr rfl .nil) ?_
    refine AW.go ?_
    exact AW.finZ l (.move rfl (.pv _ .nil))
  have h0 : ¬ n = 0 := by simpa using hc
  rw [if_neg h0]
  refine AW.go ?_
  refine AW.callE id (curVarint_fn l (by omega) hb) (.ptr rfl .nil) ?_
  have hv := readV_lt hb
  have hq : ∀ x ∈ l.drop (readV l).2.1, x < 256 := fun x hx => hb x (List.mem_of_mem_drop hx)
  have hql : (l.drop (readV l).2.1).length ≤ 2 ^ 40 := by rw [List.length_drop]; omega
  generalize l.drop (readV l).2.1 = q at *
  generalize (readV l).1 = v at *
  generalize (readV l).2.2 = e at *
  refine AW.go ?_
  refine AW.cond rfl (fun hc => ?_) (fun hc => ?_)
  · have he : e ≠ 0 := by simpa using hc
    rw [if_pos he]
    refine AW.go ?_
    exact AW.finZ q (.move rfl (.pv _ .nil))
  have he : ¬ e ≠ 0 := by simpa using hc
  rw [if_neg he]
  have en1 : IntKind.i64.wrap ((n : Int) - 1) = ((n - 1 : Nat) : Int) := by rw [wrap_i64_of (by omega) (by omega)]; omega
  refine AW.go ?_
  refine AW.cond rfl (fun hc => ?_) (fun hc => ?_)
  · have h1 : t = 1 := by simp at hc; omega
    rw [if_pos h1]
    refine AW.go ?_ (by simp only [go_sem, ↓reduceIte, en1] <;> rfl)
    refine AW.loopS (fun a : Nat × List Nat × List Nat => ⟨71, [(34, .pv (.int .i64 a.1)), (33, .pv (.int .i64 (n - 1 : Nat))), (10, .own 42 (u64s a.2.1)), (0, .ptr 1000 0)], curO a.2.2⟩) (fun a => a.1 ≤ n - 1 ∧ rvN (n - 1 - a.1) a.2.1 a.2.2 = rvN (n - 1) [v] q ∧ (∀ x ∈ a.2.2, x < 256) ∧ a.2.2.length ≤ q.length ∧ a.2.1.length = a.1 + 1) (fun a => n - 1 - a.1) [34, 33, 10, 0] [1000] (0, [v], q) ⟨Nat.zero_le _, rfl, hq, Nat.le_refl _, rfl⟩ ?_
    rintro ⟨i, acc, p⟩ ⟨hi, hrw, hp, hpl, hal⟩ K hK
    simp only at hi hrw hp hpl hal
    rw [← hrw] at hK ⊢
    refine AW.go ?_
    refine AW.cond rfl (fun hc => ?_) (fun hc => ?_)
    · have hlt : i < n - 1 := by simpa using hc
      obtain ⟨m, hm⟩ : ∃ m, n - 1 - i = m + 1 := ⟨n - 1 - i - 1, by omega⟩
      have hst : rvN (n - 1 - i) acc p = if (readV p).2.2 ≠ 0 then ([], (readV p).2.2) else rvN m (acc ++ [(readV p).1]) (p.drop (readV p).2.1) := by rw [hm, rvN]
      rw [hst]
      have ei : IntKind.i64.wrap ((i : Int) + 1) = ((i + 1 : Nat) : Int) := wrap_i64_succ (by omega)
      have hp2 : ∀ x ∈ p.drop (readV p).2.1, x < 256 := fun x hx => hp x (List.mem_of_mem_drop hx)
      have hpl2 : (p.drop (readV p).2.1).length ≤ q.length := by rw [List.length_drop]; omega
      refine AW.go ?_
      refine AW.callE id (curVarint_fn p (by omega) hp) (.ptr rfl .nil) ?_
      generalize p.drop (readV p).2.1 = p2 at *
      generalize (readV p).1 = u at *
      generalize (readV p).2.2 = e2 at *
      refine AW.go ?_
      refine AW.cond rfl (fun hc2 => ?_) (fun hc2 => ?_)
      · have he2 : e2 ≠ 0 := by simpa using hc2
        rw [if_pos he2]
        refine AW.go ?_
        exact AW.finZ p2 (.move rfl (.pv _ .nil))
      · have he2 : ¬ e2 ≠ 0 := by simpa using hc2
        rw [if_neg he2] at hst ⊢
        have h1 : (acc.length + 1) * 8 ≤ room := by omega
        have h2 : acc.length + 1 ≤ room := by omega
        refine AW.go ?_ (by simp only [go_sem, ↓reduceIte, u64s_one, h1, h2, ei] <;> rfl)
        refine AW.again hK (i + 1, acc ++ [u], p2) ⟨hlt, by rw [show n - 1 - (i + 1) = m by omega, hst], hp2, hpl2, by simp [hal]⟩ (by simp only; omega)
    · have hge : n - 1 - i = 0 := by simp at hc; omega
      rw [hge, rvN]
      refine AW.go ?_
      refine AW.callE id (curEnd_fn p) (.ptr rfl .nil) ?_
      refine AW.go ?_
      exact AW.finZ p (.move rfl (.pv _ .nil))
  have h1 : ¬ t = 1 := by simp at hc; omega
  rw [if_neg h1]
  refine AW.go ?_
  refine AW.callE id (curLeft_fn q) (.ptr rfl .nil) ?_
  refine AW.go ?_
  refine AW.callE id (curBytes_fn q q.length (by omega)) (.ptr rfl (.pv _ .nil)) ?_
  simp only [if_pos (Nat.le_refl _), List.take_length, List.drop_length]
  refine AW.freeze (p := .part 56 0) (by simp only [go_sem, ↓reduceIte, freeze, freezeO] <;> rfl) ?_
  refine AW.go ?_ (by simp only [go_sem, ↓reduceIte, en1] <;> rfl)
  refine AW.callE (fun _ => 0) (under_fn q (n - 1) t (by omega) hql hq) (.pv _ (.pv _ (.pv _ .nil))) ?_
  have hul := (underI_inv (n - 1) t hq).1
  generalize underI q (n - 1) t = r at *
  obtain ⟨rb, re⟩ := r
  simp only at hul ⊢
  have h2 : (1 + rb.length) * 8 ≤ room := by omega
  have h3 : 1 + rb.length ≤ room := by omega
  refine AW.go ?_ (by simp only [go_sem, ↓reduceIte, u64s_one, List.length_cons, List.length_nil, Nat.zero_add, List.cons_append, List.nil_append, h2, h3] <;> rfl)
  exact AW.finZ [] (.move rfl (.pv _ .nil))
end Go.Ck

set_option linter.unusedVariables false
set_option maxRecDepth 10000
set_option maxHeartbeats 1000000
namespace Go.Ck
open Go.Proofs

theorem valI_r (z : List Nat) (t : Nat) (h : ∀ x ∈ z, x < 2 ^ 64) : ∀ x ∈ valI z t, i64r x := by
  unfold valI
  split
  · intro x hx
    simp only [List.mem_map] at hx
    obtain ⟨y, _, rfl⟩ := hx
    exact i64of_r y
  · refine sumS_r _ (fun x hx => ?_)
    simp only [List.mem_map] at hx
    obtain ⟨y, hy, rfl⟩ := hx
    exact zag_r (h y hy)

theorem decI_fn (b : List Nat) (w : Int) (hl : b.length ≤ 2 ^ 40) (hb : ∀ x ∈ b, x < 256) : Fn Try.prog 16 [] [.pv (.sl 1 (bytes b)), .pv (.int .i64 w)]
    (fun rs H' => rs = [.own 3 (ints (decI b w).1), .pv (.int .i64 (decI b w).2)] ∧ H' = []) := by
  refine Fn.of_body (fn := Try.f16) (n := 82) (res := [.tmp 4, .tmp 5]) (by kernel_rfl) rfl rfl rfl rfl rfl (fun C => ?_)
  have hr : room = 140737488355328 := rfl
  unfold decI
  by_cases hw : w < 0 ∨ 65536 < w
  · rw [if_pos hw]
    by_cases h0 : w < 0
    · have d0 : decide (w < 0) = true := decide_eq_true h0
      refine AW.gg ?_ (by simp only [go_sem, ↓reduceIte, d0] <;> rfl)
      refine AW.condT rfl ?_
      refine AW.go ?_
      refine AW.finE (.move rfl (.pv _ .nil)) rfl
    · have d0 : decide (w < 0) = false := decide_eq_false h0
      have d5 : decide (w > 65536) = true := decide_eq_true (by omega)
      have d5' : decide (65536 < w) = true := decide_eq_true (by omega)
      refine AW.gg ?_ (by simp only [go_sem, ↓reduceIte, d0, d5, d5'] <;> rfl)
      refine AW.condT rfl ?_
      refine AW.go ?_
      refine AW.finE (.move rfl (.pv _ .nil)) rfl
  rw [if_neg hw]
  obtain ⟨n, rfl⟩ : ∃ n : Nat, w = n := ⟨w.toNat, by omega⟩
  have hn : n ≤ 65536 := by omega
  rw [Int.toNat_natCast]
  have d5 : decide ((n : Int) > 65536) = false := decide_eq_false (by omega)
  have d5' : decide ((65536 : Int) < (n : Int)) = false := decide_eq_false (by omega)
  refine AW.gg ?_ (by simp only [go_sem, ↓reduceIte, d5, d5'] <;> rfl)
  refine AW.condF rfl ?_
  refine AW.go ?_
  refine AW.callE (fun o => if o = 7 then 22 else 0) (curNew_fn b (by omega)) (.pv _ .nil) ?_
  refine AW.go ?_
  refine AW.callE (fun _ => 22) (curByte_fn b (by omega)) (.ptr rfl .nil) ?_
  refine AW.go ?_
  cases b with
  | nil =>
    refine AW.condT rfl ?_
    refine AW.go ?_
    refine AW.finE (.move rfl (.pv _ .nil)) rfl
  | cons t l =>
    have htb := hb t (by simp)
    have hbl : ∀ x ∈ l, x < 256 := fun x hx => hb x (by simp [hx])
    simp only [List.length_cons] at hl
    refine AW.condF rfl ?_
    refine AW.go ?_
    simp only [List.headD_cons, List.tail_cons, decI1]
    refine AW.cond rfl (fun hc => ?_) (fun hc => ?_)
    · have h5 : 5 ≤ t := by simp at hc; omega
      simp only [if_pos h5]
      refine AW.go ?_
      refine AW.finE (.move rfl (.pv _ .nil)) rfl
    have h5 : ¬ 5 ≤ t := by simp at hc; omega
    simp only [if_neg h5]
    have hinv := rdI_inv n t hbl
    refine AW.go ?_
    refine AW.joinS (fun _ : Unit => ⟨82, [(9, .own 3 (ints (valI (rdI l n t).1 t))), (8, .pv (.int .i64 (rdI l n t).2)), (0, .pv (.sl 1 (bytes (t :: l))))], []⟩) (fun _ => True) [9, 8, 0] [] ?_ ?_
    · intro K hK
      refine AW.cond rfl (fun hc => ?_) (fun hc => ?_)
      · have h0 : t = 0 := by simpa using hc
        have hrd : rdI l n t = rwN n [] l := by unfold rdI; rw [if_pos h0]
        have hva : ∀ z, valI z t = z.map i64of := fun z => by unfold valI; rw [if_pos h0]
        refine AW.go ?_
        refine AW.callZ (fun _ => 22) (whole_fn l n hn (by omega) hbl) (.ptr rfl (.pv _ .nil)) (fun q => ?_)
        refine AW.go ?_
        refine AW.meet hK () trivial (by simp only [go_sem, ↓reduceIte]) (by simp only [go_sem, ↓reduceIte, hrd, hva] <;> rfl)
      · have h0 : ¬ t = 0 := by simpa using hc
        have hrd : rdI l n t = numI l n t := by unfold rdI; rw [if_neg h0]
        have hva : ∀ z, valI z t = sumS (z.map zag) (oft t) := fun z => by unfold valI; rw [if_neg h0]
        have ec : IntKind.i64.wrap ((t : Nat) : Int) = (t : Int) := wrap_i64_nat (by omega)
        rw [hrd] at hinv
        refine AW.go ?_ (by simp only [go_sem, ↓reduceIte, ec] <;> rfl)
        refine AW.callZ (fun _ => 22) (numbers_fn l n t hn (by omega) (by omega) hbl) (.ptr rfl (.pv _ (.pv _ .nil))) (fun q => ?_)
        obtain ⟨i1, i2⟩ := hinv
        generalize numI l n t = r at *
        obtain ⟨z, e⟩ := r
        simp only at i1 i2 ⊢
        refine AW.freeze (p := .part 46 0) (by simp only [go_sem, ↓reduceIte, freeze, freezeO] <;> rfl) ?_
        refine AW.go ?_
        refine AW.loopS (fun i : Nat => ⟨82, [(51, .pv (.int .i64 i)), (50, .pv (.int .i64 z.length)), (49, .pv (.sl 1 (u64s z))), (9, .own 3 (ints ((z.take i).map zag))), (8, .pv (.int .i64 e)), (7, .pv (.int .u8 t)), (0, .pv (.sl 1 (bytes (t :: l))))], []⟩) (fun i => i ≤ z.length) (fun i => z.length - i) [51, 50, 49, 9, 8, 7, 0] [] 0 (Nat.zero_le _) ?_
        rintro i hi K2 hK2
        refine AW.go ?_
        refine AW.cond rfl (fun hc2 => ?_) (fun hc2 => ?_)
        · have hlt : i < z.length := by simpa using hc2
          have hget := u64s_get hlt
          have hti : (z.take (i + 1)).map zag = (z.take i).map zag ++ [zag z[i]] := by rw [← List.map_singleton, ← List.map_append]; congr 1; simp
          have hxx := i2 _ (List.getElem_mem hlt)
          generalize z[i] = x at *
          have ei : IntKind.i64.wrap ((i : Int) + 1) = ((i + 1 : Nat) : Int) := wrap_i64_succ (by omega)
          have hml : ((z.take i).map zag).length = i := by simp; omega
          have h1 : (i + 1) * 8 ≤ room := by omega
          have h2 : i + 1 ≤ room := by omega
          generalize (z.take i).map zag = m at *
          refine AW.go ?_ (by simp only [go_sem, ↓reduceIte, hget] <;> rfl)
          refine AW.callE (fun _ => 0) (zag_fn x hxx) (.pv _ .nil) ?_
          refine AW.go ?_ (by simp only [go_sem, ↓reduceIte, hml, ints_one, h1, h2, ← hti, ei] <;> rfl)
          refine AW.again hK2 (i + 1) hlt (by omega)
        · have hge : ¬ i < z.length := by simpa using hc2
          rw [List.take_of_length_le (by omega)]
          clear hK2
          have hml : (z.map zag).length = z.length := by simp
          refine AW.go ?_ (by simp only [go_sem, ↓reduceIte, ec] <;> rfl)
          refine AW.callE (fun _ => 0) (often_fn t) (.pv _ .nil) ?_
          refine AW.go ?_
          refine AW.callE (fun _ => 0) (sum_fn (z.map zag) (oft t) (oft_le t) (by omega)) (.lend rfl co_3 (.pv _ .nil)) ?_
          refine AW.go ?_
          refine AW.meet hK () trivial (by simp only [go_sem, ↓reduceIte]) (by simp only [go_sem, ↓reduceIte, hrd, hva] <;> rfl)
    rintro _ -
    unfold decI0
    have hvr := valI_r (rdI l n t).1 t hinv.2
    generalize rdI l n t = r at *
    obtain ⟨z, e⟩ := r
    simp only at hvr ⊢
    generalize valI z t = xs at *
    refine AW.go ?_
    refine AW.cond rfl (fun hc => ?_) (fun hc => ?_)
    · have he : e ≠ 0 := by simpa using hc
      simp only [if_pos he]
      refine AW.go ?_
      refine AW.finE (.move rfl (.pv _ .nil)) rfl
    have he : ¬ e ≠ 0 := by simpa using hc
    simp only [if_neg he]
    refine AW.go ?_
    refine AW.callE (fun _ => 0) (encI_fn xs hvr) (.lend rfl co_3 .nil) ?_
    refine AW.go ?_
    refine AW.callE (fun _ => 0) (bytesEqual_fn (encI xs).1 (t :: l) (encI_byte hvr) hb) (.lend rfl co_5 (.pv _ .nil)) ?_
    by_cases hq : (encI xs).1 = t :: l
    · rw [decide_eq_true hq]
      simp only [if_pos hq]
      refine AW.go ?_
      refine AW.condF rfl ?_
      refine AW.go ?_
      refine AW.finE (.move rfl (.pv _ .nil)) rfl
    · rw [decide_eq_false hq]
      simp only [if_neg hq]
      refine AW.go ?_
      refine AW.condT rfl ?_
      refine AW.go ?_
      refine AW.finE (.move rfl (.pv _ .nil)) rfl
end Go.Ck

set_option linter.unusedVariables false
set_option maxRecDepth 10000
set_option maxHeartbeats 1000000
namespace Go.Ck
open Go.Proofs

/-- What the reference's own reader yields. -/
def okL2 (r : List Nat × Int) : List Nat × Int := (if r.2 = 0 then r.1 else [], r.2)
theorem okL2_err {e : Int} (h : e ≠ 0) (l : List Nat) : okL2 (l, e) = ([], e) := by unfold okL2; rw [if_neg h]
theorem okL2_ok (l : List Nat) : okL2 (l, 0) = (l, 0) := rfl
theorem plain0_fn (l : List Nat) (n : Nat) (hn : n ≤ 65536) (hl : l.length ≤ 2 ^ 40) (hb : ∀ x ∈ l, x < 256) (t : Nat) (ht : n = 0 ∨ t = 0) : Fn Try.prog 57 [] [.pv (.sl 1 (bytes l)), .pv (.int .i64 n), .pv (.int .i64 t)]
    (fun rs H' => rs = [.own 42 (u64s (okL2 (rwN n [] l)).1), .pv (.int .i64 (okL2 (rwN n [] l)).2)] ∧ H' = []) := by
  refine Fn.of_body (fn := Try.f57) (n := 44) (res := [.tmp 6, .tmp 7]) (by kernel_rfl) rfl rfl rfl rfl rfl (fun C => ?_)
  have hr : room = 140737488355328 := rfl
  refine AW.go ?_
  refine AW.loopS (fun a : Nat × List Nat × List Nat => ⟨44, [(9, .pv (.int .i64 a.1)), (8, .own 42 (u64s a.2.1)), (2, .pv (.int .i64 t)), (1, .pv (.int .i64 n)), (0, .pv (.sl 1 (bytes a.2.2)))], []⟩) (fun a => a.1 ≤ n ∧ rwN (n - a.1) a.2.1 a.2.2 = rwN n [] l ∧ (∀ x ∈ a.2.2, x < 256) ∧ a.2.2.length ≤ l.length ∧ a.2.1.length = a.1) (fun a => n - a.1) [9, 8, 2, 1, 0] [] (0, [], l) ⟨Nat.zero_le _, rfl, hb, Nat.le_refl _, rfl⟩ ?_
  rintro ⟨i, acc, q⟩ ⟨hi, hrw, hq, hql, hal⟩ K hK
  simp only at hi hrw hq hql hal
  rw [← hrw] at hK ⊢
  refine AW.go ?_
  refine AW.cond rfl (fun hc => ?_) (fun hc => ?_)
  · have hlt : i < n := by simpa using hc
    have ht0 : t = 0 := by omega
    have ht1 : ((t : Int) == 1) = false := by simp; omega
    obtain ⟨m, hm⟩ : ∃ m, n - i = m + 1 := ⟨n - i - 1, by omega⟩
    have hst : rwN (n - i) acc q = if q.length < 8 then ([], 2) else rwN m (acc ++ [beN (q.take 8)]) (q.drop 8) := by rw [hm, rwN]
    rw [hst]
    have ei : IntKind.i64.wrap ((i : Int) + 1) = ((i + 1 : Nat) : Int) := wrap_i64_succ (by omega)
    refine AW.go ?_
    refine AW.callE (fun _ => 0) (refFixed_fn q 8 (by omega) (by omega) hq) (.pv _ (.pv _ .nil)) ?_
    by_cases h8 : 8 ≤ q.length
    · simp only [if_pos h8]
      rw [if_neg (by omega)] at hst ⊢
      generalize beN (q.take 8) = v at *
      have h1 : (i + 1) * 8 ≤ room := by omega
      have h2 : i + 1 ≤ room := by omega
      refine AW.go ?_ (by simp only [go_sem, ↓reduceIte, ht1] <;> rfl)
      refine AW.condF rfl ?_
      refine AW.go ?_
      refine AW.condF rfl ?_
      refine AW.go ?_ (by simp only [go_sem, ↓reduceIte, hal, u64s_one, h1, h2, ei] <;> rfl)
      refine AW.again hK (i + 1, acc ++ [v], q.drop 8) ⟨hlt, by rw [show n - (i + 1) = m by omega, hst], fun x hx => hq x (List.mem_of_mem_drop hx), by simp only [List.length_drop]; omega, by simp [hal]⟩ (by simp only; omega)
    · simp only [if_neg h8]
      rw [if_pos (by omega), okL2_err (by omega)]
      refine AW.go ?_ (by simp only [go_sem, ↓reduceIte, ht1] <;> rfl)
      refine AW.condF rfl ?_
      refine AW.go ?_
      refine AW.condT rfl ?_
      refine AW.go ?_
      refine AW.finE (.move rfl (.pv _ .nil)) rfl
  · have hge : n - i = 0 := by simp at hc; omega
    rw [hge, rwN]
    by_cases hqe : q = []
    · subst hqe
      rw [if_pos rfl, okL2_ok]
      refine AW.go ?_
      refine AW.condF rfl ?_
      refine AW.go ?_
      refine AW.finE (.move rfl (.pv _ .nil)) rfl
    · rw [if_neg hqe, okL2_err (by omega)]
      have hq0 : 0 < q.length := by cases q with | nil => exact absurd rfl hqe | cons a r => simp
      have d2 : decide (0 < q.length) = true := decide_eq_true hq0
      have d2i : decide ((q.length : Int) > 0) = true := decide_eq_true (by omega)
      refine AW.go ?_ (by simp only [go_sem, ↓reduceIte, d2, d2i] <;> rfl)
      refine AW.condT rfl ?_
      refine AW.go ?_
      refine AW.finE (.move rfl (.pv _ .nil)) rfl

theorem plain1_fn (l : List Nat) (n : Nat) (hn : n ≤ 65536) (hl : l.length ≤ 2 ^ 40) (hb : ∀ x ∈ l, x < 256) : Fn Try.prog 57 [] [.pv (.sl 1 (bytes l)), .pv (.int .i64 n), .pv (.int .i64 1)]
    (fun rs H' => rs = [.own 42 (u64s (okL2 (rvN n [] l)).1), .pv (.int .i64 (okL2 (rvN n [] l)).2)] ∧ H' = []) := by
  refine Fn.of_body (fn := Try.f57) (n := 44) (res := [.tmp 6, .tmp 7]) (by kernel_rfl) rfl rfl rfl rfl rfl (fun C => ?_)
  have hr : room = 140737488355328 := rfl
  refine AW.go ?_
  refine AW.loopS (fun a : Nat × List Nat × List Nat => ⟨44, [(9, .pv (.int .i64 a.1)), (8, .own 42 (u64s a.2.1)), (2, .pv (.int .i64 1)), (1, .pv (.int .i64 n)), (0, .pv (.sl 1 (bytes a.2.2)))], []⟩) (fun a => a.1 ≤ n ∧ rvN (n - a.1) a.2.1 a.2.2 = rvN n [] l ∧ (∀ x ∈ a.2.2, x < 256) ∧ a.2.2.length ≤ l.length ∧ a.2.1.length = a.1) (fun a => n - a.1) [9, 8, 2, 1, 0] [] (0, [], l) ⟨Nat.zero_le _, rfl, hb, Nat.le_refl _, rfl⟩ ?_
  rintro ⟨i, acc, q⟩ ⟨hi, hrw, hq, hql, hal⟩ K hK
  simp only at hi hrw hq hql hal
  rw [← hrw] at hK ⊢
  refine AW.go ?_
  refine AW.cond rfl (fun hc => ?_) (fun hc => ?_)
  · have hlt : i < n := by simpa using hc
    obtain ⟨m, hm⟩ : ∃ m, n - i = m + 1 := ⟨n - i - 1, by omega⟩
    have hst : rvN (n - i) acc q = if (readV q).2.2 ≠ 0 then ([], (readV q).2.2) else rvN m (acc ++ [(readV q).1]) (q.drop (readV q).2.1) := by rw [hm, rvN]
    rw [hst]
    have ei : IntKind.i64.wrap ((i : Int) + 1) = ((i + 1 : Nat) : Int) := wrap_i64_succ (by omega)
    refine AW.go ?_
    refine AW.callE (fun _ => 0) (refFixed_fn q 8 (by omega) (by omega) hq) (.pv _ (.pv _ .nil)) ?_
    generalize (if 8 ≤ q.length then beN (q.take 8) else 0) = j1
    generalize (if 8 ≤ q.length then q.drop 8 else q) = j2
    generalize (if 8 ≤ q.length then (0 : Int) else 2) = j3
    refine AW.go ?_
    refine AW.condT rfl ?_
    refine AW.go ?_
    refine AW.callE (fun _ => 0) (refVarint_fn q (by omega) hq) (.pv _ .nil) ?_
    have hp2 : ∀ x ∈ q.drop (readV q).2.1, x < 256 := fun x hx => hq x (List.mem_of_mem_drop hx)
    have hpl2 : (q.drop (readV q).2.1).length ≤ l.length := by rw [List.length_drop]; omega
    generalize q.drop (readV q).2.1 = p2 at *
    generalize (readV q).1 = u at *
    generalize (readV q).2.2 = e2 at *
    refine AW.go ?_
    refine AW.cond rfl (fun hc2 => ?_) (fun hc2 => ?_)
    · have he2 : e2 ≠ 0 := by simpa using hc2
      rw [if_pos he2, okL2_err he2]
      refine AW.go ?_
      refine AW.finE (.move rfl (.pv _ .nil)) rfl
    · have he2 : ¬ e2 ≠ 0 := by simpa using hc2
      rw [if_neg he2] at hst ⊢
      have h1 : (i + 1) * 8 ≤ room := by omega
      have h2 : i + 1 ≤ room := by omega
      refine AW.go ?_ (by simp only [go_sem, ↓reduceIte, hal, u64s_one, h1, h2, ei] <;> rfl)
      refine AW.again hK (i + 1, acc ++ [u], p2) ⟨hlt, by rw [show n - (i + 1) = m by omega, hst], hp2, hpl2, by simp [hal]⟩ (by simp only; omega)
  · have hge : n - i = 0 := by simp at hc; omega
    rw [hge, rvN]
    by_cases hqe : q = []
    · subst hqe
      rw [if_pos rfl, okL2_ok]
      refine AW.go ?_
      refine AW.condF rfl ?_
      refine AW.go ?_
      refine AW.finE (.move rfl (.pv _ .nil)) rfl
    · rw [if_neg hqe, okL2_err (by omega)]
      have hq0 : 0 < q.length := by cases q with | nil => exact absurd rfl hqe | cons a r => simp
      have d2 : decide (0 < q.length) = true := decide_eq_true hq0
      have d2i : decide ((q.length : Int) > 0) = true := decide_eq_true (by omega)
      refine AW.go ?_ (by simp only [go_sem, ↓reduceIte, d2, d2i] <;> rfl)
      refine AW.condT rfl ?_
      refine AW.go ?_
      refine AW.finE (.move rfl (.pv _ .nil)) rfl

theorem underI_ok {q : List Nat} {n t : Nat} (h : (underI q n t).2 ≠ 0) : okL2 (underI q n t) = ([], (underI q n t).2) := by unfold okL2; rw [if_neg h]
theorem rdI_zero (l : List Nat) (t : Nat) : rdI l 0 t = ([], if l = [] then 0 else 3) := by
  unfold rdI
  split
  · rfl
  · unfold numI; rw [if_pos rfl]
theorem rdI_one (l : List Nat) (n : Nat) : rdI l n 1 = rvN n [] l := by
  unfold rdI
  rw [if_neg (by omega)]
  unfold numI
  cases n with
  | zero => rfl
  | succ n =>
    rw [if_neg (by omega), rvN]
    split
    · rfl
    · rw [if_pos rfl]; rfl
theorem read08_fn (l : List Nat) (n t : Nat) (hn : n ≤ 65536) (ht : t ≤ 4) (hl : l.length ≤ 2 ^ 40) (hb : ∀ x ∈ l, x < 256) : Fn Try.prog 37 [] [.pv (.sl 1 (bytes l)), .pv (.int .i64 n), .pv (.int .i64 t)]
    (fun rs H' => rs = [.own 42 (u64s (okL2 (rdI l n t)).1), .pv (.int .i64 (okL2 (rdI l n t)).2)] ∧ H' = []) := by
  refine Fn.of_body (fn := Try.f37) (n := 69) (res := [.tmp 6, .tmp 7]) (by kernel_rfl) rfl rfl rfl rfl rfl (fun C => ?_)
  have hr : room = 140737488355328 := rfl
  refine AW.go ?_
  refine AW.cond rfl (fun hc => ?_) (fun hc => ?_)
  · have h1 : t ≤ 1 := by simp at hc; omega
    rcases Nat.lt_or_ge t 1 with h0 | h0
    · have ht0 : t = 0 := by omega
      have hrd : rdI l n t = rwN n [] l := by unfold rdI; rw [if_pos ht0]
      rw [hrd]
      refine AW.go ?_
      refine AW.callE (fun _ => 0) (plain0_fn l n hn hl hb t (.inr ht0)) (.pv _ (.pv _ (.pv _ .nil))) ?_
      refine AW.go ?_
      refine AW.finE (.move rfl (.pv _ .nil)) rfl
    · have ht1 : t = 1 := by omega
      subst ht1
      rw [rdI_one]
      refine AW.go ?_
      refine AW.callE (fun _ => 0) (plain1_fn l n hn hl hb) (.pv _ (.pv _ (.pv _ .nil))) ?_
      refine AW.go ?_
      refine AW.finE (.move rfl (.pv _ .nil)) rfl
  have h1 : ¬ t ≤ 1 := by simp at hc; omega
  refine AW.go ?_
  refine AW.cond rfl (fun hc => ?_) (fun hc => ?_)
  · have h0 : n = 0 := by simpa using hc
    subst h0
    have hpl := plain0_fn l 0 (by omega) hl hb t (.inl rfl)
    have hrw : rwN 0 [] l = rdI l 0 t := by rw [rdI_zero]; rfl
    rw [hrw] at hpl
    refine AW.go ?_
    refine AW.callE (fun _ => 0) hpl (.pv _ (.pv _ (.pv _ .nil))) ?_
    refine AW.go ?_
    refine AW.finE (.move rfl (.pv _ .nil)) rfl
  have h0 : ¬ n = 0 := by simpa using hc
  have hrd : rdI l n t = if (readV l).2.2 ≠ 0 then ([], (readV l).2.2) else ((readV l).1 :: (underI (l.drop (readV l).2.1) (n - 1) t).1, (underI (l.drop (readV l).2.1) (n - 1) t).2) := by
    unfold rdI numI
    rw [if_neg (by omega), if_neg h0]
    congr 1
    rw [if_neg (by omega)]
  rw [hrd]
  refine AW.go ?_
  refine AW.callE (fun _ => 0) (refVarint_fn l (by omega) hb) (.pv _ .nil) ?_
  have hq : ∀ x ∈ l.drop (readV l).2.1, x < 256 := fun x hx => hb x (List.mem_of_mem_drop hx)
  have hql : (l.drop (readV l).2.1).length ≤ 2 ^ 40 := by rw [List.length_drop]; omega
  generalize l.drop (readV l).2.1 = q at *
  generalize (readV l).1 = v at *
  generalize (readV l).2.2 = e at *
  refine AW.go ?_
  refine AW.cond rfl (fun hc => ?_) (fun hc => ?_)
  · have he : e ≠ 0 := by simpa using hc
    rw [if_pos he, okL2_err he]
    refine AW.go ?_
    refine AW.finE (.move rfl (.pv _ .nil)) rfl
  have he : ¬ e ≠ 0 := by simpa using hc
  rw [if_neg he]
  have en1 : IntKind.i64.wrap ((n : Int) - 1) = ((n - 1 : Nat) : Int) := by rw [wrap_i64_of (by omega) (by omega)]; omega
  have hul := (underI_inv (n - 1) t hq).1
  refine AW.go ?_
  refine AW.joinS (fun _ : Unit => ⟨69, [(11, .own 42 (u64s (underI q (n - 1) t).1)), (10, .pv (.int .i64 (underI q (n - 1) t).2)), (8, .pv (.int .u64 v))], []⟩) (fun _ => True) [11, 10, 8] [] ?_ ?_
  · intro K hK
    refine AW.cond rfl (fun hc => ?_) (fun hc => ?_)
    · have h2 : t = 2 := by simp at hc; omega
      have hu : underI q (n - 1) t = unF q (n - 1) := by unfold underI; rw [if_pos h2]
      refine AW.go ?_ (by simp only [go_sem, ↓reduceIte, en1] <;> rfl)
      refine AW.callE (fun _ => 0) (refUnpack_fn q (n - 1) (by omega) hql hq) (.pv _ (.pv _ .nil)) ?_
      refine AW.go ?_
      refine AW.meet hK () trivial (by simp only [go_sem, ↓reduceIte]) (by simp only [go_sem, ↓reduceIte, hu] <;> rfl)
    have h2 : ¬ t = 2 := by simp at hc; omega
    refine AW.go ?_
    refine AW.cond rfl (fun hc => ?_) (fun hc => ?_)
    · have h3 : t = 3 := by simp at hc; omega
      have hu : underI q (n - 1) t = decS q (n - 1) := by unfold underI; rw [if_neg h2, if_pos h3]
      refine AW.go ?_ (by simp only [go_sem, ↓reduceIte, en1] <;> rfl)
      refine AW.callE (fun _ => 0) (refSimpleDec_fn q (n - 1) (by omega) hql hq) (.pv _ (.pv _ .nil)) ?_
      refine AW.go ?_
      refine AW.meet hK () trivial (by simp only [go_sem, ↓reduceIte]) (by simp only [go_sem, ↓reduceIte, hu] <;> rfl)
    · have h3 : ¬ t = 3 := by simp at hc; omega
      have hu : underI q (n - 1) t = decR q (n - 1) := by unfold underI; rw [if_neg h2, if_neg h3]
      refine AW.go ?_ (by simp only [go_sem, ↓reduceIte, en1] <;> rfl)
      refine AW.callE (fun _ => 0) (refRunsDec_fn q (n - 1) (by omega) hql hq) (.pv _ (.pv _ .nil)) ?_
      refine AW.go ?_
      refine AW.meet hK () trivial (by simp only [go_sem, ↓reduceIte]) (by simp only [go_sem, ↓reduceIte, hu] <;> rfl)
  rintro _ -
  generalize underI q (n - 1) t = r at *
  obtain ⟨rb, re⟩ := r
  simp only at hul ⊢
  refine AW.go ?_
  refine AW.cond rfl (fun hc => ?_) (fun hc => ?_)
  · have he : re ≠ 0 := by simpa using hc
    rw [okL2_err he]
    refine AW.go ?_
    refine AW.finE (.move rfl (.pv _ .nil)) rfl
  · have he : re = 0 := by simpa using hc
    subst he
    rw [okL2_ok]
    have h2 : (1 + rb.length) * 8 ≤ room := by omega
    have h3 : 1 + rb.length ≤ room := by omega
    refine AW.go ?_ (by simp only [go_sem, ↓reduceIte, u64s_one, List.length_cons, List.length_nil, Nat.zero_add, List.cons_append, List.nil_append, h2, h3] <;> rfl)
    refine AW.finE (.move rfl (.pv _ .nil)) rfl
end Go.Ck

set_option linter.unusedVariables false
set_option maxRecDepth 10000
set_option maxHeartbeats 1000000
namespace Go.Ck
open Go.Proofs

theorem refDecI_fn (b : List Nat) (w : Int) (hl : b.length ≤ 2 ^ 40) (hb : ∀ x ∈ b, x < 256) : Fn Try.prog 17 [] [.pv (.sl 1 (bytes b)), .pv (.int .i64 w)]
    (fun rs H' => rs = [.own 3 (ints (decI b w).1), .pv (.int .i64 (decI b w).2)] ∧ H' = []) := by
  refine Fn.of_body (fn := Try.f17) (n := 84) (res := [.tmp 4, .tmp 5]) (by kernel_rfl) rfl rfl rfl rfl rfl (fun C => ?_)
  have hr : room = 140737488355328 := rfl
  unfold decI
  by_cases hw : w < 0 ∨ 65536 < w
  · rw [if_pos hw]
    by_cases h0 : w < 0
    · have d0 : decide (w < 0) = true := decide_eq_true h0
      refine AW.gg ?_ (by simp only [go_sem, ↓reduceIte, d0] <;> rfl)
      refine AW.condT rfl ?_
      refine AW.go ?_
      refine AW.finE (.move rfl (.pv _ .nil)) rfl
    · have d0 : decide (w < 0) = false := decide_eq_false h0
      have d5 : decide (w > 65536) = true := decide_eq_true (by omega)
      have d5' : decide (65536 < w) = true := decide_eq_true (by omega)
      refine AW.gg ?_ (by simp only [go_sem, ↓reduceIte, d0, d5, d5'] <;> rfl)
      refine AW.condT rfl ?_
      refine AW.go ?_
      refine AW.finE (.move rfl (.pv _ .nil)) rfl
  rw [if_neg hw]
  obtain ⟨n, rfl⟩ : ∃ n : Nat, w = n := ⟨w.toNat, by omega⟩
  have hn : n ≤ 65536 := by omega
  rw [Int.toNat_natCast]
  have d5 : decide ((n : Int) > 65536) = false := decide_eq_false (by omega)
  have d5' : decide ((65536 : Int) < (n : Int)) = false := decide_eq_false (by omega)
  refine AW.gg ?_ (by simp only [go_sem, ↓reduceIte, d5, d5'] <;> rfl)
  refine AW.condF rfl ?_
  cases b with
  | nil =>
    refine AW.go ?_
    refine AW.condT rfl ?_
    refine AW.go ?_
    refine AW.finE (.move rfl (.pv _ .nil)) rfl
  | cons t l =>
    have htb := hb t (by simp)
    have hbl : ∀ x ∈ l, x < 256 := fun x hx => hb x (by simp [hx])
    simp only [List.length_cons] at hl
    have e0 : (((t :: l).length : Int) == 0) = false := by simp; omega
    have hg0 := bytes_get0 t l
    have ec : IntKind.i64.wrap ((t : Nat) : Int) = (t : Int) := wrap_i64_nat (by omega)
    refine AW.go ?_ (by simp only [go_sem, ↓reduceIte, e0] <;> rfl)
    refine AW.condF rfl ?_
    refine AW.go ?_ (by simp only [go_sem, ↓reduceIte, hg0, ec] <;> rfl)
    simp only [decI1]
    refine AW.cond rfl (fun hc => ?_) (fun hc => ?_)
    · have h5 : 5 ≤ t := by simp at hc; omega
      simp only [if_pos h5]
      refine AW.go ?_
      refine AW.finE (.move rfl (.pv _ .nil)) rfl
    have h5 : ¬ 5 ≤ t := by simp at hc; omega
    simp only [if_neg h5]
    have hinv := rdI_inv n t hbl
    have v1 : (1 : Int) ≤ ((l.length + 1 : Nat) : Int) := by omega
    have v2 : (((l.length + 1 : Nat) : Int) - 1).toNat = l.length := by omega
    have v3 : ((bytes (t :: l)).drop 1).take l.length = bytes l := by
      show (bytes l).take l.length = bytes l
      rw [List.take_of_length_le (by rw [bytes_length]; exact Nat.le_refl _)]
    refine AW.go ?_ (by simp only [go_sem, ↓reduceIte, List.length_cons, v1, v2, List.take_length] <;> rfl)
    refine AW.callE (fun _ => 0) (read08_fn l n t hn (by omega) (by omega) hbl) (.pv _ (.pv _ (.pv _ .nil))) ?_
    refine AW.freeze (p := .part 34 0) (by simp only [go_sem, ↓reduceIte, freeze, freezeO] <;> rfl) ?_
    unfold decI0
    have hvr := valI_r (rdI l n t).1 t hinv.2
    generalize rdI l n t = r at *
    obtain ⟨z, e⟩ := r
    obtain ⟨i1, i2⟩ := hinv
    simp only at hvr i1 i2 ⊢
    by_cases he : e ≠ 0
    · rw [okL2_err he]
      simp only [if_pos he]
      have heb : (e != 0) = true := by simpa using he
      refine AW.go ?_ (by simp only [go_sem, ↓reduceIte, heb] <;> rfl)
      refine AW.condT rfl ?_
      refine AW.go ?_
      refine AW.finE (.move rfl (.pv _ .nil)) rfl
    have he : e = 0 := by simpa using he
    subst he
    rw [okL2_ok]
    simp only [ne_eq, not_true_eq_false, if_false]
    refine AW.go ?_
    refine AW.condF rfl ?_
    refine AW.go ?_
    refine AW.loopS (fun i : Nat => ⟨84, [(10, .pv (.int .i64 i)), (9, .own 3 (ints ((z.take i).map (if t = 0 then i64of else zag)))), (7, .pv (.sl 1 (u64s z))), (6, .pv (.int .i64 t)), (0, .pv (.sl 1 (bytes (t :: l))))], []⟩) (fun i => i ≤ z.length) (fun i => z.length - i) [10, 9, 7, 6, 0] [] 0 (Nat.zero_le _) ?_
    rintro i hi K hK
    refine AW.go ?_
    refine AW.cond rfl (fun hc2 => ?_) (fun hc2 => ?_)
    · have hlt : i < z.length := by simpa using hc2
      have hget := u64s_get hlt
      have hti : (z.take (i + 1)).map (if t = 0 then i64of else zag) = (z.take i).map (if t = 0 then i64of else zag) ++ [(if t = 0 then i64of else zag) z[i]] := by rw [← List.map_singleton, ← List.map_append]; congr 1; simp
      have hxx := i2 _ (List.getElem_mem hlt)
      generalize z[i] = x at *
      have ei : IntKind.i64.wrap ((i : Int) + 1) = ((i + 1 : Nat) : Int) := wrap_i64_succ (by omega)
      have hml : ((z.take i).map (if t = 0 then i64of else zag)).length = i := by simp; omega
      have h1 : (i + 1) * 8 ≤ room := by omega
      have h2 : i + 1 ≤ room := by omega
      generalize (z.take i).map (if t = 0 then i64of else zag) = m at *
      refine AW.go ?_
      refine AW.cond rfl (fun hc3 => ?_) (fun hc3 => ?_)
      · have h0 : t = 0 := by simpa using hc3
        have hg : (if t = 0 then i64of else zag) x = i64of x := by rw [if_pos h0]
        rw [hg] at hti
        have hdv := i64of_def x
        refine AW.go ?_ (by simp only [go_sem, ↓reduceIte, hget, hlt, hdv, hml, ints_one, h1, h2, ← hti, ei] <;> rfl)
        refine AW.again hK (i + 1) hlt (by omega)
      · have h0 : ¬ t = 0 := by simpa using hc3
        have hg : (if t = 0 then i64of else zag) x = zag x := by rw [if_neg h0]
        rw [hg] at hti
        refine AW.go ?_ (by simp only [go_sem, ↓reduceIte, hget, hlt] <;> rfl)
        refine AW.callE (fun _ => 0) (refZag_fn x hxx) (.pv _ .nil) ?_
        refine AW.go ?_ (by simp only [go_sem, ↓reduceIte, hml, ints_one, h1, h2, ← hti, ei] <;> rfl)
        refine AW.again hK (i + 1) hlt (by omega)
    have hge : ¬ i < z.length := by simpa using hc2
    rw [List.take_of_length_le (by omega)]
    clear hK hc2
    refine AW.go ?_
    refine AW.joinS (fun _ : Unit => ⟨84, [(9, .own 3 (ints (valI z t))), (0, .pv (.sl 1 (bytes (t :: l))))], []⟩) (fun _ => True) [9, 0] [] ?_ ?_
    · intro K hK
      refine AW.cond rfl (fun hc2 => ?_) (fun hc2 => ?_)
      · have h0 : ¬ t = 0 := by simp at hc2; omega
        have hva : valI z t = sumS (z.map zag) (oft t) := by unfold valI; rw [if_neg h0]
        have hg : (if t = 0 then i64of else zag) = zag := if_neg h0
        rw [hg]
        have hml : (z.map zag).length = z.length := by simp
        refine AW.go ?_
        refine AW.joinS (fun _ : Unit => ⟨84, [(11, .pv (.int .i64 (oft t : Nat))), (9, .own 3 (ints (z.map zag))), (0, .pv (.sl 1 (bytes (t :: l))))], []⟩) (fun _ => True) [11, 9, 0] [] ?_ ?_
        · intro K2 hK2
          refine AW.cond rfl (fun hc3 => ?_) (fun hc3 => ?_)
          · have h3 : 3 ≤ t := by simp at hc3; omega
            have ho : ((oft t : Nat) : Int) = 2 := by unfold oft; rw [if_neg h0, if_pos (by omega)]; rfl
            refine AW.go ?_
            refine AW.meet hK2 () trivial (by simp only [go_sem, ↓reduceIte]) (by simp only [go_sem, ↓reduceIte, ho] <;> rfl)
          · have h3 : ¬ 3 ≤ t := by simp at hc3; omega
            have ho : ((oft t : Nat) : Int) = 1 := by unfold oft; rw [if_neg h0, if_neg (by omega)]; rfl
            refine AW.go ?_
            refine AW.meet hK2 () trivial (by simp only [go_sem, ↓reduceIte]) (by simp only [go_sem, ↓reduceIte, ho] <;> rfl)
        rintro _ -
        refine AW.go ?_
        refine AW.callE (fun _ => 0) (refSum_fn (z.map zag) (oft t) (oft_le t) (by omega)) (.lend rfl co_3 (.pv _ .nil)) ?_
        refine AW.go ?_
        refine AW.meet hK () trivial (by simp only [go_sem, ↓reduceIte]) (by simp only [go_sem, ↓reduceIte, hva] <;> rfl)
      · have h0 : t = 0 := by simp at hc2; omega
        have hva : valI z t = z.map i64of := by unfold valI; rw [if_pos h0]
        have hg : (if t = 0 then i64of else zag) = i64of := if_pos h0
        rw [hg]
        refine AW.go ?_
        refine AW.meet hK () trivial (by simp only [go_sem, ↓reduceIte]) (by simp only [go_sem, ↓reduceIte, hva] <;> rfl)
    rintro _ -
    generalize valI z t = xs at *
    have hel := encI_room hvr
    refine AW.go ?_
    refine AW.callE (fun _ => 0) (refEncI_fn xs hvr) (.lend rfl co_3 .nil) ?_
    refine AW.go ?_
    refine AW.callE (fun _ => 0) (ref01Same_fn (encI xs).1 (t :: l) (by omega)) (.lend rfl co_5 (.pv _ .nil)) ?_
    by_cases hq : (encI xs).1 = t :: l
    · rw [decide_eq_true hq]
      simp only [if_pos hq]
      refine AW.go ?_
      refine AW.condF rfl ?_
      refine AW.go ?_
      refine AW.finE (.move rfl (.pv _ .nil)) rfl
    · rw [decide_eq_false hq]
      simp only [if_neg hq]
      refine AW.go ?_
      refine AW.condT rfl ?_
      refine AW.go ?_
      refine AW.finE (.move rfl (.pv _ .nil)) rfl
end Go.Ck

set_option linter.unusedVariables false
namespace Go.Ck
theorem awakeI_enc : encI [10, 20, 30, 40] = ([2, 20, 20, 0], 0) := by decide +kernel
theorem awakeI_dec : decI [2, 20, 20, 0] 4 = ([10, 20, 30, 40], 0) := by decide +kernel
end Go.Ck
namespace Go.Ck
theorem valI_len (z : List Nat) (t : Nat) : (valI z t).length = z.length := by
  unfold valI
  split
  · simp
  · rw [sumS_len, List.length_map]
theorem decI_len {b : List Nat} (hb : ∀ x ∈ b, x < 256) (n : Int) : (decI b n).1.length ≤ 70000 := by
  unfold decI
  split
  · simp
  · unfold decI1
    split
    · simp
    · split
      · simp
      · rename_i t l h2
        unfold decI0
        have := (rdI_inv (l := l) n.toNat t (fun x hx => hb x (by simp [hx]))).1
        split
        · simp
        · split
          · simp only [valI_len]; omega
          · simp
end Go.Ck

set_option linter.unusedVariables false
set_option maxRecDepth 10000
set_option maxHeartbeats 1000000
namespace Go.Ck
open Go.Proofs

theorem awake08_fn : Fn Try.prog 10 [] [] (fun rs H' => rs = [.pv (.bool true)] ∧ H' = []) := by
  refine Fn.of_body (fn := Try.f10) (n := 31) (res := [.tmp 0]) (by kernel_rfl) rfl rfl rfl rfl rfl (fun C => ?_)
  have b1 : [PV.int .u8 2, .int .u8 20, .int .u8 20, .int .u8 0] = bytes [2, 20, 20, 0] := rfl
  have b2 : [PV.int .i64 10, .int .i64 20, .int .i64 30, .int .i64 40] = ints [10, 20, 30, 40] := rfl
  refine AW.go ?_ (by simp only [go_sem, ↓reduceIte, b1, b2] <;> rfl)
  refine AW.callE (fun _ => 0) (encI_fn [10, 20, 30, 40] (by intro x hx; simp at hx; unfold i64r; omega)) (.lend rfl co_3 .nil) ?_
  rw [awakeI_enc]
  refine AW.go ?_ (by simp only [go_sem, ↓reduceIte, b1] <;> rfl)
  refine AW.callE (fun _ => 0) (decI_fn [2, 20, 20, 0] 4 (by decide) (by decide)) (.lend rfl co_5 (.pv _ .nil)) ?_
  rw [awakeI_dec]
  refine AW.gg ?_ (by simp only [go_sem, ↓reduceIte, b1] <;> rfl)
  refine AW.guardT rfl rfl ?_
  refine AW.callE (fun _ => 0) (ref01Same_fn [2, 20, 20, 0] [2, 20, 20, 0] (by decide)) (.lend rfl co_5 (.lend rfl co_5 .nil)) ?_
  refine AW.gg ?_ (by simp only [go_sem, ↓reduceIte, b2, decide_true] <;> rfl)
  refine AW.guardT rfl rfl ?_
  refine AW.callE (fun _ => 0) (ref04Same_fn [10, 20, 30, 40] [10, 20, 30, 40] (by decide)) (.lend rfl co_3 (.lend rfl co_3 .nil)) ?_
  refine AW.gg ?_ (by simp only [go_sem, ↓reduceIte, decide_true] <;> rfl)
  refine AW.finE (.pv _ .nil) rfl

theorem law08ways_fn (xs : List Int) (w : Int) (hx : ∀ x ∈ xs, i64r x) : Fn Try.prog 3 [] [.pv (.sl 1 (ints xs)), .pv (.int .i64 w)] (fun rs H' => rs = [.pv (.bool true)] ∧ H' = []) := by
  refine Fn.of_body (fn := Try.f3) (n := 43) (res := [.tmp 4]) (by kernel_rfl) rfl rfl rfl rfl rfl (fun C => ?_)
  have ee : ∀ e : Int, (e == e) = true := fun e => by simp
  refine AW.go ?_
  refine AW.callE (fun _ => 0) awake08_fn .nil ?_
  by_cases h1 : 300 < xs.length
  · have d1 : decide ((xs.length : Int) > 300) = true := decide_eq_true (by omega)
    by_cases h2 : xs.length ≤ 65536
    · have d2 : decide ((xs.length : Int) ≤ 65536) = true := decide_eq_true (by omega)
      refine AW.gg ?_ (by simp only [go_sem, ↓reduceIte, d1, d2] <;> rfl)
      refine AW.condT rfl ?_
      refine AW.go ?_
      refine AW.finE (.pv _ .nil) rfl
    have d2 : decide ((xs.length : Int) ≤ 65536) = false := decide_eq_false (by omega)
    refine AW.gg ?_ (by simp only [go_sem, ↓reduceIte, d1, d2] <;> rfl)
    refine AW.condF rfl ?_
    refine AW.go ?_
    refine AW.callE (fun _ => 0) (wayIn_fn xs w hx) (.pv _ (.pv _ .nil)) ?_
    refine AW.go ?_
    refine AW.callE (fun _ => 0) (refWayIn_fn xs w hx) (.pv _ (.pv _ .nil)) ?_
    refine AW.gg ?_ (by simp only [go_sem, ↓reduceIte, ee] <;> rfl)
    refine AW.guardT rfl rfl ?_
    refine AW.callE (fun _ => 0) (ref01Same_fn (wayI xs w).1 (wayI xs w).1 (Nat.le_trans (wayI_len w hx) (by decide))) (.lend rfl co_5 (.lend rfl co_5 .nil)) ?_
    refine AW.gg ?_ (by simp only [go_sem, ↓reduceIte, decide_true] <;> rfl)
    refine AW.finE (.pv _ .nil) rfl
  · have d1 : decide ((xs.length : Int) > 300) = false := decide_eq_false (by omega)
    refine AW.gg ?_ (by simp only [go_sem, ↓reduceIte, d1] <;> rfl)
    refine AW.condF rfl ?_
    refine AW.go ?_
    refine AW.callE (fun _ => 0) (wayIn_fn xs w hx) (.pv _ (.pv _ .nil)) ?_
    refine AW.go ?_
    refine AW.callE (fun _ => 0) (refWayIn_fn xs w hx) (.pv _ (.pv _ .nil)) ?_
    refine AW.gg ?_ (by simp only [go_sem, ↓reduceIte, ee] <;> rfl)
    refine AW.guardT rfl rfl ?_
    refine AW.callE (fun _ => 0) (ref01Same_fn (wayI xs w).1 (wayI xs w).1 (Nat.le_trans (wayI_len w hx) (by decide))) (.lend rfl co_5 (.lend rfl co_5 .nil)) ?_
    refine AW.gg ?_ (by simp only [go_sem, ↓reduceIte, decide_true] <;> rfl)
    refine AW.finE (.pv _ .nil) rfl

theorem law08encodes_fn (xs : List Int) (hx : ∀ x ∈ xs, i64r x) : Fn Try.prog 4 [] [.pv (.sl 1 (ints xs))] (fun rs H' => rs = [.pv (.bool true)] ∧ H' = []) := by
  refine Fn.of_body (fn := Try.f4) (n := 39) (res := [.tmp 2]) (by kernel_rfl) rfl rfl rfl rfl rfl (fun C => ?_)
  have ee : ∀ e : Int, (e == e) = true := fun e => by simp
  refine AW.go ?_
  refine AW.callE (fun _ => 0) awake08_fn .nil ?_
  by_cases h1 : 300 < xs.length
  · have d1 : decide ((xs.length : Int) > 300) = true := decide_eq_true (by omega)
    by_cases h2 : xs.length ≤ 65536
    · have d2 : decide ((xs.length : Int) ≤ 65536) = true := decide_eq_true (by omega)
      refine AW.gg ?_ (by simp only [go_sem, ↓reduceIte, d1, d2] <;> rfl)
      refine AW.condT rfl ?_
      refine AW.go ?_
      refine AW.finE (.pv _ .nil) rfl
    have d2 : decide ((xs.length : Int) ≤ 65536) = false := decide_eq_false (by omega)
    refine AW.gg ?_ (by simp only [go_sem, ↓reduceIte, d1, d2] <;> rfl)
    refine AW.condF rfl ?_
    refine AW.go ?_
    refine AW.callE (fun _ => 0) (encI_fn xs hx) (.pv _ .nil) ?_
    refine AW.go ?_
    refine AW.callE (fun _ => 0) (refEncI_fn xs hx) (.pv _ .nil) ?_
    refine AW.gg ?_ (by simp only [go_sem, ↓reduceIte, ee] <;> rfl)
    refine AW.guardT rfl rfl ?_
    refine AW.callE (fun _ => 0) (ref01Same_fn (encI xs).1 (encI xs).1 (Nat.le_trans (encI_room hx) (by decide))) (.lend rfl co_5 (.lend rfl co_5 .nil)) ?_
    refine AW.gg ?_ (by simp only [go_sem, ↓reduceIte, decide_true] <;> rfl)
    refine AW.finE (.pv _ .nil) rfl
  · have d1 : decide ((xs.length : Int) > 300) = false := decide_eq_false (by omega)
    refine AW.gg ?_ (by simp only [go_sem, ↓reduceIte, d1] <;> rfl)
    refine AW.condF rfl ?_
    refine AW.go ?_
    refine AW.callE (fun _ => 0) (encI_fn xs hx) (.pv _ .nil) ?_
    refine AW.go ?_
    refine AW.callE (fun _ => 0) (refEncI_fn xs hx) (.pv _ .nil) ?_
    refine AW.gg ?_ (by simp only [go_sem, ↓reduceIte, ee] <;> rfl)
    refine AW.guardT rfl rfl ?_
    refine AW.callE (fun _ => 0) (ref01Same_fn (encI xs).1 (encI xs).1 (Nat.le_trans (encI_room hx) (by decide))) (.lend rfl co_5 (.lend rfl co_5 .nil)) ?_
    refine AW.gg ?_ (by simp only [go_sem, ↓reduceIte, decide_true] <;> rfl)
    refine AW.finE (.pv _ .nil) rfl

theorem law08decodes_fn (l : List Nat) (n : Int) (hb : ∀ x ∈ l, x < 256) : Fn Try.prog 5 [] [.pv (.sl 1 (bytes l)), .pv (.int .i64 n)] (fun rs H' => rs = [.pv (.bool true)] ∧ H' = []) := by
  refine Fn.of_body (fn := Try.f5) (n := 46) (res := [.tmp 4]) (by kernel_rfl) rfl rfl rfl rfl rfl (fun C => ?_)
  have ee : ∀ e : Int, (e == e) = true := fun e => by simp
  have hr : room = 140737488355328 := rfl
  refine AW.go ?_
  refine AW.callE (fun _ => 0) awake08_fn .nil ?_
  by_cases h1 : 300 < l.length
  · have d1 : decide ((l.length : Int) > 300) = true := decide_eq_true (by omega)
    refine AW.gg ?_ (by simp only [go_sem, ↓reduceIte, d1] <;> rfl)
    refine AW.condT rfl ?_
    refine AW.go ?_
    refine AW.finE (.pv _ .nil) rfl
  have d1 : decide ((l.length : Int) > 300) = false := decide_eq_false (by omega)
  have hlen : (decI l n).1.length ≤ room := Nat.le_trans (decI_len hb n) (by decide)
  by_cases h2 : 600 < n
  · have d2 : decide (n > 600) = true := decide_eq_true (by omega)
    by_cases h3 : n ≤ 65536
    · have d3 : decide (n ≤ 65536) = true := decide_eq_true h3
      refine AW.gg ?_ (by simp only [go_sem, ↓reduceIte, d1, d2, d3] <;> rfl)
      refine AW.condT rfl ?_
      refine AW.go ?_
      refine AW.finE (.pv _ .nil) rfl
    have d3 : decide (n ≤ 65536) = false := decide_eq_false h3
    refine AW.gg ?_ (by simp only [go_sem, ↓reduceIte, d1, d2, d3] <;> rfl)
    refine AW.condF rfl ?_
    refine AW.go ?_
    refine AW.callE (fun _ => 0) (decI_fn l n (by omega) hb) (.pv _ (.pv _ .nil)) ?_
    refine AW.go ?_
    refine AW.callE (fun _ => 0) (refDecI_fn l n (by omega) hb) (.pv _ (.pv _ .nil)) ?_
    refine AW.gg ?_ (by simp only [go_sem, ↓reduceIte, ee] <;> rfl)
    refine AW.guardT rfl rfl ?_
    refine AW.callE (fun _ => 0) (ref04Same_fn (decI l n).1 (decI l n).1 hlen) (.lend rfl co_3 (.lend rfl co_3 .nil)) ?_
    refine AW.gg ?_ (by simp only [go_sem, ↓reduceIte, decide_true] <;> rfl)
    refine AW.finE (.pv _ .nil) rfl
  · have d2 : decide (n > 600) = false := decide_eq_false (by omega)
    refine AW.gg ?_ (by simp only [go_sem, ↓reduceIte, d1, d2] <;> rfl)
    refine AW.condF rfl ?_
    refine AW.go ?_
    refine AW.callE (fun _ => 0) (decI_fn l n (by omega) hb) (.pv _ (.pv _ .nil)) ?_
    refine AW.go ?_
    refine AW.callE (fun _ => 0) (refDecI_fn l n (by omega) hb) (.pv _ (.pv _ .nil)) ?_
    refine AW.gg ?_ (by simp only [go_sem, ↓reduceIte, ee] <;> rfl)
    refine AW.guardT rfl rfl ?_
    refine AW.callE (fun _ => 0) (ref04Same_fn (decI l n).1 (decI l n).1 hlen) (.lend rfl co_3 (.lend rfl co_3 .nil)) ?_
    refine AW.gg ?_ (by simp only [go_sem, ↓reduceIte, decide_true] <;> rfl)
    refine AW.finE (.pv _ .nil) rfl
end Go.Ck

set_option linter.unusedVariables false
/-! Intcodec: there and back. -/
namespace Go.Ck
/-! words of eight bytes -/
theorem rwN_raw : ∀ (xs : List Int) (acc : List Nat), rwN xs.length acc (raw8 xs) = (acc ++ xs.map u64of, 0)
  | [], acc => by simp [rwN, raw8]
  | x :: xs, acc => by
    have e : raw8 (x :: xs) = beB (u64of x) 8 ++ raw8 xs := by simp [raw8]
    have h8 : (beB (u64of x) 8).length = 8 := beB_len _ _
    rw [List.length_cons, rwN, e, if_neg (by rw [List.length_append]; omega)]
    have ht : (beB (u64of x) 8 ++ raw8 xs).take 8 = beB (u64of x) 8 := List.take_left' h8
    have hd : (beB (u64of x) 8 ++ raw8 xs).drop 8 = raw8 xs := List.drop_left' h8
    rw [ht, hd, beN8 (u64of_lt x), rwN_raw xs]
    simp
theorem rvN_lebs : ∀ (z : List Nat) (acc : List Nat), (∀ x ∈ z, x < 2 ^ 64) → rvN z.length acc (lebs z) = (acc ++ z, 0)
  | [], acc, _ => by simp [rvN, lebs]
  | x :: z, acc, h => by
    rw [List.length_cons, rvN, lebs_cons, readV_leb (h x (by simp))]
    simp only [ne_eq, not_true_eq_false, if_false, List.drop_left]
    rw [rvN_lebs z _ (fun y hy => h y (by simp [hy]))]
    simp
/-! frames -/
theorem unF_pack {z : List Nat} (h : ∀ x ∈ z, x < 2 ^ 64) : unF (packF z) z.length = (z, 0) := by
  have hlo := lo_lt (by omega) h
  have hw := wF_le h
  have hr := readV_leb hlo (wF z :: pk (bitsF z (lo z) (wF z)))
  unfold unF packF
  rw [hr]
  simp only [ne_eq, not_true_eq_false, if_false, List.drop_left, unF1]
  have hbl := bitsF_len z (lo z) (wF z)
  have hpl := pk_len (bitsF z (lo z) (wF z))
  have hub := unb_pk (bitsF_bit z (lo z) (wF z))
  have hval : ∀ i, (hi : i < z.length) → valF (pk (bitsF z (lo z) (wF z))) (wF z) i + lo z = z[i] := by
    intro i hi
    have hm := List.getElem_mem hi
    unfold valF getB
    rw [hub, Nat.mul_comm i]
    unfold bitsF
    rw [flat_takeN (fun x => binB (x - lo z) (wF z)) (wF z) (fun x => binB_len _ _) z _ i hi, binN_binB, Nat.mod_eq_of_lt (wF_fit hm)]
    have := lo_le hm
    omega
  have hvals : valsF (pk (bitsF z (lo z) (wF z))) (wF z) z.length (lo z) = z := by
    refine List.ext_getElem (valsF_len _ _ _ _) (fun i h1 h2 => ?_)
    simp only [valsF, List.getElem_map, List.getElem_range]
    exact hval i h2
  have hok : okF (pk (bitsF z (lo z) (wF z))) (wF z) z.length (lo z) = true := by
    rw [okF, List.all_eq_true]
    intro i hi
    simp only [List.mem_range] at hi
    rw [decide_eq_true_eq, hval i hi]
    exact h _ (List.getElem_mem hi)
  have hend : endF (pk (bitsF z (lo z) (wF z))) (z.length * wF z) = true := by
    unfold endF
    rw [hub]
    simp only [Bool.and_eq_true, decide_eq_true_eq]
    refine ⟨by omega, ?_⟩
    rw [← hbl, List.drop_left]
    intro x hx
    exact List.eq_of_mem_replicate hx
  rw [if_neg (by omega), if_neg (by omega)]
  unfold unF2
  rw [hok, hend, hvals]
  simp
/-! words of sixty bits -/
theorem hornB_div {w : Nat} : ∀ (l : List Nat), (∀ x ∈ l, x < 2 ^ w) → ∀ j, j ≤ l.length → hornB w l / 2 ^ ((l.length - j) * w) = hornB w (l.take j) := by
  intro l
  induction l using snoc_ind with
  | h0 => intro _ j hj; simp [hornB]
  | h1 l b ih =>
    intro h j hj
    rw [List.length_append, List.length_singleton] at hj ⊢
    by_cases hjl : j = l.length + 1
    · subst hjl
      rw [Nat.sub_self, Nat.zero_mul, Nat.pow_zero, Nat.div_one, List.take_of_length_le (by simp)]
    · have hb := h b (by simp)
      have e : (l.length + 1 - j) * w = w + (l.length - j) * w := by rw [show l.length + 1 - j = (l.length - j) + 1 by omega, Nat.succ_mul]; omega
      rw [e, Nat.pow_add, ← Nat.div_div_eq_div_mul, hornB_snoc]
      have e2 : (hornB w l * 2 ^ w + b) / 2 ^ w = hornB w l := by
        rw [Nat.add_comm, Nat.add_mul_div_right _ _ (Nat.two_pow_pos w), Nat.div_eq_of_lt hb, Nat.zero_add]
      rw [e2, ih (fun x hx => h x (by simp [hx])) j (by omega), List.take_append_of_le_length (by omega)]
theorem unS_word {z : List Nat} {s : Nat} (hs : s < 16) (hf : fitS z s = true) : unS (wordS z s) = z.take (cn s) := by
  obtain ⟨c1, c2, c3, c4⟩ := cw s hs
  obtain ⟨hcl, hfit⟩ := fitS_len hf
  have hwl := (wordS_lt hs hf).1
  have hdiv : wordS z s / 2 ^ 60 = s := by
    unfold wordS
    rw [Nat.add_comm, Nat.add_mul_div_right _ _ (Nat.two_pow_pos 60), Nat.div_eq_of_lt hwl, Nat.zero_add]
  unfold unS
  rw [hdiv]
  have hql : (z.take (cn s)).length = cn s := by rw [List.length_take]; omega
  refine List.ext_getElem (by rw [valsS_len, hql]) (fun i h1 h2 => ?_)
  simp only [valsS, List.getElem_map, List.getElem_range, hdiv]
  unfold wordS
  generalize hq : z.take (cn s) = q at *
  have hi : i < cn s := by omega
  generalize cn s = c at *
  generalize wn s = w at *
  have hm : (i + 1) * w ≤ c * w := Nat.mul_le_mul_right _ hi
  have e1 : 60 - c * w = (60 - (i + 1) * w) - (c - (i + 1)) * w := by rw [Nat.sub_mul]; omega
  have hcm : (c - (i + 1)) * w ≤ 60 - (i + 1) * w := by rw [Nat.sub_mul]; omega
  -- everything over 2 ^ (60 - (i+1) w)
  have e60 : 2 ^ 60 = 2 ^ ((i + 1) * w) * 2 ^ (60 - (i + 1) * w) := by rw [← Nat.pow_add]; congr 1; omega
  have hsplit : hornB w q * 2 ^ (60 - c * w) / 2 ^ (60 - (i + 1) * w) = hornB w (q.take (i + 1)) := by
    have e3 : 2 ^ (60 - (i + 1) * w) = 2 ^ (60 - c * w) * 2 ^ ((c - (i + 1)) * w) := by rw [← Nat.pow_add]; congr 1; rw [Nat.sub_mul]; omega
    rw [e3, Nat.mul_comm (hornB w q), Nat.mul_div_mul_left _ _ (Nat.two_pow_pos _), ← hornB_div q hfit (i + 1) (by omega), hql]
  have e4 : (s * 2 ^ 60 + hornB w q * 2 ^ (60 - c * w)) / 2 ^ (60 - (i + 1) * w) = s * 2 ^ ((i + 1) * w) + hornB w (q.take (i + 1)) := by
    rw [e60, ← Nat.mul_assoc, Nat.add_comm, Nat.add_mul_div_right _ _ (Nat.two_pow_pos _), hsplit, Nat.add_comm]
  rw [e4]
  have ht : q.take (i + 1) = q.take i ++ [q[i]] := by simp
  rw [ht, hornB_snoc]
  have e5 : s * 2 ^ ((i + 1) * w) + (hornB w (q.take i) * 2 ^ w + q[i]) = (s * 2 ^ (i * w) + hornB w (q.take i)) * 2 ^ w + q[i] := by
    have e6 : (s * 2 ^ (i * w) + hornB w (q.take i)) * 2 ^ w = s * 2 ^ (i * w) * 2 ^ w + hornB w (q.take i) * 2 ^ w := Nat.add_mul _ _ _
    rw [e6, Nat.mul_assoc s, ← Nat.pow_add, show (i + 1) * w = i * w + w from Nat.succ_mul _ _]; omega
  rw [e5, Nat.mul_add_mod_self_right, Nat.mod_eq_of_lt (hfit _ (List.getElem_mem _))]
theorem rdS_enc (n : Nat) : ∀ (k : Nat) (z acc : List Nat), z.length ≤ k → (∀ x ∈ z, x < 2 ^ 60) → acc.length + z.length = n → rdS n acc (encS z) = (acc ++ z, [], 0) := by
  intro k
  induction k with
  | zero =>
    intro z acc hk _ hn
    have h0 : z = [] := List.length_eq_zero_iff.1 (by omega)
    subst h0
    rw [rdS_end (by simp at hn; omega), encS_nil, List.append_nil]
  | succ k ih =>
    intro z acc hk hz hn
    by_cases h0 : z = []
    · subst h0
      rw [rdS_end (by simp at hn; omega), encS_nil, List.append_nil]
    · have hpos : 0 < z.length := by cases z with | nil => exact absurd rfl h0 | cons a r => simp
      have hs := fstS_lt z
      have hf := fstS_fit h0 hz
      have hc := cw _ hs
      have hcl := (fitS_len hf).1
      have hwl := (wordS_lt hs hf).2
      have h8 : (beB (wordS z (fstS z)) 8).length = 8 := beB_len _ _
      rw [encS_cons h0]
      have ht : (beB (wordS z (fstS z)) 8 ++ encS (z.drop (cn (fstS z)))).take 8 = beB (wordS z (fstS z)) 8 := List.take_left' h8
      have hd : (beB (wordS z (fstS z)) 8 ++ encS (z.drop (cn (fstS z)))).drop 8 = encS (z.drop (cn (fstS z))) := List.drop_left' h8
      rw [rdS_step (by omega) (by rw [List.length_append]; omega), ht, hd, beN8 hwl, unS_word hs hf, ih _ _ (by rw [List.length_drop]; omega) (fun x hx => hz x (List.mem_of_mem_drop hx)) (by rw [List.length_append, List.length_take, List.length_drop]; omega), List.append_assoc, List.take_append_drop]
theorem decS_enc {z : List Nat} (h : ∀ x ∈ z, x < 2 ^ 60) : decS (encS z) z.length = (z, 0) := by
  unfold decS
  rw [rdS_enc z.length z.length z [] (Nat.le_refl _) h (by simp)]
  simp
/-! runs -/
theorem run_split {z : List Nat} (h : z ≠ []) : ∃ x m r, z = List.replicate (m + 1) x ++ r ∧ r.head? ≠ some x := by
  induction z with
  | nil => exact absurd rfl h
  | cons x z ih =>
    cases z with
    | nil => exact ⟨x, 0, [], rfl, by simp⟩
    | cons y z =>
      by_cases hxy : y = x
      · obtain ⟨x', m, r, e, hr⟩ := ih (by simp)
        have hx' : x' = y := by
          have := congrArg List.head? e
          simp [List.replicate_succ] at this
          exact this.symm
        subst hx'
        subst hxy
        exact ⟨x', m + 1, r, by rw [e]; rfl, hr⟩
      · exact ⟨x, 0, y :: z, rfl, by simpa using hxy⟩
theorem rdR_enc (n : Nat) (hn16 : n ≤ 65536) : ∀ (k : Nat) (z acc : List Nat), z.length ≤ k → (∀ x ∈ z, x < 2 ^ 64) → acc.length + z.length = n → (z ≠ [] → acc.getLast? ≠ z.head?) → rdR n acc (encRn 0 z) = (acc ++ z, [], 0) := by
  intro k
  induction k with
  | zero =>
    intro z acc hk _ hn _
    have h0 : z = [] := List.length_eq_zero_iff.1 (by omega)
    subst h0
    rw [rdR_end (by simp at hn; omega), encRn_nil, List.append_nil]
  | succ k ih =>
    intro z acc hk hz hn hlast
    by_cases h0 : z = []
    · subst h0
      rw [rdR_end (by simp at hn; omega), encRn_nil, List.append_nil]
    · have hlast := hlast h0
      obtain ⟨x, m, r, rfl, hr⟩ := run_split h0
      rw [List.length_append, List.length_replicate] at hn hk
      have hx : x < 2 ^ 64 := hz x (by simp [List.replicate_succ])
      have hh : (List.replicate (m + 1) x ++ r).head? = some x := by simp [List.replicate_succ]
      rw [hh] at hlast
      have h1 := readV_leb hx (leb m ++ encRn 0 r)
      have h2 := readV_leb (v := m) (by omega) (encRn 0 r)
      rw [encRn_run hr m 0, Nat.zero_add, List.append_assoc]
      have hd1 : (leb x ++ (leb m ++ encRn 0 r)).drop (leb x).length = leb m ++ encRn 0 r := List.drop_left
      have hd2 : (leb m ++ encRn 0 r).drop (leb m).length = encRn 0 r := List.drop_left
      have hst := rdR_step (n := n) (acc := acc) (l := leb x ++ (leb m ++ encRn 0 r)) (by omega) (by rw [h1]; simp) (by rw [h1]; simp only [hd1]; rw [h2]; simp) (by
        rw [h1]
        simp only [hd1]
        rw [h2]
        simp only [badR, Bool.or_eq_true, decide_eq_true_eq, not_or]
        exact ⟨by omega, hlast⟩)
      rw [hst, h1]
      simp only [hd1]
      rw [h2]
      simp only [hd2]
      rw [ih r (acc ++ List.replicate (m + 1) x) (by omega) (fun y hy => hz y (by simp [hy])) (by rw [List.length_append, List.length_replicate]; omega) (by
        intro _
        rw [List.getLast?_append, List.replicate_succ', List.getLast?_concat]
        simpa using fun h => hr h.symm)]
      rw [List.append_assoc]
theorem decR_enc {z : List Nat} (h : ∀ x ∈ z, x < 2 ^ 64) (hl : z.length ≤ 65536) : decR (encRn 0 z) z.length = (z, 0) := by
  unfold decR
  rw [rdR_enc z.length hl z.length z [] (Nat.le_refl _) h (by simp) (by
    intro h0
    cases z with
    | nil => exact absurd rfl h0
    | cons a r => simp)]
  simp
end Go.Ck

set_option linter.unusedVariables false
/-! Intcodec: the laws. -/
namespace Go.Ck
theorem big60_lt {z : List Nat} (h : ¬ big60 z = true) : ∀ x ∈ z, x < 2 ^ 60 := by
  intro x hx
  have h2 : big60 z = false := by simpa using h
  unfold big60 at h2
  rw [List.any_eq_false] at h2
  have := h2 x hx
  simp at this
  omega
theorem underI_tail {z : List Nat} {t : Nat} (ht : t ≠ 1) (ht2 : 2 ≤ t) (ht4 : t ≤ 4) (h : ∀ x ∈ z, x < 2 ^ 64) (hl : z.length ≤ 65536) (he : (tailI z t).2 = 0) : underI (tailI z t).1 z.length t = (z, 0) := by
  unfold tailI at he ⊢
  unfold underI
  by_cases h2 : t = 2
  · simp only [if_pos h2]; exact unF_pack h
  · simp only [if_neg h2] at he ⊢
    by_cases h3 : t = 3
    · simp only [if_pos h3] at he ⊢
      unfold encSW at he ⊢
      by_cases hb : big60 z = true
      · rw [if_pos hb] at he; cases he
      · rw [if_neg hb]
        exact decS_enc (big60_lt hb)
    · have h4 : t = 4 := by omega
      simp only [if_neg h3, if_pos h4]
      exact decR_enc h hl
theorem valI_zdI {xs : List Int} (hx : ∀ x ∈ xs, i64r x) {t : Nat} (ht : t ≠ 0) : valI (zdI xs t) t = xs := by
  unfold valI zdI
  rw [if_neg ht, List.map_map]
  have e : (diffS xs (oft t)).map (zag ∘ zig) = diffS xs (oft t) := by
    conv => rhs; rw [← List.map_id (diffS xs (oft t))]
    exact List.map_congr_left (fun x _ => zag_zig)
  rw [e, sum_diff (oft t) hx]
theorem rdI_way {xs : List Int} (hx : ∀ x ∈ xs, i64r x) (hl : xs.length ≤ 65536) {t : Nat} (ht : t ≤ 4) (he : (wayI xs t).2 = 0) : (rdI (wayI xs t).1 xs.length t).2 = 0 ∧ valI (rdI (wayI xs t).1 xs.length t).1 t = xs := by
  unfold wayI at he ⊢
  rw [if_neg (by omega), if_neg (by omega)] at he ⊢
  by_cases h0 : xs = []
  · subst h0
    rw [if_pos rfl]
    have e : rdI [] ([] : List Int).length t = ([], 0) := by
      unfold rdI
      split
      · rfl
      · rfl
    rw [e]
    refine ⟨rfl, ?_⟩
    unfold valI
    split
    · rfl
    · exact List.length_eq_zero_iff.1 (by rw [sumS_len]; rfl)
  rw [if_neg h0, Int.toNat_natCast] at he ⊢
  have hpos : 0 < xs.length := by cases xs with | nil => exact absurd rfl h0 | cons a r => simp
  unfold wayT at he ⊢
  by_cases ht0 : t = 0
  · rw [if_pos ht0] at he ⊢
    have hrd : rdI (raw8 xs) xs.length t = (xs.map u64of, 0) := by
      unfold rdI
      rw [if_pos ht0, rwN_raw, List.nil_append]
    simp only [hrd]
    refine ⟨trivial, ?_⟩
    unfold valI
    rw [if_pos ht0, List.map_map]
    conv => rhs; rw [← List.map_id xs]
    exact List.map_congr_left (fun x h => i64of_u64of (hx x h))
  · rw [if_neg ht0] at he ⊢
    have hzl := zdI_len xs t
    have hzx := zdI_lt hx t
    have hv := valI_zdI hx ht0
    cases hz : zdI xs t with
    | nil => rw [hz] at hzl; simp at hzl; omega
    | cons z0 z =>
      rw [hz] at he hzl hzx hv
      have hz0 := hzx z0 (by simp)
      have hzt : ∀ x ∈ z, x < 2 ^ 64 := fun x h => hzx x (by simp [h])
      simp only [List.length_cons] at hzl
      have hrl := fun c => readV_leb hz0 c
      suffices hrd : rdI (wayZ (z0 :: z) t).1 xs.length t = (z0 :: z, 0) by
        rw [hrd]; exact ⟨rfl, hv⟩
      unfold wayZ at he ⊢
      have htl : (z0 :: z).tail = z := rfl
      have hhd : (z0 :: z).headD 0 = z0 := rfl
      rw [htl, hhd] at he ⊢
      by_cases hte : (tailI z t).2 = 0
      · rw [if_neg (by simpa using hte)]
        unfold rdI numI
        rw [if_neg ht0, if_neg (by omega), hrl]
        simp only [ne_eq, not_true_eq_false, if_false, List.drop_left]
        rw [show xs.length - 1 = z.length by omega]
        by_cases ht1 : t = 1
        · rw [if_pos ht1]
          have : (tailI z t).1 = lebs z := by unfold tailI; rw [if_neg (by omega), if_neg (by omega), if_neg (by omega)]
          rw [this, rvN_lebs z _ hzt]; rfl
        · rw [if_neg ht1, underI_tail ht1 (by omega) ht hzt (by omega) hte]
      · rw [if_pos hte] at he
        exact absurd he hte
theorem bestI_way {xs : List Int} (hl : xs.length ≤ 65536) : ∀ n, n ≤ 5 → (wayI xs ((bestI xs n).1 : Nat)).2 = 0 ∧ (bestI xs n).2 = (wayI xs ((bestI xs n).1 : Nat)).1 ∧ (bestI xs n).1 ≤ 4
  | 0, _ => by
    rw [bestI_zero]
    refine ⟨?_, rfl, Nat.zero_le _⟩
    show (wayI xs 0).2 = 0
    unfold wayI
    rw [if_neg (by omega), if_neg (by omega)]
    split <;> rfl
  | n + 1, hn => by
    rw [bestI_succ, stepI]
    split
    · rename_i h
      exact ⟨h.1, rfl, by simp only; omega⟩
    · exact bestI_way hl n (by omega)
theorem encI_ok {xs : List Int} (hl : xs.length ≤ 65536) : encI xs = ((bestI xs 5).1 :: (bestI xs 5).2, 0) := by unfold encI; rw [if_neg (by omega)]
theorem decI_encI {xs : List Int} (hx : ∀ x ∈ xs, i64r x) (hl : xs.length ≤ 65536) : decI (encI xs).1 xs.length = (xs, 0) := by
  obtain ⟨h1, h2, h3⟩ := bestI_way hl 5 (Nat.le_refl _)
  have hr := rdI_way hx hl h3 h1
  rw [← h2] at hr
  have he := encI_ok hl
  unfold decI
  rw [if_neg (by omega), Int.toNat_natCast]
  have e1 : (encI xs).1 = (bestI xs 5).1 :: (bestI xs 5).2 := by rw [he]
  rw [e1, decI1, if_neg (by omega), decI0, if_neg (by simpa using hr.1), hr.2, if_pos e1]
theorem decI_ok {b : List Nat} {n : Int} (h : (decI b n).2 = 0) : 0 ≤ n ∧ n ≤ 65536 ∧ ∃ t l, b = t :: l ∧ t ≤ 4 ∧ (rdI l n.toNat t).2 = 0 ∧ (decI b n).1 = valI (rdI l n.toNat t).1 t ∧ (encI (decI b n).1).1 = b := by
  unfold decI at h ⊢
  split at h
  · cases h
  · rename_i h0
    rw [if_neg h0]
    refine ⟨by omega, by omega, ?_⟩
    cases b with
    | nil => cases h
    | cons t l =>
      simp only [decI1] at h ⊢
      split at h
      · cases h
      · rename_i h5
        rw [if_neg h5]
        unfold decI0 at h ⊢
        split at h
        · rename_i h6; exact absurd h h6
        · rename_i h6
          rw [if_neg h6]
          split at h
          · rename_i h7
            rw [if_pos h7]
            exact ⟨t, l, rfl, by omega, by simpa using h6, rfl, h7⟩
          · cases h
theorem decI_bad {b : List Nat} {n : Int} (h : (decI b n).2 ≠ 0) : (decI b n).1 = [] := by
  unfold decI at h ⊢
  split
  · rfl
  · rename_i h0
    rw [if_neg h0] at h
    unfold decI1 at h ⊢
    split
    · rfl
    · split
      · rfl
      · rename_i h5
        simp only [if_neg h5] at h
        unfold decI0 at h ⊢
        split
        · rfl
        · rename_i h6
          rw [if_neg h6] at h
          split
          · rename_i h7; rw [if_pos h7] at h; exact absurd rfl h
          · rfl
/-! what is read stays read where more follows -/
theorem rwN_more (c : List Nat) : ∀ (n : Nat) (acc l : List Nat), (rwN n acc l).2 = 0 → (rwN n acc (l ++ c)).2 = 0 → (rwN n acc (l ++ c)).1 = (rwN n acc l).1
  | 0, acc, l, _, _ => rfl
  | n + 1, acc, l, h, h2 => by
    rw [rwN] at h
    split at h
    · cases h
    · rename_i h8
      have hlc : ¬ (l ++ c).length < 8 := by rw [List.length_append]; omega
      rw [rwN, if_neg hlc] at h2 ⊢
      rw [List.take_append_of_le_length (by omega), List.drop_append_of_le_length (by omega)] at h2 ⊢
      conv => rhs; rw [rwN, if_neg h8]
      exact rwN_more c n _ _ h h2
theorem rvN_more (c : List Nat) : ∀ (n : Nat) (acc l : List Nat), (rvN n acc l).2 = 0 → (rvN n acc (l ++ c)).2 = 0 → (rvN n acc (l ++ c)).1 = (rvN n acc l).1
  | 0, acc, l, _, _ => rfl
  | n + 1, acc, l, h, h2 => by
    rw [rvN] at h
    split at h
    · rename_i he; exact absurd h he
    · rename_i he
      have hm := readV_more c (l := l) (by simpa using he)
      have hle := readV_le l
      rw [rvN, hm, if_neg he] at h2 ⊢
      rw [List.drop_append_of_le_length hle] at h2 ⊢
      conv => rhs; rw [rvN, if_neg he]
      exact rvN_more c n _ _ h h2
theorem rdS_more (n : Nat) (c : List Nat) : ∀ (k : Nat) (acc l : List Nat), l.length ≤ k → (rdS n acc l).2.2 = 0 → rdS n acc (l ++ c) = ((rdS n acc l).1, (rdS n acc l).2.1 ++ c, 0) := by
  intro k
  induction k with
  | zero =>
    intro acc l hk h
    by_cases hn : acc.length < n
    · rw [rdS_short hn (by omega)] at h; cases h
    · rw [rdS_end hn, rdS_end hn]
  | succ k ih =>
    intro acc l hk h
    by_cases hn : acc.length < n
    · by_cases h8 : l.length < 8
      · rw [rdS_short hn h8] at h; cases h
      · rw [rdS_step hn h8] at h ⊢
        rw [rdS_step hn (by rw [List.length_append]; omega), List.take_append_of_le_length (by omega), List.drop_append_of_le_length (by omega)]
        exact ih _ _ (by rw [List.length_drop]; omega) h
    · rw [rdS_end hn, rdS_end hn]
theorem rdR_more (n : Nat) (c : List Nat) : ∀ (k : Nat) (acc l : List Nat), n - acc.length ≤ k → (rdR n acc l).2.2 = 0 → rdR n acc (l ++ c) = ((rdR n acc l).1, (rdR n acc l).2.1 ++ c, 0) := by
  intro k
  induction k with
  | zero =>
    intro acc l hk h
    rw [rdR_end (by omega), rdR_end (by omega)]
  | succ k ih =>
    intro acc l hk h
    by_cases hn : acc.length < n
    · by_cases h1 : (readV l).2.2 ≠ 0
      · rw [rdR_e1 hn h1] at h; exact absurd h h1
      · by_cases h2 : (readV (l.drop (readV l).2.1)).2.2 ≠ 0
        · rw [rdR_e2 hn h1 h2] at h; exact absurd h h2
        · by_cases h3 : badR n acc (readV l).1 (readV (l.drop (readV l).2.1)).1 = true
          · rw [rdR_e3 hn h1 h2 h3] at h; cases h
          · have m1 := readV_more c (l := l) (by simpa using h1)
            have m2 := readV_more c (l := l.drop (readV l).2.1) (by simpa using h2)
            have d1 : (l ++ c).drop (readV l).2.1 = l.drop (readV l).2.1 ++ c := List.drop_append_of_le_length (readV_le l)
            have d2 : (l.drop (readV l).2.1 ++ c).drop (readV (l.drop (readV l).2.1)).2.1 = (l.drop (readV l).2.1).drop (readV (l.drop (readV l).2.1)).2.1 ++ c := List.drop_append_of_le_length (readV_le _)
            have hst := rdR_step (n := n) (acc := acc) (l := l ++ c) hn (by rw [m1]; exact h1) (by rw [m1, d1, m2]; exact h2) (by rw [m1, d1, m2]; exact h3)
            rw [m1, d1, m2, d2] at hst
            rw [hst]
            rw [rdR_step hn h1 h2 h3] at h ⊢
            exact ih _ _ (by rw [List.length_append, List.length_replicate]; omega) h
    · rw [rdR_end hn, rdR_end hn]
theorem unF_val {l : List Nat} {n : Nat} (h : (unF l n).2 = 0) : ∃ w r, l.drop (readV l).2.1 = w :: r ∧ (readV l).2.2 = 0 ∧ ¬ 8 * r.length < n * w ∧ (unF l n).1 = valsF r w n (readV l).1 := by
  unfold unF at h ⊢
  split at h
  · rename_i he; exact absurd h he
  · rename_i he
    rw [if_neg he]
    generalize l.drop (readV l).2.1 = q at *
    cases q with
    | nil => cases h
    | cons w r =>
      simp only [unF1] at h ⊢
      split at h
      · cases h
      · rename_i h1
        split at h
        · cases h
        · rename_i h2
          rw [if_neg h1, if_neg h2]
          unfold unF2 at h ⊢
          split at h
          · cases h
          · rename_i h3
            split at h
            · cases h
            · rename_i h4
              split at h
              · rename_i h5
                rw [if_neg h3, if_neg h4, if_pos h5]
                exact ⟨w, r, rfl, by simpa using he, h2, rfl⟩
              · cases h
theorem unF_more {l : List Nat} (c : List Nat) {n : Nat} (h : (unF l n).2 = 0) (h2 : (unF (l ++ c) n).2 = 0) : (unF (l ++ c) n).1 = (unF l n).1 := by
  obtain ⟨w, r, e1, e2, e3, e4⟩ := unF_val h
  obtain ⟨w', r', f1, f2, f3, f4⟩ := unF_val h2
  have hm := readV_more c e2
  rw [hm, List.drop_append_of_le_length (readV_le l), e1, List.cons_append] at f1
  obtain ⟨rfl, rfl⟩ := List.cons.inj f1
  rw [e4, f4, hm]
  unfold valsF
  refine List.map_congr_left (fun i hi => ?_)
  simp only [List.mem_range] at hi
  have hm2 : (i + 1) * w ≤ n * w := Nat.mul_le_mul_right _ hi
  rw [Nat.succ_mul] at hm2
  unfold valF
  rw [unb_append, getB_more (unb c) (by rw [unb_len]; omega)]
theorem decS_val {l : List Nat} {n : Nat} (h : (decS l n).2 = 0) : (rdS n [] l).2.2 = 0 ∧ (decS l n).1 = (rdS n [] l).1 := by
  unfold decS at h ⊢
  simp only at h ⊢
  split at h
  · rename_i he; exact absurd h he
  · rename_i he
    split at h
    · cases h
    · rename_i h1
      split at h
      · cases h
      · rename_i h2
        split at h
        · rename_i h3
          rw [if_neg he, if_neg h1, if_neg h2, if_pos h3]
          exact ⟨by simpa using he, rfl⟩
        · cases h
theorem decR_val {l : List Nat} {n : Nat} (h : (decR l n).2 = 0) : (rdR n [] l).2.2 = 0 ∧ (decR l n).1 = (rdR n [] l).1 := by
  unfold decR at h ⊢
  simp only at h ⊢
  split at h
  · rename_i he; exact absurd h he
  · rename_i he
    split at h
    · cases h
    · rename_i h1
      rw [if_neg he, if_neg h1]
      exact ⟨by simpa using he, rfl⟩
theorem underI_more {l : List Nat} (c : List Nat) {n t : Nat} (h : (underI l n t).2 = 0) (h2 : (underI (l ++ c) n t).2 = 0) : (underI (l ++ c) n t).1 = (underI l n t).1 := by
  unfold underI at h h2 ⊢
  split
  · rename_i ht
    rw [if_pos ht] at h h2
    exact unF_more c h h2
  · rename_i ht
    rw [if_neg ht] at h h2
    split
    · rename_i ht3
      rw [if_pos ht3] at h h2
      obtain ⟨a1, a2⟩ := decS_val h
      obtain ⟨b1, b2⟩ := decS_val h2
      rw [a2, b2, rdS_more n c l.length [] l (Nat.le_refl _) a1]
    · rename_i ht3
      rw [if_neg ht3] at h h2
      obtain ⟨a1, a2⟩ := decR_val h
      obtain ⟨b1, b2⟩ := decR_val h2
      rw [a2, b2, rdR_more n c n [] l (by simp) a1]
theorem rdI_more {l : List Nat} (c : List Nat) {n t : Nat} (h : (rdI l n t).2 = 0) (h2 : (rdI (l ++ c) n t).2 = 0) : (rdI (l ++ c) n t).1 = (rdI l n t).1 := by
  unfold rdI at h h2 ⊢
  split
  · rename_i ht
    rw [if_pos ht] at h h2
    exact rwN_more c n [] l h h2
  · rename_i ht
    rw [if_neg ht] at h h2
    unfold numI at h h2 ⊢
    split
    · rfl
    · rename_i h0
      rw [if_neg h0] at h h2
      split at h
      · rename_i he; exact absurd h he
      · rename_i he
        have hm := readV_more c (l := l) (by simpa using he)
        rw [hm, if_neg he, List.drop_append_of_le_length (readV_le l)] at h2
        rw [hm, if_neg he, List.drop_append_of_le_length (readV_le l)]
        conv => rhs; rw [if_neg he]
        split at h
        · rename_i h1
          rw [if_pos h1] at h2 ⊢
          rw [if_pos h1]
          exact rvN_more c _ _ _ h h2
        · rename_i h1
          rw [if_neg h1] at h2 ⊢
          rw [if_neg h1]
          simp only at h h2 ⊢
          rw [underI_more c h h2]
theorem decI_pf {b c : List Nat} {n : Int} (h1 : (decI b n).2 = 0) (h2 : (decI (b ++ c) n).2 = 0) : c = [] := by
  obtain ⟨n0, n1, t, l, rfl, ht, a1, a2, a3⟩ := decI_ok h1
  obtain ⟨_, _, t', l', e, _, b1, b2, b3⟩ := decI_ok h2
  rw [List.cons_append] at e
  obtain ⟨rfl, rfl⟩ := List.cons.inj e
  have hm := rdI_more c a1 b1
  have hx : (decI ((t :: l) ++ c) n).1 = (decI (t :: l) n).1 := by rw [a2, b2, hm]
  rw [hx, a3] at b3
  have := congrArg List.length b3
  simp at this
  exact List.length_eq_zero_iff.1 (by simpa using this)
theorem encI_cut {xs : List Int} (hx : ∀ x ∈ xs, i64r x) (hl : xs.length ≤ 65536) {k : Nat} (hk : k < (encI xs).1.length) : (decI ((encI xs).1.take k) xs.length).2 ≠ 0 := by
  intro h
  have h2 : (decI ((encI xs).1.take k ++ (encI xs).1.drop k) xs.length).2 = 0 := by rw [List.take_append_drop, decI_encI hx hl]
  have := decI_pf h h2
  have := congrArg List.length this
  rw [List.length_drop, List.length_nil] at this
  omega
theorem encI_more {xs : List Int} (hx : ∀ x ∈ xs, i64r x) (hl : xs.length ≤ 65536) (y : Nat) : (decI ((encI xs).1 ++ [y]) xs.length).2 ≠ 0 := by
  intro h
  have := decI_pf (by rw [decI_encI hx hl]) h
  cases this
/-! the shortest -/
theorem bestI_min {xs : List Int} (n : Nat) : ∀ w, w < n → (wayI xs (w : Nat)).2 = 0 → (bestI xs n).2.length ≤ (wayI xs (w : Nat)).1.length := by
  induction n with
  | zero => intro w h; omega
  | succ n ih =>
    intro w hw he
    rw [bestI_succ, stepI]
    by_cases hwn : w = n
    · subst hwn
      split
      · exact Nat.le_refl _
      · rename_i h
        have : ¬ (wayI xs (w : Nat)).1.length < (bestI xs w).2.length := fun h2 => h ⟨he, h2⟩
        omega
    · have := ih w (by omega) he
      split
      · rename_i h; simp only; omega
      · exact this
theorem encI_min {xs : List Int} (hl : xs.length ≤ 65536) (w : Int) (h : (wayI xs w).2 = 0) : (encI xs).1.length ≤ (wayI xs w).1.length + 1 := by
  rw [encI_ok hl]
  simp only [List.length_cons]
  by_cases hw : w < 0 ∨ 5 ≤ w
  · rw [wayI, if_pos hw] at h; cases h
  · obtain ⟨k, rfl⟩ : ∃ k : Nat, w = k := ⟨w.toNat, by omega⟩
    have := bestI_min (xs := xs) 5 k (by omega) h
    omega
theorem encI_short {xs : List Int} (hl : xs.length ≤ 65536) : (encI xs).1.length ≤ 8 * xs.length + 1 := by
  have h0 : (wayI xs 0).2 = 0 ∧ (wayI xs 0).1.length ≤ 8 * xs.length := by
    unfold wayI
    rw [if_neg (by omega), if_neg (by omega)]
    by_cases he : xs = []
    · rw [if_pos he]; simp
    · rw [if_neg he]
      refine ⟨rfl, ?_⟩
      show (raw8 xs).length ≤ _
      rw [raw8_len]; omega
  have := encI_min hl 0 h0.1
  omega
end Go.Ck
namespace Go.Ck
theorem rwN_n : ∀ (n : Nat) (acc l : List Nat), (rwN n acc l).2 = 0 → (rwN n acc l).1.length = acc.length + n
  | 0, acc, l, _ => rfl
  | n + 1, acc, l, h => by
    rw [rwN] at h ⊢
    split at h
    · cases h
    · rename_i h8
      rw [if_neg h8, rwN_n n _ _ h, List.length_append, List.length_singleton]; omega
theorem rvN_n : ∀ (n : Nat) (acc l : List Nat), (rvN n acc l).2 = 0 → (rvN n acc l).1.length = acc.length + n
  | 0, acc, l, _ => rfl
  | n + 1, acc, l, h => by
    rw [rvN] at h ⊢
    split at h
    · rename_i he; exact absurd h he
    · rename_i he
      rw [if_neg he, rvN_n n _ _ h, List.length_append, List.length_singleton]; omega
theorem rdS_n (n : Nat) : ∀ (k : Nat) (acc l : List Nat), l.length ≤ k → (rdS n acc l).2.2 = 0 → n ≤ (rdS n acc l).1.length := by
  intro k
  induction k with
  | zero =>
    intro acc l hk h
    by_cases hn : acc.length < n
    · rw [rdS_short hn (by omega)] at h; cases h
    · rw [rdS_end hn]; simp only; omega
  | succ k ih =>
    intro acc l hk h
    by_cases hn : acc.length < n
    · by_cases h8 : l.length < 8
      · rw [rdS_short hn h8] at h; cases h
      · rw [rdS_step hn h8] at h ⊢
        exact ih _ _ (by rw [List.length_drop]; omega) h
    · rw [rdS_end hn]; simp only; omega
theorem rdR_n (n : Nat) : ∀ (k : Nat) (acc l : List Nat), n - acc.length ≤ k → acc.length ≤ n → (rdR n acc l).2.2 = 0 → (rdR n acc l).1.length = n := by
  intro k
  induction k with
  | zero =>
    intro acc l hk ha h
    rw [rdR_end (by omega)]; simp only; omega
  | succ k ih =>
    intro acc l hk ha h
    by_cases hn : acc.length < n
    · by_cases h1 : (readV l).2.2 ≠ 0
      · rw [rdR_e1 hn h1] at h; exact absurd h h1
      · by_cases h2 : (readV (l.drop (readV l).2.1)).2.2 ≠ 0
        · rw [rdR_e2 hn h1 h2] at h; exact absurd h h2
        · by_cases h3 : badR n acc (readV l).1 (readV (l.drop (readV l).2.1)).1 = true
          · rw [rdR_e3 hn h1 h2 h3] at h; cases h
          · rw [rdR_step hn h1 h2 h3] at h ⊢
            simp only [badR, Bool.or_eq_true, decide_eq_true_eq, not_or] at h3
            exact ih _ _ (by rw [List.length_append, List.length_replicate]; omega) (by rw [List.length_append, List.length_replicate]; omega) h
    · rw [rdR_end hn]; simp only; omega
theorem underI_n {l : List Nat} {n t : Nat} (h : (underI l n t).2 = 0) : (underI l n t).1.length = n := by
  unfold underI at h ⊢
  split
  · rename_i ht
    rw [if_pos ht] at h
    obtain ⟨w, r, _, _, _, e⟩ := unF_val h
    rw [e, valsF_len]
  · rename_i ht
    rw [if_neg ht] at h
    split
    · rename_i h3
      rw [if_pos h3] at h
      have h' := h
      obtain ⟨a1, a2⟩ := decS_val h
      have h1 := rdS_n n l.length [] l (Nat.le_refl _) a1
      unfold decS at h'
      simp only at h'
      rw [if_neg (by simpa using a1)] at h'
      split at h'
      · cases h'
      · rw [a2]; omega
    · rename_i h3
      rw [if_neg h3] at h
      obtain ⟨a1, a2⟩ := decR_val h
      rw [a2]
      exact rdR_n n n [] l (by simp) (by simp) a1
theorem rdI_n {l : List Nat} {n t : Nat} (h : (rdI l n t).2 = 0) : (rdI l n t).1.length = n := by
  unfold rdI at h ⊢
  split
  · rename_i ht
    rw [if_pos ht] at h
    rw [rwN_n n [] l h, List.length_nil, Nat.zero_add]
  · rename_i ht
    rw [if_neg ht] at h
    unfold numI at h ⊢
    split
    · rename_i h0; rw [h0]; rfl
    · rename_i h0
      rw [if_neg h0] at h
      split at h
      · rename_i he; exact absurd h he
      · rename_i he
        rw [if_neg he]
        split at h
        · rename_i h1
          rw [if_pos h1, rvN_n _ _ _ h, List.length_singleton]; omega
        · rename_i h1
          rw [if_neg h1]
          simp only at h ⊢
          rw [List.length_cons, underI_n h]; omega
theorem decI_n {b : List Nat} {n : Int} (h : (decI b n).2 = 0) : (decI b n).1.length = n.toNat := by
  obtain ⟨_, _, t, l, _, _, a1, a2, _⟩ := decI_ok h
  rw [a2, valI_len, rdI_n a1]
end Go.Ck

set_option linter.unusedVariables false
set_option maxRecDepth 10000
set_option maxHeartbeats 1000000
namespace Go.Ck
open Go.Proofs

theorem law08back_fn (xs : List Int) (cut : Int) (y : Nat) (hx : ∀ x ∈ xs, i64r x) (hy : y < 256) : Fn Try.prog 6 [] [.pv (.sl 1 (ints xs)), .pv (.int .i64 cut), .pv (.int .u8 y)] (fun rs H' => rs = [.pv (.bool true)] ∧ H' = []) := by
  refine Fn.of_body (fn := Try.f6) (n := 80) (res := [.tmp 6]) (by kernel_rfl) rfl rfl rfl rfl rfl (fun C => ?_)
  have hr : room = 140737488355328 := rfl
  refine AW.go ?_
  refine AW.callE (fun _ => 0) awake08_fn .nil ?_
  refine AW.go ?_
  refine AW.cond rfl (fun hc => ?_) (fun hc => ?_)
  · refine AW.go ?_
    refine AW.finE (.pv _ .nil) rfl
  have hl : xs.length ≤ 300 := by simp at hc; omega
  have hok := encI_ok (xs := xs) (by omega)
  have hdec := decI_encI hx (by omega)
  have hcut := @encI_cut xs hx (by omega)
  have hmore := encI_more hx (by omega) y
  have hby := encI_byte hx
  have hbl := encI_room hx
  have he : (encI xs).2 = 0 := by rw [hok]
  refine AW.go ?_
  refine AW.callE (fun _ => 0) (encI_fn xs hx) (.pv _ .nil) ?_
  generalize encI xs = b at *
  obtain ⟨b, e⟩ := b
  simp only at he hdec hcut hmore hby hbl ⊢
  subst he
  clear hok
  refine AW.freeze (p := .part 24 0) (by simp only [go_sem, ↓reduceIte, freeze, freezeO] <;> rfl) ?_
  refine AW.go ?_
  refine AW.callE (fun _ => 0) (decI_fn b xs.length (by omega) hby) (.pv _ (.pv _ .nil)) ?_
  rw [hdec]
  refine AW.gg ?_
  refine AW.guardT rfl rfl ?_
  refine AW.callE (fun _ => 0) (ref04Same_fn xs xs (by omega)) (.lend rfl co_3 (.pv _ .nil)) ?_
  refine AW.gg ?_ (by simp only [go_sem, ↓reduceIte, decide_true] <;> rfl)
  refine AW.condF rfl ?_
  obtain ⟨k, hk, ek⟩ := and_low cut 10 (by omega)
  have ek : ibits .and .i64 cut 1023 = (k : Int) := ek
  refine AW.go ?_ (by simp only [go_sem, ↓reduceIte, ek] <;> rfl)
  have hby2 : ∀ x ∈ b ++ [y], x < 256 := fun x hx => by
    rcases List.mem_append.1 hx with h | h
    · exact hby x h
    · simp at h; omega
  have h1 : b.length ≤ room := by omega
  have h2 : b.length + 1 ≤ room := by omega
  refine AW.joinS (fun _ : Unit => ⟨80, [(7, .pv (.bool true)), (8, .pv (.sl 1 (bytes b))), (0, .pv (.sl 1 (ints xs))), (2, .pv (.int .u8 y))], []⟩) (fun _ => True) [7, 8, 0, 2] [] ?_ ?_
  · intro K hK
    refine AW.cond rfl (fun hc => ?_) (fun hc => ?_)
    · have hkb : k < b.length := by simpa using hc
      have hkb2 : k ≤ b.length := by omega
      refine AW.go ?_ (by simp only [go_sem, ↓reduceIte, hkb2, Int.sub_zero, List.drop_zero] <;> rfl)
      refine AW.callE (fun _ => 0) (decI_fn (b.take k) xs.length (by simp; omega) (fun x hx => hby x (List.mem_of_mem_take hx))) (.pv _ (.pv _ .nil)) ?_
      have hne := hcut hkb
      generalize decI (b.take k) xs.length = q at *
      have e0 : (q.2 == 0) = false := by simpa using hne
      refine AW.go ?_ (by simp only [go_sem, ↓reduceIte, e0] <;> rfl)
      refine AW.condF rfl ?_
      refine AW.go ?_
      exact AW.meet hK () trivial
    · refine AW.go ?_
      exact AW.meet hK () trivial
  rintro _ -
  refine AW.go ?_ (by simp only [go_sem, ↓reduceIte, List.nil_append, h1, h2, Nat.zero_add, bytes_one] <;> rfl)
  refine AW.callE (fun _ => 0) (decI_fn (b ++ [y]) xs.length (by simp; omega) hby2) (.lend rfl co_5 (.pv _ .nil)) ?_
  generalize decI (b ++ [y]) xs.length = q at *
  have e0 : (q.2 != 0) = true := by simpa using hmore
  refine AW.gg ?_ (by simp only [go_sem, ↓reduceIte, e0] <;> rfl)
  refine AW.finE (.pv _ .nil) rfl

theorem law08only_fn (l : List Nat) (n w : Int) (hb : ∀ x ∈ l, x < 256) : Fn Try.prog 7 [] [.pv (.sl 1 (bytes l)), .pv (.int .i64 n), .pv (.int .i64 w)] (fun rs H' => rs = [.pv (.bool true)] ∧ H' = []) := by
  refine Fn.of_body (fn := Try.f7) (n := 76) (res := [.tmp 6]) (by kernel_rfl) rfl rfl rfl rfl rfl (fun C => ?_)
  have hr : room = 140737488355328 := rfl
  have ee : ∀ e : Int, (e == e) = true := fun e => by simp
  refine AW.go ?_
  refine AW.callE (fun _ => 0) awake08_fn .nil ?_
  by_cases h1 : 300 < l.length
  · have d1 : decide ((l.length : Int) > 300) = true := decide_eq_true (by omega)
    refine AW.gg ?_ (by simp only [go_sem, ↓reduceIte, d1] <;> rfl)
    refine AW.condT rfl ?_
    refine AW.go ?_
    refine AW.finE (.pv _ .nil) rfl
  have d1 : decide ((l.length : Int) > 300) = false := decide_eq_false (by omega)
  by_cases h2 : 600 < n
  · have d2 : decide (n > 600) = true := decide_eq_true (by omega)
    refine AW.gg ?_ (by simp only [go_sem, ↓reduceIte, d1, d2] <;> rfl)
    refine AW.condT rfl ?_
    refine AW.go ?_
    refine AW.finE (.pv _ .nil) rfl
  have d2 : decide (n > 600) = false := decide_eq_false (by omega)
  refine AW.gg ?_ (by simp only [go_sem, ↓reduceIte, d1, d2] <;> rfl)
  refine AW.condF rfl ?_
  refine AW.go ?_
  refine AW.callE (fun _ => 0) (decI_fn l n (by omega) hb) (.pv _ (.pv _ .nil)) ?_
  have hok := @decI_ok l n
  have hn := @decI_n l n
  have hbad := @decI_bad l n
  generalize decI l n = q at *
  obtain ⟨xs, e⟩ := q
  simp only at hok hn hbad ⊢
  refine AW.go ?_
  refine AW.cond rfl (fun hc => ?_) (fun hc => ?_)
  · have hne : e ≠ 0 := by simpa using hc
    have := hbad hne
    subst this
    refine AW.gg ?_
    refine AW.finE (.pv _ .nil) rfl
  have h0 : e = 0 := by simpa using hc
  subst h0
  obtain ⟨n0, n1, t, r, rfl, ht, a1, a2, a3⟩ := hok rfl
  have hn := hn rfl
  have hxs : ∀ x ∈ xs, i64r x := by rw [a2]; exact valI_r _ _ (rdI_inv _ _ (fun x hx => hb x (by simp [hx]))).2
  have hle : xs.length ≤ 65536 := by omega
  have hen := encI_ok hle
  have he2 : (encI xs).2 = 0 := by rw [hen]
  have hmin := @encI_min xs hle w
  refine AW.go ?_
  refine AW.callE (fun _ => 0) (encI_fn xs hxs) (.lend rfl co_3 .nil) ?_
  rw [a3, he2]
  refine AW.go ?_
  refine AW.callE (fun _ => 0) (wayIn_fn xs w hxs) (.lend rfl co_3 (.pv _ .nil)) ?_
  have hnn : (xs.length : Int) = n := by omega
  have hwr := wayI_len (xs := xs) w hxs
  rw [a3] at hmin
  generalize wayI xs w = v at *
  obtain ⟨wb, we⟩ := v
  simp only at hmin hwr ⊢
  refine AW.gg ?_ (by simp only [go_sem, ↓reduceIte, hnn, ee] <;> rfl)
  refine AW.guardT rfl rfl ?_
  refine AW.callE (fun _ => 0) (ref01Same_fn (t :: r) (t :: r) (by omega)) (.lend rfl co_5 (.pv _ .nil)) ?_
  by_cases hw : we = 0
  · subst hw
    have hm := hmin rfl
    have e1 : IntKind.i64.wrap ((wb.length : Int) + 1) = ((wb.length + 1 : Nat) : Int) := wrap_i64_succ (by omega)
    have d3 : decide (r.length ≤ wb.length) = true := decide_eq_true (by simp at hm; omega)
    refine AW.gg ?_ (by simp only [go_sem, ↓reduceIte, decide_true, e1, d3] <;> rfl)
    refine AW.finE (.pv _ .nil) rfl
  · have e0 : (we != 0) = true := by simpa using hw
    refine AW.gg ?_ (by simp only [go_sem, ↓reduceIte, decide_true, e0] <;> rfl)
    refine AW.finE (.pv _ .nil) rfl


end Go.Ck

set_option linter.unusedVariables false
/-! Ints that lie equally far apart. -/
namespace Go.Ck
def even (x d : Int) : Nat → List Int
  | 0 => []
  | n + 1 => x :: even (IntKind.i64.wrap (x + d)) d n
def evx (x d : Int) : Nat → Int
  | 0 => x
  | n + 1 => IntKind.i64.wrap (evx x d n + d)
theorem evx_r {x d : Int} (h : i64r x) : ∀ n, i64r (evx x d n)
  | 0 => h
  | n + 1 => wrap_i64_r _
theorem evx_in (x d : Int) : ∀ n, evx (IntKind.i64.wrap (x + d)) d n = evx x d (n + 1)
  | 0 => rfl
  | n + 1 => by
    show IntKind.i64.wrap (evx (IntKind.i64.wrap (x + d)) d n + d) = IntKind.i64.wrap (evx x d (n + 1) + d)
    rw [evx_in x d n]
theorem even_snoc (d : Int) : ∀ (n : Nat) (x : Int), even x d (n + 1) = even x d n ++ [evx x d n]
  | 0, x => rfl
  | n + 1, x => by
    show x :: even (IntKind.i64.wrap (x + d)) d (n + 1) = (x :: even (IntKind.i64.wrap (x + d)) d n) ++ [evx x d (n + 1)]
    rw [even_snoc d n, evx_in, List.cons_append]
theorem even_len (d : Int) : ∀ (n : Nat) (x : Int), (even x d n).length = n
  | 0, x => rfl
  | n + 1, x => by rw [even, List.length_cons, even_len d n]
theorem even_r (d : Int) : ∀ (n : Nat) (x : Int), i64r x → ∀ y ∈ even x d n, i64r y
  | 0, x, h => by simp [even]
  | n + 1, x, h => by
    intro y hy
    rcases List.mem_cons.1 hy with rfl | hy
    · exact h
    · exact even_r d n _ (wrap_i64_r _) y hy
theorem dif_even {d : Int} (hd : i64r d) : ∀ (n : Nat) (x : Int), dif x (even (IntKind.i64.wrap (x + d)) d n) = List.replicate n d
  | 0, x => rfl
  | n + 1, x => by
    have e : IntKind.i64.wrap (IntKind.i64.wrap (x + d) - x) = d := by
      rw [IntKind.wrap_i64, IntKind.wrap_i64]; unfold i64r at hd; omega
    show IntKind.i64.wrap (IntKind.i64.wrap (x + d) - x) :: dif (IntKind.i64.wrap (x + d)) (even (IntKind.i64.wrap (IntKind.i64.wrap (x + d) + d)) d n) = _
    rw [e, dif_even hd n, List.replicate_succ]
theorem dif_rep (d : Int) : ∀ n : Nat, dif d (List.replicate n d) = List.replicate n 0
  | 0 => rfl
  | n + 1 => by
    have e : IntKind.i64.wrap 0 = 0 := by decide
    rw [List.replicate_succ, dif, dif_rep d n, List.replicate_succ, Int.sub_self, e]
theorem diff_even {d : Int} (hd : i64r d) (x : Int) (m : Nat) : diffS (even x d (m + 2)) 2 = x :: d :: List.replicate m 0 := by
  show stepD 1 (x :: dif x (even (IntKind.i64.wrap (x + d)) d (m + 1))) = _
  rw [dif_even hd, List.replicate_succ]
  show x :: d :: dif d (List.replicate m d) = _
  rw [dif_rep]
theorem encRn_zeros (m k : Nat) : encRn k (List.replicate (m + 1) 0) = leb 0 ++ leb (k + m) := by
  have := encRn_run (x := 0) (r := []) (by simp) m k
  simpa [encRn_nil] using this
theorem encRn_even {v m : Nat} (hv : v < 2 ^ 64) (hm : m < 16384) : (encRn 0 (v :: List.replicate m 0)).length ≤ 14 := by
  have h10 := leb_len10 hv
  have h0 : (leb 0).length = 1 := by rw [leb_lt (by omega)]; rfl
  cases m with
  | zero =>
    rw [List.replicate_zero, encRn_one, List.length_append]; omega
  | succ m =>
    by_cases h : v = 0
    · subst h
      have e : (0 :: List.replicate (m + 1) 0 : List Nat) = List.replicate (m + 1 + 1) 0 := (List.replicate_succ).symm
      have h2 : (leb (0 + (m + 1))).length ≤ 2 := leb_len 1 _ (by omega)
      rw [e, encRn_zeros, List.length_append]; omega
    · have h2 : (leb (0 + m)).length ≤ 2 := leb_len 1 _ (by omega)
      have e : encRn 0 (v :: List.replicate (m + 1) 0) = leb v ++ leb 0 ++ encRn 0 (List.replicate (m + 1) 0) := by
        rw [List.replicate_succ]; exact encRn_diff (fun hc => h hc.symm) _
      rw [e, encRn_zeros, List.length_append, List.length_append, List.length_append]; omega
theorem encI_even {x d : Int} (hx : i64r x) (hd : i64r d) {n : Nat} (hn : n < 1024) : (encI (even x d n)).1.length ≤ 25 := by
  have hl := even_len d n x
  have h4 : (wayI (even x d n) 4).2 = 0 ∧ (wayI (even x d n) 4).1.length ≤ 24 := by
    unfold wayI
    rw [if_neg (by omega), if_neg (by omega)]
    match n, hn with
    | 0, _ => rw [if_pos (show even x d 0 = [] from rfl)]; simp
    | 1, _ =>
      rw [if_neg (by simp [even])]
      have hz := leb_len10 (zig_lt hx)
      have e : (zdI (even x d 1) 4) = [zig x] := rfl
      show (wayZ (zdI (even x d 1) 4) 4).2 = 0 ∧ (wayZ (zdI (even x d 1) 4) 4).1.length ≤ 24
      rw [e]
      refine ⟨rfl, ?_⟩
      show (leb (zig x) ++ []).length ≤ 24
      rw [List.append_nil]; omega
    | m + 2, hm =>
      rw [if_neg (by simp [even])]
      have hz := leb_len10 (zig_lt hx)
      have e : (zdI (even x d (m + 2)) 4) = zig x :: zig d :: List.replicate m 0 := by
        show (diffS (even x d (m + 2)) 2).map zig = _
        rw [diff_even hd, List.map_cons, List.map_cons, List.map_replicate]; rfl
      show (wayZ (zdI (even x d (m + 2)) 4) 4).2 = 0 ∧ (wayZ (zdI (even x d (m + 2)) 4) 4).1.length ≤ 24
      rw [e]
      refine ⟨rfl, ?_⟩
      show (leb (zig x) ++ encRn 0 (zig d :: List.replicate m 0)).length ≤ 24
      have := encRn_even (zig_lt hd) (m := m) (by omega)
      rw [List.length_append]; omega
  have := encI_min (by omega) 4 h4.1
  omega
end Go.Ck

set_option linter.unusedVariables false
set_option maxRecDepth 10000
set_option maxHeartbeats 1000000
namespace Go.Ck
open Go.Proofs

theorem law08even_fn (x d n : Int) (hx : i64r x) (hd : i64r d) : Fn Try.prog 8 [] [.pv (.int .i64 x), .pv (.int .i64 d), .pv (.int .i64 n)] (fun rs H' => rs = [.pv (.bool true)] ∧ H' = []) := by
  refine Fn.of_body (fn := Try.f8) (n := 43) (res := [.tmp 6]) (by kernel_rfl) rfl rfl rfl rfl rfl (fun C => ?_)
  have hr : room = 140737488355328 := rfl
  refine AW.go ?_
  refine AW.callE (fun _ => 0) awake08_fn .nil ?_
  refine AW.go ?_
  obtain ⟨k, hk, ek⟩ := and_low n 10 (by omega)
  have ek : ibits .and .i64 n 1023 = (k : Int) := ek
  refine AW.loopS (fun i : Nat => ⟨43, [(7, .pv (.bool true)), (8, .own 3 (ints (even x d i))), (1, .pv (.int .i64 d)), (2, .pv (.int .i64 n)), (9, .pv (.int .i64 (evx x d i))), (10, .pv (.int .i64 i))], []⟩) (fun i => i ≤ k) (fun i => k - i) [7, 8, 1, 2, 9, 10] [] 0 (Nat.zero_le _) ?_
  rintro i hi K hK
  refine AW.go ?_ (by simp only [go_sem, ↓reduceIte, ek] <;> rfl)
  refine AW.cond rfl (fun hc => ?_) (fun hc => ?_)
  · have hlt : i < k := by simpa using hc
    have hl := even_len d i x
    have ei : IntKind.i64.wrap ((i : Int) + 1) = ((i + 1 : Nat) : Int) := wrap_i64_succ (by omega)
    have e2 : IntKind.i64.wrap (evx x d i + d) = evx x d (i + 1) := rfl
    have e3 : ints (even x d i) ++ [PV.int .i64 (evx x d i)] = ints (even x d (i + 1)) := by rw [even_snoc]; simp [ints]
    have h1 : (even x d i).length + 1 ≤ room := by omega
    have h3 : ((even x d i).length + 1) * 8 ≤ room := by omega
    have h2 : (ints (even x d i)).length + 1 ≤ room := by simp only [ints, List.length_map]; exact h1
    refine AW.go ?_ (by simp only [go_sem, ↓reduceIte, ei, e2, e3, h1, h2, h3] <;> rfl)
    exact AW.again hK (i + 1) hlt (by omega)
  have hik : i = k := by simp at hc; omega
  subst hik
  have hev := even_r d i x hx
  have hs := encI_even hx hd hk
  have hok := encI_ok (xs := even x d i) (by rw [even_len]; omega)
  have he : (encI (even x d i)).2 = 0 := by rw [hok]
  refine AW.go ?_
  refine AW.callE (fun _ => 0) (encI_fn _ hev) (.lend rfl co_3 .nil) ?_
  rw [he]
  have d1 : decide ((encI (even x d i)).1.length ≤ 27) = true := decide_eq_true (by omega)
  have d2 : decide (((encI (even x d i)).1.length : Int) ≤ 27) = true := decide_eq_true (by omega)
  refine AW.gg ?_ (by simp only [go_sem, ↓reduceIte, d1, d2] <;> rfl)
  refine AW.finE (.pv _ .nil) rfl

theorem law08short_fn (xs : List Int) (n : Int) (hx : ∀ x ∈ xs, i64r x) (hn : i64r n) : Fn Try.prog 9 [] [.pv (.sl 1 (ints xs)), .pv (.int .i64 n)] (fun rs H' => rs = [.pv (.bool true)] ∧ H' = []) := by
  refine Fn.of_body (fn := Try.f9) (n := 77) (res := [.tmp 4]) (by kernel_rfl) rfl rfl rfl rfl rfl (fun C => ?_)
  have hr : room = 140737488355328 := rfl
  refine AW.go ?_
  refine AW.callE (fun _ => 0) awake08_fn .nil ?_
  refine AW.go ?_
  refine AW.cond rfl (fun hc => ?_) (fun hc => ?_)
  · refine AW.go ?_
    refine AW.finE (.pv _ .nil) rfl
  have hl : xs.length ≤ 300 := by simp at hc; omega
  have hxn : ∀ x ∈ xs ++ [n], i64r x := fun x h => (List.mem_append.1 h).elim (hx x) (fun h => by simp at h; subst h; exact hn)
  have hl2 : (xs ++ [n]).length = xs.length + 1 := by simp
  have hok := encI_ok (xs := xs) (by omega)
  have he : (encI xs).2 = 0 := by rw [hok]
  have hsh := encI_short (xs := xs) (by omega)
  have hok2 := encI_ok (xs := xs ++ [n]) (by omega)
  have he2 : (encI (xs ++ [n])).2 = 0 := by rw [hok2]
  have hdec := decI_encI hxn (by omega)
  have hby := encI_byte hxn
  have hrm := encI_room hxn
  have e1 : ints xs ++ [PV.int .i64 n] = ints (xs ++ [n]) := by simp [ints]
  have h1 : xs.length ≤ room := by omega
  have h2 : xs.length + 1 ≤ room := by omega
  have h3 : xs.length * 8 ≤ room := by omega
  have h4 : (xs.length + 1) * 8 ≤ room := by omega
  refine AW.go ?_
  refine AW.callE (fun _ => 0) (encI_fn xs hx) (.pv _ .nil) ?_
  rw [he]
  generalize hb : (encI xs).1 = b at *
  refine AW.go ?_ (by simp only [go_sem, ↓reduceIte, List.nil_append, Nat.zero_add, h1, h2, h3, h4, e1] <;> rfl)
  refine AW.callE (fun _ => 0) (encI_fn (xs ++ [n]) hxn) (.lend rfl co_3 .nil) ?_
  rw [he2]
  rw [hl2] at hdec
  generalize hb2 : (encI (xs ++ [n])).1 = b2 at *
  have ei : IntKind.i64.wrap ((xs.length : Int) + 1) = ((xs.length + 1 : Nat) : Int) := wrap_i64_succ (by omega)
  refine AW.go ?_ (by simp only [go_sem, ↓reduceIte, ei] <;> rfl)
  refine AW.callE (fun _ => 0) (decI_fn b2 ((xs.length + 1 : Nat) : Int) (by omega) hby) (.lend rfl co_5 (.pv _ .nil)) ?_
  rw [hdec]
  have d0 : (((xs.length + 1 : Nat) : Int) != ((xs.length + 1 : Nat) : Int)) = false := by simp
  have d1 : ((xs ++ [n]).length != xs.length + 1) = false := by simp
  refine AW.gg ?_ (by simp only [go_sem, ↓reduceIte, hl2, ei, d0, d1] <;> rfl)
  refine AW.condF rfl ?_
  have e8 : IntKind.i64.wrap (8 * (xs.length : Int)) = ((8 * xs.length : Nat) : Int) := wrap_i64_of (by omega) (by omega) |>.trans (by simp)
  have e9 : IntKind.i64.wrap (1 + ((8 * xs.length : Nat) : Int)) = ((1 + 8 * xs.length : Nat) : Int) := wrap_i64_of (by omega) (by omega) |>.trans (by simp)
  have d2 : decide (b.length ≤ 1 + 8 * xs.length) = true := decide_eq_true (by omega)
  have hg : (ints (xs ++ [n]))[xs.length]? = some (.int .i64 n) := by simp [ints]
  have dn : (n == n) = true := by simp
  have hlt : xs.length < xs.length + 1 := Nat.lt_succ_self _
  refine AW.gg ?_ (by simp only [go_sem, ↓reduceIte, e8, e9, d2, hg, dn, hl2, hlt] <;> rfl)
  refine AW.finE (.pv _ .nil) rfl
end Go.Ck
