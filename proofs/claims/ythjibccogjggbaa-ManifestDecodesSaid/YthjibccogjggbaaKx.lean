/- What is proved here: parts of the proofs of this seat's statements (a verified evaluator for calls over pure values, its laws, and contracts of functions). No condition. -/
import Derived.Test.YthjibccogjggbaaKu
import Derived.Test.YthjibccogjggbaaKw
import Derived.Test.YthjibccogjggbaaKt
import Derived.Test.YthjibccogjggbaaKm
import Derived.Test.YthjibccogjggbaaKs
set_option linter.all false
set_option linter.unusedVariables false
set_option maxRecDepth 100000
set_option maxHeartbeats 400000
namespace Go.Ck
open Go.Proofs
def verB (v : List Nat) (i : Nat) : Nat := beN (v.take i)
theorem verB_succ {v : List Nat} {i x : Nat} (h : v[i]? = some x) : verB v (i + 1) = verB v i * 256 + x := by
  unfold verB
  obtain ⟨hi, rfl⟩ := List.getElem?_eq_some_iff.1 h
  rw [List.take_succ_eq_append_getElem hi]
  unfold beN
  rw [List.foldl_append]
  rfl
theorem refDec_fn (b : List Nat) (hl : b.length ≤ 2 ^ 39) (hb : ∀ x ∈ b, x < 256) : Fn Try.prog 15 [] [.pv (.sl 1 (bytes b))]
    (fun rs H' => rs = [.pv (manP (refD b).1), .pv (.int .i64 (refD b).2)] ∧ H' = []) := by
  refine Fn.of_body (fn := Try.f15) (n := 154) (res := [.cell 2 26, .tmp 3]) (by kernel_rfl) rfl rfl rfl rfl rfl (fun C => ?_)
  have hr : room = 140737488355328 := rfl
  have hA1 := rdB_len (n := 4) (s := (b, 0))
  have hA2 := (rdB_byte (n := 4) (s := (b, 0)) hb).1
  have hA3 := rdB_take (n := 4) (s := (b, 0))
  have e0 : refD b = refD1 (rdN ((rdB 4 (b, 0)).1 == [67, 83, 75, 49]) 3 (rdB 4 (b, 0)).2) := rfl
  rw [e0]; clear e0
  refine AW.go ?_
  refine AW.callE (fun _ => 18) (rdB_fn (b, 0) 4 (by decide) (by simp only; omega)) (.ptr rfl (.pv _ .nil)) ?_
  generalize rdB 4 (b, 0) = h at *
  obtain ⟨h, s0⟩ := h
  simp only at hA1 hA2 hA3 ⊢
  refine AW.go ?_
  refine AW.callE (args := [.pv (.sl 1 (bytes h)), .pv (.sl 1 (bytes [67, 83, 75, 49]))]) (fun _ => 0) (ref01Same_fn h [67, 83, 75, 49] (by omega)) (.pv _ (.lend rfl co_5 .nil)) ?_
  have e1 : (h == [67, 83, 75, 49]) = decide (h = [67, 83, 75, 49]) := by rw [Bool.eq_iff_iff]; simp
  rw [e1]; clear e1
  refine AW.go ?_
  refine AW.callE (fun _ => 18) (rdN_fn s0 (decide (h = [67, 83, 75, 49])) 3) (.ptr rfl (.pv _ (.pv _ .nil))) ?_
  have hB1 : (rdN (decide (h = [67, 83, 75, 49])) 3 s0).1 = s0.1 := rdN_len
  generalize rdN (decide (h = [67, 83, 75, 49])) 3 s0 = s1 at *
  clear hA3
  obtain ⟨q1, x1⟩ := s1
  simp only at hB1
  subst hB1
  have hC1 := rdB_len (n := 8) (s := (s0.1, x1))
  have hC2 := rdB_byte (n := 8) (s := (s0.1, x1)) hA2
  have hC3 := rdB_take (n := 8) (s := (s0.1, x1))
  have e0 : refD1 (s0.1, x1) = refD2 (beN (rdB 8 (s0.1, x1)).1) (rdN (beN (rdB 8 (s0.1, x1)).1 != 18446744073709551615) 3 (rdB 8 (s0.1, x1)).2) := rfl
  rw [e0]; clear e0
  refine AW.go ?_
  refine AW.callE (fun _ => 18) (rdB_fn (s0.1, x1) 8 (by decide) (by simp only; omega)) (.ptr rfl (.pv _ .nil)) ?_
  generalize rdB 8 (s0.1, x1) = h at *
  obtain ⟨v, s2⟩ := h
  simp only at hC1 hC2 hC3 ⊢
  refine AW.go ?_
  refine AW.nilsOwnAt (.cell 2 1) 5 ?_
  refine AW.freeze (p := .cell 2 1) (by simp only [go_sem, ↓reduceIte, freeze, freezeO] <;> rfl) ?_
  refine AW.nilsOwnAt (.cell 2 2) 38 ?_
  refine AW.freeze (p := .cell 2 2) (by simp only [go_sem, ↓reduceIte, freeze, freezeO] <;> rfl) ?_
  refine AW.nilsOwnAt (.cell 2 3) 5 ?_
  refine AW.freeze (p := .cell 2 3) (by simp only [go_sem, ↓reduceIte, freeze, freezeO] <;> rfl) ?_
  refine AW.nilsOwnAt (.cell 6 1) 5 ?_
  refine AW.freeze (p := .cell 6 1) (by simp only [go_sem, ↓reduceIte, freeze, freezeO] <;> rfl) ?_
  refine AW.nilsOwnAt (.cell 6 3) 5 ?_
  refine AW.freeze (p := .cell 6 3) (by simp only [go_sem, ↓reduceIte, freeze, freezeO] <;> rfl) ?_
  refine AW.nilsOwnAt (.cell 6 2) 38 ?_
  obtain ⟨q2, x2⟩ := s2
  simp only at hC1 hC2 ⊢
  obtain ⟨hC2, hC4⟩ := hC2
  have hvl : ∀ i, verB v i < 2 ^ 64 := fun i => by
    have h1 := beN_lt (v.take i) (fun x hx => hC4 x (List.mem_of_mem_take hx))
    have h2 : 256 ^ (v.take i).length ≤ 256 ^ 8 := Nat.pow_le_pow_right (by omega) (by rw [List.length_take]; omega)
    unfold verB; omega
  refine AW.loopS (fun i : Nat => ⟨154, [(8, .pv (.int .i64 i)), (7, .pv (.sl 1 (bytes v))), (4, .ptr 18 0), (6, .ptr 6 0), (2, .ptr 2 0), (3, .pv (.int .i64 0))], [(6, .cells 26 [.pv (.int .u64 (verB v i)), .pv (.sl 1 []), .own 38 [], .pv (.sl 1 [])]), (18, .cells 70 [.pv (.sl 1 (bytes q2)), .pv (.int .i64 x2)]), (2, .cells 26 [.pv (.int .u64 0), .pv (.sl 1 []), .pv (.sl 2 []), .pv (.sl 1 [])])]⟩) (fun i => i ≤ v.length) (fun i => v.length - i) [8, 7, 4, 6, 2, 3] [6, 18, 2] 0 (Nat.zero_le _) ?_
  rintro i hi K hK
  refine AW.go ?_
  refine AW.cond rfl (fun hc => ?_) (fun hc => ?_)
  · have hlt : i < v.length := by have := of_decide_eq_true hc; omega
    obtain ⟨x, hx⟩ : ∃ x, v[i]? = some x := ⟨v[i], List.getElem?_eq_getElem hlt⟩
    have hx8 := hC4 x (List.mem_of_getElem? hx)
    have hg : (bytes v)[i]? = some (.int .u8 (x : Int)) := by unfold bytes; rw [List.getElem?_map, hx]; rfl
    have hs := verB_succ hx
    have hs2 := hvl (i + 1)
    have w1 : IntKind.u64.wrap ((verB v i : Int) * 256) = ((verB v i * 256 : Nat) : Int) := wrap_u64_lt (n := verB v i * 256) (by omega)
    have w2 : IntKind.u64.wrap (((verB v i * 256 : Nat) : Int) + (x : Int)) = ((verB v (i + 1) : Nat) : Int) := by rw [hs]; exact wrap_u64_lt (n := verB v i * 256 + x) (by omega)
    have w3 : IntKind.u64.wrap (x : Int) = (x : Int) := wrap_u64_lt (by omega)
    have ei : IntKind.i64.wrap ((i : Int) + 1) = ((i + 1 : Nat) : Int) := wrap_i64_succ (by omega)
    refine AW.go ?_
    refine AW.calmS ?_
    refine CK.reads [[], [35], [36], [], [], [38, 39], [40], [41], [37, 42]] ?_ (by simp only [go_sem, ↓reduceIte, hg, w1, w2, w3] <;> rfl)
    refine CK.done (M := 9) 2 mixed ?_
    refine AW.seqs (fuel := 0) (listed' := Array.replicate 11 true) [9, 10] ?_ (by decide +kernel)
    refine AW.gg ?_
    refine AW.anyDone (by decide +kernel) ?_
    refine AW.go ?_ (by simp only [go_sem, ↓reduceIte, ei] <;> rfl)
    exact AW.again hK (i + 1) (by omega) (by omega)
  have hge : i = v.length := by have := of_decide_eq_false hc; omega
  have hve : verB v i = beN v := by unfold verB; rw [List.take_of_length_le (by omega)]
  have hv64 := hvl i
  rw [hve] at hv64 ⊢
  clear hve hvl
  generalize beN v = ver at *
  clear hge hi hc hC3 hC4
  have dv : ((ver : Int) != 18446744073709551615) = (ver != 18446744073709551615) := by rw [Bool.eq_iff_iff]; simp; omega
  refine AW.go ?_ (by simp only [go_sem, ↓reduceIte, dv] <;> rfl)
  refine AW.callE (fun _ => 18) (rdN_fn (q2, x2) (ver != 18446744073709551615) 3) (.ptr rfl (.pv _ (.pv _ .nil))) ?_
  have hD1 : (rdN (ver != 18446744073709551615) 3 (q2, x2)).1 = q2 := rdN_len
  generalize rdN (ver != 18446744073709551615) 3 (q2, x2) = s3 at *
  obtain ⟨q3, x3⟩ := s3
  simp only at hD1
  subst hD1
  have hE1 := rdB_len (n := 32) (s := (q3, x3))
  have hE2 := (rdB_byte (n := 32) (s := (q3, x3)) hC2).1
  have e0 : refD2 ver (q3, x3) = refD3 ver (rdB 32 (q3, x3)).1 (rdB 32 (q3, x3)).2 := rfl
  rw [e0]; clear e0
  refine AW.go ?_
  refine AW.callE (fun _ => 18) (rdB_fn (q3, x3) 32 (by decide) (by simp only; omega)) (.ptr rfl (.pv _ .nil)) ?_
  generalize rdB 32 (q3, x3) = h at *
  obtain ⟨prev, q4, x4⟩ := h
  simp only at hE1 hE2 ⊢
  have e0 : refD3 ver prev (q4, x4) = refD4 ver prev (rdD (q4, x4)).1 (rdD (q4, x4)).2 := rfl
  rw [e0]; clear e0
  have hF1 := rdD_len (q4, x4) hE2
  have hF2 := rdD_byte (q4, x4) hE2
  have hF3 := rdD_n (q4, x4)
  refine AW.go ?_
  refine AW.callE (fun _ => 18) (rdD_fn (q4, x4) (by simp only; omega) hE2) (.ptr rfl .nil) ?_
  generalize rdD (q4, x4) = h at *
  obtain ⟨ts, q5, x5⟩ := h
  simp only at hF1 hF2 hF3 ⊢
  have e0 : refD4 ver prev ts (q5, x5) = refD5 ver prev (rdEs ts (q5, x5)).1 (rdEs ts (q5, x5)).2.1 (rdEs ts (q5, x5)).2.2 := rfl
  rw [e0]; clear e0
  have e0 : rdEs ts (q5, x5) = rdE ts (rdV (q5, x5)).1 (List.replicate ts.length false) [] (rdN (decide ((rdV (q5, x5)).1 ≤ 1048576)) 4 (rdV (q5, x5)).2) := rfl
  rw [e0]; clear e0
  have hG1 := rdV_len (s := (q5, x5))
  obtain ⟨hG2, hG3⟩ := rdV_byte (s := (q5, x5)) hF2
  refine AW.go ?_
  refine AW.callE (fun _ => 18) (rdV_fn (q5, x5) (by simp only; omega) hF2) (.ptr rfl .nil) ?_
  generalize rdV (q5, x5) = h at *
  obtain ⟨n, q6, x6⟩ := h
  simp only at hG1 hG2 hG3 ⊢
  have d1 : decide ((n : Int) ≤ 1048576) = decide (n ≤ 1048576) := by rw [Bool.eq_iff_iff]; simp; omega
  refine AW.go ?_ (by simp only [go_sem, ↓reduceIte, d1] <;> rfl)
  refine AW.callE (fun _ => 18) (rdN_fn (q6, x6) (decide (n ≤ 1048576)) 4) (.ptr rfl (.pv _ (.pv _ .nil))) ?_
  have hH1 : (rdN (decide (n ≤ 1048576)) 4 (q6, x6)).1 = q6 := rdN_len
  have hH2 : (rdN (decide (n ≤ 1048576)) 4 (q6, x6)).2 = 0 → n ≤ 1048576 := fun h => of_decide_eq_true (rdN_zero (by decide) h).2
  generalize rdN (decide (n ≤ 1048576)) 4 (q6, x6) = h at *
  obtain ⟨q7, x7⟩ := h
  simp only at hH1 hH2
  subst hH1
  have rt : (ts.length ≤ room) = True := eq_true (by omega)
  have hrep := bools_rep ts.length false
  refine AW.go ?_ (by simp only [go_sem, ↓reduceIte, rt, hrep, Int.toNat_natCast] <;> rfl)
  refine AW.loopS (fun a : Nat × List Bool × List Ent × RdS => ⟨154, [(12, .pv (.int .u64 a.1)), (10, .pv (.int .u64 n)), (4, .ptr 18 0), (9, .pv (.sl 1 (strs ts))), (11, .own 4 (bools a.2.1)), (6, .ptr 6 0), (2, .ptr 2 0), (3, .pv (.int .i64 0))], [(6, .cells 26 [.pv (.int .u64 ver), .pv (.sl 1 (bytes prev)), .own 38 (entsP a.2.2.1), .pv (.sl 1 [])]), (18, .cells 70 [.pv (.sl 1 (bytes a.2.2.2.1)), .pv (.int .i64 a.2.2.2.2)]), (2, .cells 26 [.pv (.int .u64 0), .pv (.sl 1 []), .pv (.sl 2 []), .pv (.sl 1 [])])]⟩) (fun a => a.1 ≤ n ∧ rdE ts (n - a.1) a.2.1 a.2.2.1 a.2.2.2 = rdE ts n (List.replicate ts.length false) [] (q7, x7) ∧ (∀ x ∈ a.2.2.2.1, x < 256) ∧ a.2.2.2.1.length ≤ b.length ∧ (a.2.2.2.2 = 0 → n ≤ 1048576) ∧ a.2.2.1.length ≤ a.1 ∧ a.2.1.length = ts.length) (fun a => n - a.1) [12, 10, 4, 9, 11, 6, 2, 3] [6, 18, 2] (0, List.replicate ts.length false, [], (q7, x7)) ⟨Nat.zero_le _, rfl, hG2, by simp only; omega, hH2, Nat.le_refl _, by simp⟩ ?_
  rintro ⟨i, us, es, ⟨q, x⟩⟩ ⟨hi, htn, hqb, hql, hn, hesl, husl⟩ K hK
  simp only at hi htn hqb hql hn hesl husl
  by_cases hc : i < n ∧ x = 0
  · obtain ⟨hlt, he⟩ := hc
    subst he
    have hn := hn rfl
    obtain ⟨m, hm⟩ : ∃ m, n - i = m + 1 := ⟨n - i - 1, by omega⟩
    have e0 : rdE ts (m + 1) us es (q, 0) = if (rdE2 ts (q, 0)).2 = 0 then rdE ts m (us.set (rdV (q, 0)).1 true) (es ++ [entD (ts.getD (rdV (q, 0)).1 []) ((rdB 1 (rdE1 ts (q, 0))).1.headD 0)]) (rdE2 ts (q, 0)) else rdE ts m us es (rdE2 ts (q, 0)) := by conv => lhs; unfold rdE; rw [if_neg (by simp)]
    rw [hm, e0] at htn
    clear e0
    have hz := rdE2_zero (ts := ts) (s := (q, 0))
    have e1 : rdE2 ts (q, 0) = rdN (okOne (rdB 1 (rdE1 ts (q, 0))).1) 3 (rdB 1 (rdE1 ts (q, 0))).2 := rfl
    rw [e1] at htn hz
    clear e1
    have e2 : rdE1 ts (q, 0) = rdN (decide ((rdV (q, 0)).1 < ts.length)) 3 (rdV (q, 0)).2 := rfl
    rw [e2] at htn hz
    clear e2
    have d1 : decide ((i : Int) < (n : Int)) = true := decide_eq_true (by omega)
    have d1' : decide (i < n) = true := decide_eq_true hlt
    have g0 : ((0 : Int) == 0) = true := rfl
    have ei : IntKind.u64.wrap ((i : Int) + 1) = ((i + 1 : Nat) : Int) := wrap_u64_lt (n := i + 1) (by omega)
    have hV1 := rdV_len (s := (q, 0))
    obtain ⟨hV2, hV3⟩ := rdV_byte (s := (q, 0)) hqb
    refine AW.gg ?_ (by simp only [go_sem, ↓reduceIte, g0, d1, d1'] <;> rfl)
    refine AW.condT rfl ?_
    refine AW.go ?_
    refine AW.callE (fun _ => 18) (rdV_fn (q, 0) (by simp only; omega) hqb) (.ptr rfl .nil) ?_
    generalize rdV (q, 0) = h at *
    obtain ⟨v, q8, x8⟩ := h
    simp only at hV1 hV2 hV3 htn hz
    have et : IntKind.u64.wrap (ts.length : Int) = (ts.length : Int) := wrap_u64_lt (by omega)
    have dv : decide ((v : Int) < (ts.length : Int)) = decide (v < ts.length) := by rw [Bool.eq_iff_iff]; simp
    refine AW.go ?_ (by simp only [go_sem, ↓reduceIte, et, dv] <;> rfl)
    refine AW.callE (fun _ => 18) (rdN_fn (q8, x8) (decide (v < ts.length)) 3) (.ptr rfl (.pv _ (.pv _ .nil))) ?_
    have hW1 : (rdN (decide (v < ts.length)) 3 (q8, x8)).1 = q8 := rdN_len
    generalize rdN (decide (v < ts.length)) 3 (q8, x8) = h at *
    obtain ⟨q9, x9⟩ := h
    simp only at hW1
    subst hW1
    have hB1 := rdB_len (n := 1) (s := (q9, x9))
    obtain ⟨hB2, hB3⟩ := rdB_byte (n := 1) (s := (q9, x9)) hV2
    have hB4 := rdB_take (n := 1) (s := (q9, x9))
    refine AW.go ?_
    refine AW.callE (fun _ => 18) (rdB_fn (q9, x9) 1 (by decide) (by simp only; omega)) (.ptr rfl (.pv _ .nil)) ?_
    generalize rdB 1 (q9, x9) = h at *
    obtain ⟨kb, q10, x10⟩ := h
    simp only at hB1 hB2 hB3 hB4 htn hz
    refine AW.go ?_
    refine via (T := ?Tok) (fun hT => ?_) ?_; rotate_left
    · by_cases hk1 : kb.length = 1
      · obtain ⟨y, hkb⟩ : ∃ y, kb = [y] := by
          match kb, hk1 with
          | [y], _ => exact ⟨y, rfl⟩
        have hgy : (bytes kb)[0]? = some (.int .u8 (y : Int)) := by rw [hkb]; rfl
        have dy : decide ((y : Int) ≤ 8) = okOne kb := by rw [hkb, okOne_one, Bool.eq_iff_iff]; simp; omega
        have d2 : ((kb.length : Int) == 1) = true := by rw [beq_iff_eq]; omega
        refine AW.gg ?_ (by simp only [go_sem, ↓reduceIte, hgy, dy, d2] <;> rfl)
        refine AW.callE (fun _ => 18) (rdN_fn (q10, x10) (okOne kb) 3) (.ptr rfl (.pv _ (.pv _ .nil))) ?_
        refine AW.keepB [12, 10, 4, 9, 11, 6, 2, 3, 13, 14] [6, 18, 2] (s' := ⟨154, [(12, .pv (.int .u64 i)), (10, .pv (.int .u64 n)), (4, .ptr 18 0), (9, .pv (.sl 1 (strs ts))), (11, .own 4 (bools us)), (6, .ptr 6 0), (2, .ptr 2 0), (3, .pv (.int .i64 0)), (13, .pv (.int .u64 v)), (14, .pv (.sl 1 (bytes kb)))], [(6, .cells 26 [.pv (.int .u64 ver), .pv (.sl 1 (bytes prev)), .own 38 (entsP es), .pv (.sl 1 [])]), (18, .cells 70 [.pv (.sl 1 (bytes (rdN (okOne kb) 3 (q10, x10)).1)), .pv (.int .i64 (rdN (okOne kb) 3 (q10, x10)).2)]), (2, .cells 26 [.pv (.int .u64 0), .pv (.sl 1 []), .pv (.sl 2 []), .pv (.sl 1 [])])]⟩) (by simp only [go_sem, ↓reduceIte]) (by simp only [go_sem, ↓reduceIte] <;> rfl) ?_
        exact hT ()
      · have hk0 : kb = [] := List.eq_nil_of_length_eq_zero (by omega)
        have hok : okOne kb = false := by rw [hk0]; rfl
        have d2 : ((kb.length : Int) == 1) = false := by rw [beq_eq_false_iff_ne]; omega
        refine AW.gg ?_ (by simp only [go_sem, ↓reduceIte, d2] <;> rfl)
        refine AW.callE (fun _ => 18) (rdN_fn (q10, x10) false 3) (.ptr rfl (.pv _ (.pv _ .nil))) ?_
        rw [show rdN false 3 (q10, x10) = rdN (okOne kb) 3 (q10, x10) by rw [hok]]
        refine AW.keepB [12, 10, 4, 9, 11, 6, 2, 3, 13, 14] [6, 18, 2] (s' := ⟨154, [(12, .pv (.int .u64 i)), (10, .pv (.int .u64 n)), (4, .ptr 18 0), (9, .pv (.sl 1 (strs ts))), (11, .own 4 (bools us)), (6, .ptr 6 0), (2, .ptr 2 0), (3, .pv (.int .i64 0)), (13, .pv (.int .u64 v)), (14, .pv (.sl 1 (bytes kb)))], [(6, .cells 26 [.pv (.int .u64 ver), .pv (.sl 1 (bytes prev)), .own 38 (entsP es), .pv (.sl 1 [])]), (18, .cells 70 [.pv (.sl 1 (bytes (rdN (okOne kb) 3 (q10, x10)).1)), .pv (.int .i64 (rdN (okOne kb) 3 (q10, x10)).2)]), (2, .cells 26 [.pv (.int .u64 0), .pv (.sl 1 []), .pv (.sl 2 []), .pv (.sl 1 [])])]⟩) (by simp only [go_sem, ↓reduceIte]) (by simp only [go_sem, ↓reduceIte] <;> rfl) ?_
        exact hT ()
    have hB5 : (rdN (okOne kb) 3 (q10, x10)).1 = q10 := rdN_len
    generalize rdN (okOne kb) 3 (q10, x10) = h at *
    obtain ⟨q11, x11⟩ := h
    simp only at hB5 htn hz
    subst hB5
    by_cases hx11 : x11 = 0
    · subst hx11
      obtain ⟨hvt, hok⟩ := hz rfl
      rw [if_pos rfl] at htn
      obtain ⟨y, hkb⟩ : ∃ y, kb = [y] := by
        unfold okOne at hok
        rw [Bool.and_eq_true] at hok
        match kb, of_decide_eq_true hok.1 with
        | [y], _ => exact ⟨y, rfl⟩
      subst hkb
      have hy := hB3 y (by simp)
      have hgt : ts[v]? = some (ts.getD v []) := by rw [List.getD_eq_getElem?_getD, List.getElem?_eq_getElem hvt]; rfl
      have hg := strs_get hgt
      have t3 : ([y] : List Nat).headD 0 = y := rfl
      rw [t3] at htn
      generalize ts.getD v [] = tn at *
      have hgy : (bytes [y])[0]? = some (.int .u8 (y : Int)) := rfl
      have hvu : (v < us.length) = True := eq_true (by omega)
      have hvu' : (v < (bools us).length) = True := by rw [bools_len]; exact hvu
      have hbs := bools_set us v true
      have hgu := bools_get (List.getElem?_eq_getElem (show v < us.length by omega))
      have ey : IntKind.i64.wrap (y : Int) = (y : Int) := wrap_i64_nat (by omega)
      have r1 : ((es.length + 1) * 24 ≤ room) = True := eq_true (by omega)
      have r2 : (es.length + 1 ≤ room) = True := eq_true (by omega)
      have hsn := entsP_snoc es tn y
      have hlen : (es ++ [entD tn y]).length = es.length + 1 := by simp
      refine AW.go ?_ (by simp only [go_sem, ↓reduceIte, g0] <;> rfl)
      refine AW.condT rfl ?_
      refine AW.go ?_ (by simp only [go_sem, ↓reduceIte, hvu, hvu', bools_len, hbs, hgu] <;> rfl)
      refine AW.calmS ?_
      refine CK.reads [[], [106], [], [], [108, 109], [110], [], [112], [113], [114]] ?_ (by simp only [go_sem, ↓reduceIte, hg, hgy, ey] <;> rfl)
      refine CK.build [111, 115] ?_ (hf := by simp only [go_sem, ↓reduceIte, hg, hgy, ey] <;> rfl)
      refine CK.list [116] ?_
      refine CK.done (M := 12) 3 mixed ?_
      refine AW.seqs (fuel := 0) (listed' := Array.replicate 15 true) [12, 13, 14] ?_ (by decide +kernel)
      refine AW.gg ?_ (by simp only [go_sem, ↓reduceIte, r1, r2, hsn, List.length_cons, List.length_nil, Nat.zero_add] <;> rfl)
      refine AW.anyDone (by decide +kernel) ?_
      refine AW.go ?_ (by simp only [go_sem, ↓reduceIte, ei] <;> rfl)
      refine AW.again hK (i + 1, us.set v true, es ++ [entD tn y], (q11, 0)) ⟨by simp only; omega, ?_, hB2, by simp only; omega, fun _ => hn, by simp only [hlen]; omega, by simp only [List.length_set]; exact husl⟩ (by simp only; omega)
      rw [← htn]
      simp only
      congr 1
      omega
    · have g1 : (x11 == 0) = false := beq_eq_false_iff_ne.2 hx11
      rw [if_neg hx11] at htn
      refine AW.go ?_ (by simp only [go_sem, ↓reduceIte, g1] <;> rfl)
      refine AW.condF rfl ?_
      refine AW.go ?_ (by simp only [go_sem, ↓reduceIte, ei] <;> rfl)
      refine AW.again hK (i + 1, us, es, (q11, x11)) ⟨by simp only; omega, ?_, hB2, by simp only; omega, fun _ => hn, by simp only; omega, husl⟩ (by simp only; omega)
      rw [← htn]
      simp only
      congr 1
      omega
  have hfin : rdE ts n (List.replicate ts.length false) [] (q7, x7) = (us, es, (q, x)) := by
    rw [← htn]
    by_cases h : x = 0
    · rw [show n - i = 0 by have := fun k => hc ⟨k, h⟩; omega]; rfl
    · exact rdE_err ts _ us es (s := (q, x)) h
  rw [hfin]
  clear hfin htn
  refine via (T := ?Tend) (fun hT => ?_) ?_; rotate_left
  · by_cases hlt : i < n
    · have d1 : decide ((i : Int) < (n : Int)) = true := decide_eq_true (by omega)
      have d1' : decide (i < n) = true := decide_eq_true (by omega)
      have g0 : (x == 0) = false := beq_eq_false_iff_ne.2 (fun k => hc ⟨hlt, k⟩)
      refine AW.gg ?_ (by simp only [go_sem, ↓reduceIte, g0, d1, d1'] <;> rfl)
      refine AW.keepB [73, 4, 11, 6, 2, 3] [6, 18, 2] (s' := ⟨154, [(73, .pv (.bool false)), (4, .ptr 18 0), (11, .own 4 (bools us)), (6, .ptr 6 0), (2, .ptr 2 0), (3, .pv (.int .i64 0))], [(6, .cells 26 [.pv (.int .u64 ver), .pv (.sl 1 (bytes prev)), .own 38 (entsP es), .pv (.sl 1 [])]), (18, .cells 70 [.pv (.sl 1 (bytes q)), .pv (.int .i64 x)]), (2, .cells 26 [.pv (.int .u64 0), .pv (.sl 1 []), .pv (.sl 2 []), .pv (.sl 1 [])])]⟩) (by simp only [go_sem, ↓reduceIte]) (by simp only [go_sem, ↓reduceIte] <;> rfl) ?_
      exact hT ()
    · have d1 : decide ((i : Int) < (n : Int)) = false := decide_eq_false (by omega)
      have d1' : decide (i < n) = false := decide_eq_false (by omega)
      refine AW.gg ?_ (by simp only [go_sem, ↓reduceIte, d1, d1'] <;> rfl)
      refine AW.keepB [73, 4, 11, 6, 2, 3] [6, 18, 2] (s' := ⟨154, [(73, .pv (.bool false)), (4, .ptr 18 0), (11, .own 4 (bools us)), (6, .ptr 6 0), (2, .ptr 2 0), (3, .pv (.int .i64 0))], [(6, .cells 26 [.pv (.int .u64 ver), .pv (.sl 1 (bytes prev)), .own 38 (entsP es), .pv (.sl 1 [])]), (18, .cells 70 [.pv (.sl 1 (bytes q)), .pv (.int .i64 x)]), (2, .cells 26 [.pv (.int .u64 0), .pv (.sl 1 []), .pv (.sl 2 []), .pv (.sl 1 [])])]⟩) (by simp only [go_sem, ↓reduceIte]) (by simp only [go_sem, ↓reduceIte] <;> rfl) ?_
      exact hT ()
  refine AW.condF rfl ?_
  have hP1 := rdB_len (n := 32) (s := (q, x))
  refine AW.go ?_
  refine AW.callE (fun _ => 18) (rdB_fn (q, x) 32 (by decide) (by simp only; omega)) (.ptr rfl (.pv _ .nil)) ?_
  have e0 : refD5 ver prev us es (q, x) = if (rdU us (rdN (decide ((rdB 32 (q, x)).2.1.length = 0)) 3 (rdB 32 (q, x)).2)).2 ≠ 0 then noM (rdU us (rdN (decide ((rdB 32 (q, x)).2.1.length = 0)) 3 (rdB 32 (q, x)).2)).2 else (⟨ver, prev, es, (rdB 32 (q, x)).1⟩, 0) := rfl
  rw [e0]
  clear e0
  generalize rdB 32 (q, x) = h at *
  obtain ⟨root, qa, xa⟩ := h
  simp only at hP1 ⊢
  have dq : ((qa.length : Int) == 0) = decide (qa.length = 0) := by rw [Bool.eq_iff_iff]; simp
  refine AW.go ?_ (by simp only [go_sem, ↓reduceIte, dq] <;> rfl)
  refine AW.callE (fun _ => 18) (rdN_fn (qa, xa) (decide (qa.length = 0)) 3) (.ptr rfl (.pv _ (.pv _ .nil))) ?_
  generalize rdN (decide (qa.length = 0)) 3 (qa, xa) = sb at *
  refine AW.go ?_
  refine AW.loopS (fun a : Nat × RdS => ⟨154, [(15, .pv (.int .i64 a.1)), (4, .ptr 18 0), (11, .own 4 (bools us)), (6, .ptr 6 0), (2, .ptr 2 0), (3, .pv (.int .i64 0))], [(6, .cells 26 [.pv (.int .u64 ver), .pv (.sl 1 (bytes prev)), .own 38 (entsP es), .pv (.sl 1 (bytes root))]), (18, .cells 70 [.pv (.sl 1 (bytes a.2.1)), .pv (.int .i64 a.2.2)]), (2, .cells 26 [.pv (.int .u64 0), .pv (.sl 1 []), .pv (.sl 2 []), .pv (.sl 1 [])])]⟩) (fun a => a.1 ≤ us.length ∧ rdU (us.drop a.1) a.2 = rdU us sb) (fun a => us.length - a.1) [15, 4, 11, 6, 2, 3] [6, 18, 2] (0, sb) ⟨Nat.zero_le _, rfl⟩ ?_
  rintro ⟨j, qc, xc⟩ ⟨hj, hju⟩ K hK
  simp only at hj hju
  refine AW.go ?_ (by simp only [go_sem, ↓reduceIte, bools_len] <;> rfl)
  refine AW.cond rfl (fun hc => ?_) (fun hc => ?_)
  · have hlt : j < us.length := by have := of_decide_eq_true hc; omega
    obtain ⟨u, hu⟩ : ∃ u, us[j]? = some u := ⟨us[j], List.getElem?_eq_getElem hlt⟩
    have hgu := bools_get hu
    have hul : (j < us.length) = True := eq_true hlt
    have ej : IntKind.i64.wrap ((j : Int) + 1) = ((j + 1 : Nat) : Int) := wrap_i64_succ (by omega)
    rw [rdU_at hu] at hju
    refine AW.go ?_ (by simp only [go_sem, ↓reduceIte, bools_len, hgu, hul] <;> rfl)
    refine AW.callE (fun _ => 18) (rdN_fn (qc, xc) u 3) (.ptr rfl (.pv _ (.pv _ .nil))) ?_
    refine AW.go ?_ (by simp only [go_sem, ↓reduceIte, ej] <;> rfl)
    exact AW.again hK (j + 1, rdN u 3 (qc, xc)) ⟨by simp only; omega, hju⟩ (by simp only; omega)
  have hge : us.length ≤ j := by have := of_decide_eq_false hc; omega
  rw [rdU_le hge] at hju
  rw [← hju]
  refine AW.go ?_
  refine AW.cond rfl (fun hc => ?_) (fun hc => ?_)
  · have hx : xc ≠ 0 := by simpa using hc
    rw [if_pos hx]
    refine AW.go ?_
    refine AW.any0 mixed ?_
    refine via (T := ?Tz) (fun hT => ?_) ?_; rotate_left
    · skip
      refine AW.takes (fuel := 6) [1] ?_ (by simp only [go_sem, ↓reduceIte] <;> rfl) Ends.noPanic (listed' := #[false, true, false, false, false, false, false]) (by decide +kernel) (by decide +kernel)
      refine AW.branch (fuel := 5) (rs := [0, 2]) ?_ (by decide +kernel) (by simp)
      intro j hj
      simp only [List.mem_cons, List.not_mem_nil, or_false] at hj
      rcases hj with rfl | rfl
      · skip
        refine AW.gg ?_
        refine AW.branch (fuel := 4) (rs := [2, 5]) ?_ (by decide +kernel) (by simp)
        intro j hj
        simp only [List.mem_cons, List.not_mem_nil, or_false] at hj
        rcases hj with rfl | rfl
        · skip
          refine AW.gg ?_
          refine AW.takes (fuel := 3) [3] ?_ (by simp only [go_sem, ↓reduceIte] <;> rfl) Ends.noPanic (listed' := #[true, true, true, true, false, false, false]) (by decide +kernel) (by decide +kernel)
          refine AW.branch (fuel := 2) (rs := [4, 5]) ?_ (by decide +kernel) (by simp)
          intro j hj
          simp only [List.mem_cons, List.not_mem_nil, or_false] at hj
          rcases hj with rfl | rfl
          · skip
            refine AW.gg ?_
            refine AW.seqs (fuel := 0) (listed' := #[true, true, true, true, true, true, true]) [5, 6] ?_ (by decide +kernel)
            refine AW.gg ?_
            refine AW.anyDone (by decide +kernel) ?_
            refine AW.keepB [3, 2] [2] (s' := ⟨154, [(3, .pv (.int .i64 xc)), (2, .ptr 2 0)], [(2, .cells 26 [.pv (.int .u64 0), .nils, .nils, .nils])]⟩) (by simp only [go_sem, ↓reduceIte]) (by simp only [go_sem, ↓reduceIte] <;> rfl) ?_
            exact hT ()
          · skip
            refine AW.gg ?_
            refine AW.seqs (fuel := 0) (listed' := #[true, true, true, true, true, true, true]) [4, 6] ?_ (by decide +kernel)
            refine AW.gg ?_
            refine AW.anyDone (by decide +kernel) ?_
            refine AW.keepB [3, 2] [2] (s' := ⟨154, [(3, .pv (.int .i64 xc)), (2, .ptr 2 0)], [(2, .cells 26 [.pv (.int .u64 0), .nils, .nils, .nils])]⟩) (by simp only [go_sem, ↓reduceIte]) (by simp only [go_sem, ↓reduceIte] <;> rfl) ?_
            exact hT ()
        · skip
          refine AW.gg ?_
          refine AW.seqs (fuel := 0) (listed' := #[true, true, true, true, true, true, true]) [2, 3, 4, 6] ?_ (by decide +kernel)
          refine AW.gg ?_
          refine AW.anyDone (by decide +kernel) ?_
          refine AW.keepB [3, 2] [2] (s' := ⟨154, [(3, .pv (.int .i64 xc)), (2, .ptr 2 0)], [(2, .cells 26 [.pv (.int .u64 0), .nils, .nils, .nils])]⟩) (by simp only [go_sem, ↓reduceIte]) (by simp only [go_sem, ↓reduceIte] <;> rfl) ?_
          exact hT ()
      · skip
        refine AW.gg ?_
        refine AW.takes (fuel := 4) [3] ?_ (by simp only [go_sem, ↓reduceIte] <;> rfl) Ends.noPanic (listed' := #[false, true, true, true, false, false, false]) (by decide +kernel) (by decide +kernel)
        refine AW.branch (fuel := 3) (rs := [0, 4]) ?_ (by decide +kernel) (by simp)
        intro j hj
        simp only [List.mem_cons, List.not_mem_nil, or_false] at hj
        rcases hj with rfl | rfl
        · skip
          refine AW.gg ?_
          refine AW.branch (fuel := 2) (rs := [4, 5]) ?_ (by decide +kernel) (by simp)
          intro j hj
          simp only [List.mem_cons, List.not_mem_nil, or_false] at hj
          rcases hj with rfl | rfl
          · skip
            refine AW.gg ?_
            refine AW.seqs (fuel := 0) (listed' := #[true, true, true, true, true, true, true]) [5, 6] ?_ (by decide +kernel)
            refine AW.gg ?_
            refine AW.anyDone (by decide +kernel) ?_
            refine AW.keepB [3, 2] [2] (s' := ⟨154, [(3, .pv (.int .i64 xc)), (2, .ptr 2 0)], [(2, .cells 26 [.pv (.int .u64 0), .nils, .nils, .nils])]⟩) (by simp only [go_sem, ↓reduceIte]) (by simp only [go_sem, ↓reduceIte] <;> rfl) ?_
            exact hT ()
          · skip
            refine AW.gg ?_
            refine AW.seqs (fuel := 0) (listed' := #[true, true, true, true, true, true, true]) [4, 6] ?_ (by decide +kernel)
            refine AW.gg ?_
            refine AW.anyDone (by decide +kernel) ?_
            refine AW.keepB [3, 2] [2] (s' := ⟨154, [(3, .pv (.int .i64 xc)), (2, .ptr 2 0)], [(2, .cells 26 [.pv (.int .u64 0), .nils, .nils, .nils])]⟩) (by simp only [go_sem, ↓reduceIte]) (by simp only [go_sem, ↓reduceIte] <;> rfl) ?_
            exact hT ()
        · skip
          refine AW.gg ?_
          refine AW.seqs (fuel := 0) (listed' := #[true, true, true, true, true, true, true]) [0, 5, 6] ?_ (by decide +kernel)
          refine AW.gg ?_
          refine AW.anyDone (by decide +kernel) ?_
          refine AW.keepB [3, 2] [2] (s' := ⟨154, [(3, .pv (.int .i64 xc)), (2, .ptr 2 0)], [(2, .cells 26 [.pv (.int .u64 0), .nils, .nils, .nils])]⟩) (by simp only [go_sem, ↓reduceIte]) (by simp only [go_sem, ↓reduceIte] <;> rfl) ?_
          exact hT ()
    refine AW.nilsOwnAt (.cell 2 1) 5 ?_
    refine AW.freeze (p := .cell 2 1) (by simp only [go_sem, ↓reduceIte, freeze, freezeO] <;> rfl) ?_
    refine AW.nilsOwnAt (.cell 2 2) 38 ?_
    refine AW.freeze (p := .cell 2 2) (by simp only [go_sem, ↓reduceIte, freeze, freezeO] <;> rfl) ?_
    refine AW.nilsOwnAt (.cell 2 3) 5 ?_
    refine AW.freeze (p := .cell 2 3) (by simp only [go_sem, ↓reduceIte, freeze, freezeO] <;> rfl) ?_
    refine AW.go ?_
    refine AW.finE (.pv _ (.pv _ .nil)) rfl
  have hx : ¬ xc ≠ 0 := by simpa using hc
  rw [if_neg hx]
  refine AW.freeze (p := .cell 6 2) (by simp only [go_sem, ↓reduceIte, freeze, freezeO] <;> rfl) ?_
  refine AW.go ?_
  refine AW.finE (.pv _ (.pv _ .nil)) rfl
end Go.Ck

set_option linter.unusedVariables false
set_option maxRecDepth 100000
set_option maxHeartbeats 400000
namespace Go.Ck
open Go.Proofs
theorem clone_fn (l : List Nat) (h0 : 0 < l.length) (hl : l.length ≤ room) : Fn Try.prog 48 [] [.pv (.sl 1 (bytes l))] (fun rs H' => rs = [.own 5 (bytes l)] ∧ H' = []) := by
  refine Fn.of_body (fn := Try.f48) (n := 8) (res := [.tmp 2]) (by kernel_rfl) rfl rfl rfl rfl rfl (fun C => ?_)
  refine AW.go ?_
  refine AW.eqNil (.inl rfl) rfl rfl rfl tk_23 rfl rfl rfl rfl (fun b hb => ?_)
  cases b with
  | true =>
    have : bytes l = [] := hb rfl
    have h2 : (bytes l).length = 0 := by rw [this]; rfl
    rw [bytes_length] at h2
    omega
  | false =>
    have r1 : (l.length ≤ room) = True := eq_true hl
    refine AW.go ?_
    refine AW.condF rfl ?_
    refine AW.go ?_ (by simp only [go_sem, ↓reduceIte, List.length_nil, Nat.zero_add, List.nil_append, r1] <;> rfl)
    exact AW.finE (.move rfl .nil) rfl
theorem sign_fn (key : List Nat) (m : Man) (hv : m.v < 2 ^ 64) (hl : m.es.length < 2 ^ 29) (hkb : ∀ x ∈ key, x < 256) : Fn Try.prog 17 [] [.pv (.sl 1 (bytes key)), .pv (manP m)] (fun rs H' => rs = [.own 5 (bytes (signM key m).1), .pv (.int .i64 (signM key m).2)] ∧ H' = []) := by
  refine Fn.of_body (fn := Try.f17) (n := 31) (res := [.tmp 4, .tmp 5]) (by kernel_rfl) rfl rfl rfl rfl rfl (fun C => ?_)
  have hroom : room = 140737488355328 := rfl
  have hm : manP m = .agg [.int .u64 (m.v : Int), .sl 1 (bytes m.prev), .sl 2 (entsP m.es), .sl 1 (bytes m.root)] := rfl
  have hef := manEnc_fn m hv hl
  have hel := encM_len m hv
  have hep := encM_pos m hv
  have hkb2 := dk_lt key 4 []
  have hkl2 := dk_len key 4 []
  rw [hm] at hef ⊢
  unfold signM
  generalize encM m = E at *
  obtain ⟨en, ee⟩ := E
  simp only at hef hel hep
  refine AW.go ?_
  refine AW.callE (fun _ => 0) (keyM_fn key hkb) (.pv _ .nil) ?_
  generalize dk key 4 [] = D at *
  obtain ⟨k, ke⟩ := D
  simp only at hkb2 hkl2
  simp only
  refine AW.go ?_
  refine AW.cond rfl (fun hc => ?_) (fun hc => ?_)
  · have hk0 : ke ≠ 0 := by rintro rfl; exact absurd hc (by decide)
    rw [if_pos hk0]
    refine AW.go ?_
    refine AW.finE (.move rfl (.pv _ .nil)) rfl
  have hk0 : ke = 0 := by
    have h2 : ((ke : Int) == 0) = true := by simpa [bne] using hc
    have := eq_of_beq h2
    omega
  rw [if_neg (by simp [hk0])]
  refine AW.go ?_
  refine AW.callE (fun _ => 0) hef (.pv _ .nil) ?_
  refine AW.go ?_
  refine AW.cond rfl (fun hc => ?_) (fun hc => ?_)
  · have he0 : ee ≠ 0 := by rintro rfl; exact absurd hc (by decide)
    rw [if_pos he0]
    refine AW.go ?_
    refine AW.finE (.move rfl (.pv _ .nil)) rfl
  have he0 : ee = 0 := by
    have h2 : ((ee : Int) == 0) = true := by simpa [bne] using hc
    have := eq_of_beq h2
    omega
  rw [if_neg (by simp [he0])]
  have hpos := hep he0
  refine AW.freeze (p := .slot 8) (by simp only [go_sem, ↓reduceIte, freeze, freezeO] <;> rfl) ?_
  refine AW.go ?_
  refine AW.callE (fun _ => 0) (clone_fn en hpos (by omega)) (.pv _ .nil) ?_
  refine AW.go ?_
  refine AW.callE (fun _ => 0) (mac_fn k en hkb2 (by omega) (by omega)) (.pv _ (.pv _ .nil)) ?_
  have hml := hmac_len k en
  have r1 : (en.length + (hmac k en).length ≤ room) = True := eq_true (by omega)
  refine AW.go ?_ (by simp only [go_sem, ↓reduceIte, r1] <;> rfl)
  refine AW.finE (.move rfl (.pv _ .nil)) rfl
end Go.Ck

set_option linter.unusedVariables false
set_option maxRecDepth 100000
set_option maxHeartbeats 400000
namespace Go.Ck
open Go.Proofs
theorem awake_fn : Fn Try.prog 9 [] [] (fun rs H' => rs = [.pv (.bool true)] ∧ H' = []) := by
  refine Fn.of_body (fn := Try.f9) (n := 64) (res := [.tmp 0]) (by kernel_rfl) rfl rfl rfl rfl rfl (fun C => ?_)
  have m32 : (32 ≤ maxLen) = True := eq_true (le_maxLen 32)
  refine AW.go ?_
  refine AW.any0 mixed ?_
  refine via (T := ?Tend) (fun hT => ?_) ?_; rotate_left
  · skip
    refine AW.branch (fuel := 4) (rs := [0, 1, 3]) ?_ (by decide +kernel) (by simp)
    intro j hj
    simp only [List.mem_cons, List.not_mem_nil, or_false] at hj
    rcases hj with rfl | rfl | rfl
    · skip
      refine AW.gg ?_ (by simp only [go_sem, ↓reduceIte, m32] <;> rfl)
      refine AW.branch (fuel := 3) (rs := [1, 3]) ?_ (by decide +kernel) (by simp)
      intro j hj
      simp only [List.mem_cons, List.not_mem_nil, or_false] at hj
      rcases hj with rfl | rfl
      · skip
        refine AW.gg ?_ (by simp only [go_sem, ↓reduceIte, m32] <;> rfl)
        refine AW.branch (fuel := 2) (rs := [2, 3]) ?_ (by decide +kernel) (by simp)
        intro j hj
        simp only [List.mem_cons, List.not_mem_nil, or_false] at hj
        rcases hj with rfl | rfl
        · skip
          refine AW.gg ?_ (by simp only [go_sem, ↓reduceIte, m32] <;> rfl)
          refine AW.seqs (fuel := 0) (listed' := #[true, true, true, true, true]) [3, 4] ?_ (by decide +kernel)
          refine AW.gg ?_ (by simp only [go_sem, ↓reduceIte, m32] <;> rfl)
          refine AW.anyDone (by decide +kernel) ?_
          refine AW.keepB [1] [1] (s' := ⟨64, [(1, .ptr 1 0)], [(1, .cells 26 [.pv (.int .u64 1), .pv (.sl 1 (bytes z32)), .nils, .pv (.sl 1 (bytes z32))])]⟩) (by simp only [go_sem, ↓reduceIte]) (by simp only [go_sem, ↓reduceIte] <;> rfl) ?_
          exact hT ()
        · skip
          refine AW.gg ?_ (by simp only [go_sem, ↓reduceIte, m32] <;> rfl)
          refine AW.seqs (fuel := 0) (listed' := #[true, true, true, true, true]) [2, 4] ?_ (by decide +kernel)
          refine AW.gg ?_ (by simp only [go_sem, ↓reduceIte, m32] <;> rfl)
          refine AW.anyDone (by decide +kernel) ?_
          refine AW.keepB [1] [1] (s' := ⟨64, [(1, .ptr 1 0)], [(1, .cells 26 [.pv (.int .u64 1), .pv (.sl 1 (bytes z32)), .nils, .pv (.sl 1 (bytes z32))])]⟩) (by simp only [go_sem, ↓reduceIte]) (by simp only [go_sem, ↓reduceIte] <;> rfl) ?_
          exact hT ()
      · skip
        refine AW.gg ?_ (by simp only [go_sem, ↓reduceIte, m32] <;> rfl)
        refine AW.seqs (fuel := 0) (listed' := #[true, true, true, true, true]) [1, 2, 4] ?_ (by decide +kernel)
        refine AW.gg ?_ (by simp only [go_sem, ↓reduceIte, m32] <;> rfl)
        refine AW.anyDone (by decide +kernel) ?_
        refine AW.keepB [1] [1] (s' := ⟨64, [(1, .ptr 1 0)], [(1, .cells 26 [.pv (.int .u64 1), .pv (.sl 1 (bytes z32)), .nils, .pv (.sl 1 (bytes z32))])]⟩) (by simp only [go_sem, ↓reduceIte]) (by simp only [go_sem, ↓reduceIte] <;> rfl) ?_
        exact hT ()
    · skip
      refine AW.gg ?_ (by simp only [go_sem, ↓reduceIte, m32] <;> rfl)
      refine AW.branch (fuel := 3) (rs := [0, 3]) ?_ (by decide +kernel) (by simp)
      intro j hj
      simp only [List.mem_cons, List.not_mem_nil, or_false] at hj
      rcases hj with rfl | rfl
      · skip
        refine AW.gg ?_ (by simp only [go_sem, ↓reduceIte, m32] <;> rfl)
        refine AW.branch (fuel := 2) (rs := [2, 3]) ?_ (by decide +kernel) (by simp)
        intro j hj
        simp only [List.mem_cons, List.not_mem_nil, or_false] at hj
        rcases hj with rfl | rfl
        · skip
          refine AW.gg ?_ (by simp only [go_sem, ↓reduceIte, m32] <;> rfl)
          refine AW.seqs (fuel := 0) (listed' := #[true, true, true, true, true]) [3, 4] ?_ (by decide +kernel)
          refine AW.gg ?_ (by simp only [go_sem, ↓reduceIte, m32] <;> rfl)
          refine AW.anyDone (by decide +kernel) ?_
          refine AW.keepB [1] [1] (s' := ⟨64, [(1, .ptr 1 0)], [(1, .cells 26 [.pv (.int .u64 1), .pv (.sl 1 (bytes z32)), .nils, .pv (.sl 1 (bytes z32))])]⟩) (by simp only [go_sem, ↓reduceIte]) (by simp only [go_sem, ↓reduceIte] <;> rfl) ?_
          exact hT ()
        · skip
          refine AW.gg ?_ (by simp only [go_sem, ↓reduceIte, m32] <;> rfl)
          refine AW.seqs (fuel := 0) (listed' := #[true, true, true, true, true]) [2, 4] ?_ (by decide +kernel)
          refine AW.gg ?_ (by simp only [go_sem, ↓reduceIte, m32] <;> rfl)
          refine AW.anyDone (by decide +kernel) ?_
          refine AW.keepB [1] [1] (s' := ⟨64, [(1, .ptr 1 0)], [(1, .cells 26 [.pv (.int .u64 1), .pv (.sl 1 (bytes z32)), .nils, .pv (.sl 1 (bytes z32))])]⟩) (by simp only [go_sem, ↓reduceIte]) (by simp only [go_sem, ↓reduceIte] <;> rfl) ?_
          exact hT ()
      · skip
        refine AW.gg ?_ (by simp only [go_sem, ↓reduceIte, m32] <;> rfl)
        refine AW.seqs (fuel := 0) (listed' := #[true, true, true, true, true]) [0, 2, 4] ?_ (by decide +kernel)
        refine AW.gg ?_ (by simp only [go_sem, ↓reduceIte, m32] <;> rfl)
        refine AW.anyDone (by decide +kernel) ?_
        refine AW.keepB [1] [1] (s' := ⟨64, [(1, .ptr 1 0)], [(1, .cells 26 [.pv (.int .u64 1), .pv (.sl 1 (bytes z32)), .nils, .pv (.sl 1 (bytes z32))])]⟩) (by simp only [go_sem, ↓reduceIte]) (by simp only [go_sem, ↓reduceIte] <;> rfl) ?_
        exact hT ()
    · skip
      refine AW.gg ?_ (by simp only [go_sem, ↓reduceIte, m32] <;> rfl)
      refine AW.branch (fuel := 3) (rs := [0, 1]) ?_ (by decide +kernel) (by simp)
      intro j hj
      simp only [List.mem_cons, List.not_mem_nil, or_false] at hj
      rcases hj with rfl | rfl
      · skip
        refine AW.gg ?_ (by simp only [go_sem, ↓reduceIte, m32] <;> rfl)
        refine AW.seqs (fuel := 0) (listed' := #[true, true, true, true, true]) [1, 2, 4] ?_ (by decide +kernel)
        refine AW.gg ?_ (by simp only [go_sem, ↓reduceIte, m32] <;> rfl)
        refine AW.anyDone (by decide +kernel) ?_
        refine AW.keepB [1] [1] (s' := ⟨64, [(1, .ptr 1 0)], [(1, .cells 26 [.pv (.int .u64 1), .pv (.sl 1 (bytes z32)), .nils, .pv (.sl 1 (bytes z32))])]⟩) (by simp only [go_sem, ↓reduceIte]) (by simp only [go_sem, ↓reduceIte] <;> rfl) ?_
        exact hT ()
      · skip
        refine AW.gg ?_ (by simp only [go_sem, ↓reduceIte, m32] <;> rfl)
        refine AW.seqs (fuel := 0) (listed' := #[true, true, true, true, true]) [0, 2, 4] ?_ (by decide +kernel)
        refine AW.gg ?_ (by simp only [go_sem, ↓reduceIte, m32] <;> rfl)
        refine AW.anyDone (by decide +kernel) ?_
        refine AW.keepB [1] [1] (s' := ⟨64, [(1, .ptr 1 0)], [(1, .cells 26 [.pv (.int .u64 1), .pv (.sl 1 (bytes z32)), .nils, .pv (.sl 1 (bytes z32))])]⟩) (by simp only [go_sem, ↓reduceIte]) (by simp only [go_sem, ↓reduceIte] <;> rfl) ?_
        exact hT ()
  have hM : manP awM = .agg [.int .u64 1, .sl 1 (bytes z32), .sl 2 [], .sl 1 (bytes z32)] := rfl
  have hef := manEnc_fn awM (by decide) (by decide)
  have hE1 := awM_enc
  have hE2 := awM_dec
  obtain ⟨hS1, hS2⟩ := awM_sign
  have hsf := sign_fn z32 awM (by decide) (by decide) z32_byte
  have hE3 : ([67, 83, 75, 49] ++ beB 1 8 ++ z32 ++ [0] ++ [0] ++ z32 : List Nat).length = 78 := rfl
  have hE4 : (bytes ([67, 83, 75, 49] ++ beB 1 8 ++ z32 ++ [0] ++ [0] ++ z32))[0]? = some (.int .u8 67) := rfl
  have hE5 : (bytes ([67, 83, 75, 49] ++ beB 1 8 ++ z32 ++ [0] ++ [0] ++ z32))[11]? = some (.int .u8 1) := rfl
  have hE6 : ∀ x ∈ ([67, 83, 75, 49] ++ beB 1 8 ++ z32 ++ [0] ++ [0] ++ z32 : List Nat), x < 256 := by decide
  generalize [67, 83, 75, 49] ++ beB 1 8 ++ z32 ++ [0] ++ [0] ++ z32 = E at *
  have hdf := manDec_fn E (by omega) hE6
  rw [hE2, hM] at hdf
  rw [hE1, hM] at hef
  rw [hS1, hM] at hsf
  generalize (signM z32 awM).1 = S at *
  have hss := lawMSame_fn awM awM (by decide) (by decide) (by decide)
  rw [hM, sameM_self] at hss
  simp only [show ((0 : Nat) : Int) = 0 from rfl] at hdf hef
  refine AW.nilsOwnAt (.cell 1 2) 38 ?_
  refine AW.freeze (p := .cell 1 2) (by simp only [go_sem, ↓reduceIte, freeze, freezeO] <;> rfl) ?_
  refine AW.go ?_
  refine AW.callE (fun _ => 0) hef (.pv _ .nil) ?_
  refine AW.goM 9 ?_
  refine AW.freeze (p := .slot 14) (by simp only [go_sem, ↓reduceIte, freeze, freezeO] <;> rfl) ?_
  refine AW.go ?_
  refine AW.callE (fun _ => 0) hdf (.pv _ .nil) ?_
  refine AW.go ?_
  refine AW.any0 mixed ?_
  refine via (T := ?Tend2) (fun hT => ?_) ?_; rotate_left
  · skip
    refine AW.branch (fuel := 7) (rs := [0, 1]) ?_ (by decide +kernel) (by simp)
    intro j hj
    simp only [List.mem_cons, List.not_mem_nil, or_false] at hj
    rcases hj with rfl | rfl
    · skip
      refine AW.gg ?_ (by simp only [go_sem, ↓reduceIte, m32] <;> rfl)
      refine AW.seqs (fuel := 4) (listed' := #[true, true, true, true, false, false, false, false]) [1, 2, 3] ?_ (by decide +kernel)
      refine AW.gg ?_ (by simp only [go_sem, ↓reduceIte, m32] <;> rfl)
      refine AW.freeze (p := .slot 22) (by simp only [go_sem, ↓reduceIte, freeze, freezeO] <;> rfl) ?_
      refine AW.callE (fun _ => 0) hsf (.pv _ (.pv _ .nil)) ?_
      refine AW.gg ?_
      refine AW.takes (fuel := 0) [4, 5, 6, 7] ?_ (by simp only [go_sem, ↓reduceIte, m32] <;> rfl) Ends.noPanic (listed' := #[true, true, true, true, true, true, true, true]) (by decide +kernel) (by decide +kernel)
      refine AW.anyDone (by decide +kernel) ?_
      refine AW.keepB [1, 2, 3, 4, 5, 6, 7] [1, 4] (s' := ⟨64, [(1, .ptr 1 0), (2, .pv (.sl 1 (bytes E))), (3, .pv (.int .i64 0)), (4, .ptr 4 0), (5, .pv (.int .i64 0)), (6, .own 5 (bytes S)), (7, .pv (.int .i64 0))], [(1, .cells 26 [.pv (.int .u64 1), .pv (.sl 1 (bytes z32)), .pv (.sl 2 []), .pv (.sl 1 (bytes z32))]), (4, .cells 26 [.pv (.int .u64 1), .pv (.sl 1 (bytes z32)), .pv (.sl 2 []), .pv (.sl 1 (bytes z32))])]⟩) (by simp only [go_sem, ↓reduceIte]) (by simp only [go_sem, ↓reduceIte] <;> rfl) ?_
      exact hT ()
    · skip
      refine AW.gg ?_ (by simp only [go_sem, ↓reduceIte, m32] <;> rfl)
      refine AW.seqs (fuel := 4) (listed' := #[true, true, true, true, false, false, false, false]) [0, 2, 3] ?_ (by decide +kernel)
      refine AW.gg ?_ (by simp only [go_sem, ↓reduceIte, m32] <;> rfl)
      refine AW.freeze (p := .slot 22) (by simp only [go_sem, ↓reduceIte, freeze, freezeO] <;> rfl) ?_
      refine AW.callE (fun _ => 0) hsf (.pv _ (.pv _ .nil)) ?_
      refine AW.gg ?_
      refine AW.takes (fuel := 0) [4, 5, 6, 7] ?_ (by simp only [go_sem, ↓reduceIte, m32] <;> rfl) Ends.noPanic (listed' := #[true, true, true, true, true, true, true, true]) (by decide +kernel) (by decide +kernel)
      refine AW.anyDone (by decide +kernel) ?_
      refine AW.keepB [1, 2, 3, 4, 5, 6, 7] [1, 4] (s' := ⟨64, [(1, .ptr 1 0), (2, .pv (.sl 1 (bytes E))), (3, .pv (.int .i64 0)), (4, .ptr 4 0), (5, .pv (.int .i64 0)), (6, .own 5 (bytes S)), (7, .pv (.int .i64 0))], [(1, .cells 26 [.pv (.int .u64 1), .pv (.sl 1 (bytes z32)), .pv (.sl 2 []), .pv (.sl 1 (bytes z32))]), (4, .cells 26 [.pv (.int .u64 1), .pv (.sl 1 (bytes z32)), .pv (.sl 2 []), .pv (.sl 1 (bytes z32))])]⟩) (by simp only [go_sem, ↓reduceIte]) (by simp only [go_sem, ↓reduceIte] <;> rfl) ?_
      exact hT ()
  have d78 : ((E.length : Int) == 78) = true := by rw [hE3]; rfl
  have d110 : ((S.length : Int) == 110) = true := by rw [hS2]; rfl
  have l0 : (0 < E.length) = True := eq_true (by omega)
  have l11 : (11 < E.length) = True := eq_true (by omega)
  have g67 : ((67 : Int) == 67) = true := rfl
  have g1 : ((1 : Int) == 1) = true := rfl
  have g0 : ((0 : Int) == 0) = true := rfl
  refine AW.gg ?_ (by simp only [go_sem, ↓reduceIte, d78, d110, hE4, hE5, l0, l11, g67, g1, g0] <;> rfl)
  refine AW.guardT rfl rfl ?_
  refine AW.callE (fun _ => 0) hss (.pv _ (.pv _ .nil)) ?_
  refine AW.gg ?_ (by simp only [go_sem, ↓reduceIte, d110, g0] <;> rfl)
  refine AW.go ?_
  exact AW.finE (.pv _ .nil) rfl
end Go.Ck

set_option linter.unusedVariables false
set_option maxRecDepth 100000
set_option maxHeartbeats 400000
namespace Go.Ck
open Go.Proofs
theorem manP_mk (v : Nat) (p : List Nat) (es : List Ent) (r : List Nat) : manP ⟨v, p, es, r⟩ = .agg [.int .u64 (v : Int), .sl 1 (bytes p), .sl 2 (entsP es), .sl 1 (bytes r)] := rfl
end Go.Ck

set_option linter.unusedVariables false
set_option maxRecDepth 100000
set_option maxHeartbeats 400000
namespace Go.Ck
open Go.Proofs
theorem decM_small {b : List Nat} (hb : ∀ x ∈ b, x < 256) : (decM b).1.es.length ≤ 1048576 ∧ (decM b).1.prev.length ≤ 32 ∧ (decM b).1.root.length ≤ 32 := by
  by_cases h : (decM b).2 = 0
  · obtain ⟨hen, hv⟩ := decM_inv hb h
    have hw : wrongM (decM b).1 = 0 := by
      unfold encM at hen
      split at hen
      · rename_i h; rw [Prod.mk.injEq] at hen; exact hen.2
      · rename_i h; simpa using h
    obtain ⟨_, h2, h3, _, h5, _⟩ := wrongM_zero hw
    exact ⟨h5, by omega, by omega⟩
  · rw [decM_bad h]; exact ⟨Nat.zero_le _, Nat.zero_le _, Nat.zero_le _⟩
theorem law21decodes_fn (b : List Nat) (hl : b.length ≤ maxLen) (hb : ∀ x ∈ b, x < 256) : Fn Try.prog 4 [] [.pv (.sl 1 (bytes b))] (fun rs H' => rs = [.pv (.bool true)] ∧ H' = []) := by
  refine Fn.of_body (fn := Try.f4) (n := 34) (res := [.tmp 2]) (by kernel_rfl) rfl rfl rfl rfl rfl (fun C => ?_)
  have hroom : room = 140737488355328 := rfl
  refine AW.go ?_
  refine AW.callE (fun _ => 0) awake_fn .nil ?_
  by_cases hL : 1000 < b.length
  · have d1 : decide ((b.length : Int) > 1000) = true := decide_eq_true (by omega)
    have d1' : decide (1000 < b.length) = true := decide_eq_true hL
    refine AW.go ?_ (by simp only [go_sem, ↓reduceIte, d1, d1'] <;> rfl)
    refine AW.condT rfl ?_
    refine AW.go ?_
    exact AW.finE (.pv _ .nil) rfl
  have d1 : decide ((b.length : Int) > 1000) = false := decide_eq_false (by omega)
  have d1' : decide (1000 < b.length) = false := decide_eq_false hL
  refine AW.go ?_ (by simp only [go_sem, ↓reduceIte, d1, d1'] <;> rfl)
  refine AW.condF rfl ?_
  refine AW.go ?_
  have hdf := manDec_fn b (by omega) hb
  have hrf := refDec_fn b (by omega) hb
  rw [refD_dec hb] at hrf
  obtain ⟨hs1, hs2, hs3⟩ := decM_small hb
  generalize decM b = D at *
  obtain ⟨⟨v, p, es, r⟩, e⟩ := D
  simp only at hdf hrf hs1 hs2 hs3
  have hsf := lawMSame_fn ⟨v, p, es, r⟩ ⟨v, p, es, r⟩ (by simp only; omega) (by simp only; omega) (by simp only; omega)
  rw [sameM_self] at hsf
  have hm := manP_mk v p es r
  rw [hm] at hdf hrf hsf
  have de : (e == e) = true := beq_self_eq_true e
  refine AW.callE (fun _ => 0) hdf (.pv _ .nil) ?_
  refine AW.go ?_
  refine AW.callE (fun _ => 0) hrf (.pv _ .nil) ?_
  refine AW.go ?_
  refine AW.gg ?_ (by simp only [go_sem, ↓reduceIte, de] <;> rfl)
  refine AW.guardT rfl rfl ?_
  refine AW.callE (fun _ => 0) hsf (.pv _ (.pv _ .nil)) ?_
  refine AW.gg ?_
  exact AW.finE (.pv _ .nil) rfl
end Go.Ck

set_option linter.unusedVariables false
namespace Go.Ck
def stTypes (P : Program) (t : TypeId) : Option (List TypeId) := match P.underlying t with
  | some (.struct fs) => some (fs.toList.map (·.type))
  | _ => none
section
variable {P : Program} {n : Nat} {t : TypeId} {p : PV}
theorem PT_st2 {a b : TypeId} (hu : stTypes P t = some [a, b]) (h : PT P (n + 1) t p.cells) (h1 : p.one = !isAggT P t) : ∃ ps qs, p = .agg (ps ++ qs) ∧ PT P n a ps ∧ PT P n b qs := by
  unfold stTypes at hu
  unfold isAggT at h1
  unfold PT at h
  split at hu
  · rename_i fs hus
    rw [hus] at h1 h
    simp only [Option.some.injEq] at hu
    obtain ⟨pss, e1, e2, e3⟩ := h
    have hl : fs.toList.length = 2 := by have := congrArg List.length hu; simpa using this
    match hfl : fs.toList, hl with
    | [f, g], _ =>
      rw [hfl] at hu
      simp only [List.map_cons, List.map_nil, List.cons.injEq, and_true] at hu
      have hsz : fs.size = 2 := by rw [← Array.length_toList, hfl]; rfl
      have hf : fs[0]? = some f := by rw [← Array.getElem?_toList, hfl]; rfl
      have hg : fs[1]? = some g := by rw [← Array.getElem?_toList, hfl]; rfl
      match pss, (by rw [e2, hsz] : pss.length = 2) with
      | [ps, qs], _ =>
        have k1 := (e3 0 f ps hf rfl).1
        have k2 := (e3 1 g qs hg rfl).1
        rw [hu.1] at k1
        rw [hu.2] at k2
        refine ⟨ps, qs, ?_, k1, k2⟩
        simp only [List.flatten_cons, List.flatten_nil, List.append_nil] at e1
        cases p <;> simp [PV.one] at h1
        simp only [PV.cells] at e1
        rw [e1]
  · cases hu
theorem PTc_int {k : IntKind} {ps : List PV} (hu : P.underlying t = some (.int k)) (h : PT P (n + 1) t ps) : ∃ m, ps = [.int k m] ∧ (Lit.int k m).wf = true := by
  unfold PT at h
  rw [hu] at h
  exact h
theorem PTc_u64 {ps : List PV} (hu : P.underlying t = some (.int .u64)) (h : PT P (n + 1) t ps) : ∃ v : Nat, ps = [.int .u64 v] ∧ v < 2 ^ 64 := by
  obtain ⟨m, rfl, hm⟩ := PTc_int hu h
  obtain ⟨r, hr, h4⟩ := nats_of (k := .u64) rfl [m] (by simpa using hm)
  match r, hr with
  | [a], hr => simp at hr; subst hr; exact ⟨a, rfl, h4 a (by simp)⟩
theorem PTc_str {ps : List PV} (hu : P.underlying t = some .string) (h : PT P (n + 1) t ps) : ∃ s, ps = [.str s] ∧ s.length ≤ maxLen := by
  unfold PT at h
  rw [hu] at h
  exact h
theorem PTc_slice {e : TypeId} {ps : List PV} (hu : P.underlying t = some (.slice e)) (h : PT P (n + 1) t ps) : ∃ xs, ps = [.sl (P.cellsOf e) xs] ∧ xs.length ≤ maxLen ∧ ∀ x ∈ xs, PT P n e x.cells ∧ x.one = !isAggT P e := by
  unfold PT at h
  rw [hu] at h
  exact h
theorem sms_of {a b e : TypeId} (hu : stTypes P e = some [a, b]) (ha : P.underlying a = some (.int .i64)) (hb : P.underlying b = some (.int .u64)) : ∀ xs : List PV, (∀ x ∈ xs, PT P (n + 2) e x.cells ∧ x.one = !isAggT P e) → ∃ l : List Sm, xs = sms l ∧ smOK l
  | [], _ => ⟨[], rfl, by intro x hx; cases hx⟩
  | x :: r, h => by
    obtain ⟨ps, qs, rfl, k1, k2⟩ := PT_st2 (n := n + 1) hu (h x (by simp)).1 (h x (by simp)).2
    obtain ⟨m, rfl, hm⟩ := PTc_int ha k1
    obtain ⟨v, rfl, hv⟩ := PTc_u64 hb k2
    obtain ⟨l, rfl, hl⟩ := sms_of hu ha hb r (fun y hy => h y (by simp [hy]))
    refine ⟨(m, v) :: l, rfl, fun y hy => ?_⟩
    rcases List.mem_cons.1 hy with rfl | hy
    · exact ⟨wf_i64 hm, hv⟩
    · exact hl y hy
theorem PT_chunk {s l e a b : TypeId} (hu : stTypes P t = some [s, l]) (hs : P.underlying s = some .string) (hl : P.underlying l = some (.slice e)) (hc : P.cellsOf e = 2) (he : stTypes P e = some [a, b]) (ha : P.underlying a = some (.int .i64)) (hb : P.underlying b = some (.int .u64))
    (h : PT P (n + 4) t p.cells) (h1 : p.one = !isAggT P t) : ∃ (c : List UInt8) (xs : List Sm), p = chP (c, xs) ∧ c.length ≤ maxLen ∧ smOK xs := by
  obtain ⟨ps, qs, rfl, k1, k2⟩ := PT_st2 (n := n + 3) hu h h1
  obtain ⟨c, rfl, hcl⟩ := PTc_str hs k1
  obtain ⟨xs, rfl, _, hx⟩ := PTc_slice hl k2
  obtain ⟨r, rfl, hr⟩ := sms_of he ha hb xs hx
  exact ⟨c, r, by rw [hc]; rfl, hcl, hr⟩
end
end Go.Ck

set_option linter.unusedVariables false
namespace Go.Ck
section
variable {P : Program} {n : Nat} {t : TypeId} {p : PV}
theorem PT_st {ts : List TypeId} (hu : stTypes P t = some ts) (h : PT P (n + 1) t p.cells) (h1 : p.one = !isAggT P t) : ∃ pss : List (List PV), p = .agg pss.flatten ∧ pss.length = ts.length ∧ ∀ (i : Nat) (a : TypeId) (ps : List PV), ts[i]? = some a → pss[i]? = some ps → PT P n a ps := by
  unfold stTypes at hu
  unfold isAggT at h1
  unfold PT at h
  split at hu
  · rename_i fs hus
    rw [hus] at h1 h
    simp only [Option.some.injEq] at hu
    obtain ⟨pss, e1, e2, e3⟩ := h
    refine ⟨pss, ?_, by rw [e2, ← hu]; simp, fun i a ps hi hp => ?_⟩
    · cases p <;> simp [PV.one] at h1
      simp only [PV.cells] at e1
      rw [e1]
    · rw [← hu, List.getElem?_map] at hi
      cases hf : fs.toList[i]? with
      | none => rw [hf] at hi; cases hi
      | some f =>
        rw [hf] at hi
        cases hi
        exact (e3 i f ps (by rw [← Array.getElem?_toList, hf]) hp).1
  · cases hu
theorem ents_of {a b e : TypeId} (hu : stTypes P e = some [a, b]) (ha : P.underlying a = some .string) (hb : P.underlying b = some (.int .i64)) : ∀ xs : List PV, (∀ x ∈ xs, PT P (n + 2) e x.cells ∧ x.one = !isAggT P e) → ∃ l : List Ent, xs = entsP l
  | [], _ => ⟨[], rfl⟩
  | x :: r, h => by
    obtain ⟨ps, qs, rfl, k1, k2⟩ := PT_st2 (n := n + 1) hu (h x (by simp)).1 (h x (by simp)).2
    obtain ⟨s, rfl, _⟩ := PTc_str ha k1
    obtain ⟨m, rfl, _⟩ := PTc_int hb k2
    obtain ⟨l, rfl⟩ := ents_of hu ha hb r (fun y hy => h y (by simp [hy]))
    exact ⟨(s, m) :: l, rfl⟩
theorem PTc_bytes {u : TypeId} {ps : List PV} {e : TypeId} (hu : P.underlying u = some (.slice e)) (he : P.underlying e = some (.int .u8)) (hc : P.cellsOf e = 1) (ha : isAggT P u = false) (h : PT P (n + 3) u ps) : ∃ l : List Nat, ps = [.sl 1 (bytes l)] ∧ l.length ≤ maxLen ∧ ∀ x ∈ l, x < 256 := by
  obtain ⟨xs, rfl, h2, h3⟩ := PTc_slice hu h
  obtain ⟨l, e1, e2, e3⟩ := PT_bytes (n := n + 1) (p := .sl (P.cellsOf e) xs) hu he hc h (by rw [ha]; rfl)
  rw [e1]
  exact ⟨l, rfl, e2, e3⟩
theorem PT_man {u b l e s i : TypeId} (hu : stTypes P t = some [u, b, l, b]) (h64 : P.underlying u = some (.int .u64)) (hb : P.underlying b = some (.slice e)) (he : P.underlying e = some (.int .u8)) (hc : P.cellsOf e = 1) (hab : isAggT P b = false)
    {en : TypeId} (hl : P.underlying l = some (.slice en)) (hce : P.cellsOf en = 2) (hen : stTypes P en = some [s, i]) (hs : P.underlying s = some .string) (hi : P.underlying i = some (.int .i64))
    (h : PT P (n + 4) t p.cells) (h1 : p.one = !isAggT P t) : ∃ m : Man, p = manP m ∧ m.v < 2 ^ 64 ∧ m.es.length ≤ maxLen ∧ m.prev.length ≤ maxLen ∧ m.root.length ≤ maxLen ∧ (∀ x ∈ m.prev, x < 256) ∧ (∀ x ∈ m.root, x < 256) := by
  obtain ⟨pss, rfl, e2, e3⟩ := PT_st (n := n + 3) hu h h1
  match pss, e2 with
  | [p1, p2, p3, p4], _ =>
    obtain ⟨v, rfl, hv⟩ := PTc_u64 h64 (e3 0 u p1 rfl rfl)
    obtain ⟨pv, rfl, hp1, hp2⟩ := PTc_bytes (n := n) hb he hc hab (e3 1 b p2 rfl rfl)
    obtain ⟨xs, rfl, hx1, hx2⟩ := PTc_slice hl (e3 2 l p3 rfl rfl)
    obtain ⟨rt, rfl, hr1, hr2⟩ := PTc_bytes (n := n) hb he hc hab (e3 3 b p4 rfl rfl)
    obtain ⟨es, rfl⟩ := ents_of hen hs hi xs hx2
    refine ⟨⟨v, pv, es, rt⟩, ?_, hv, by simpa [entsP_len] using hx1, hp1, hr1, hp2, hr2⟩
    rw [hce]; rfl
theorem PA4 {P : Program} {N : Nat} {t u v x : TypeId} {pl : List PV} (h : PA P N [t, u, v, x] pl) : ∃ p q r s, pl = [p, q, r, s] ∧ (PT P N t p.cells ∧ p.one = !isAggT P t) ∧ (PT P N u q.cells ∧ q.one = !isAggT P u) ∧ (PT P N v r.cells ∧ r.one = !isAggT P v) ∧ (PT P N x s.cells ∧ s.one = !isAggT P x) := by
  obtain ⟨h1, h2⟩ := h
  match pl, h1 with
  | [p, q, r, s], _ => exact ⟨p, q, r, s, rfl, h2 0 _ _ rfl rfl, h2 1 _ _ rfl rfl, h2 2 _ _ rfl rfl, h2 3 _ _ rfl rfl⟩
end
end Go.Ck
