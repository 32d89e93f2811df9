/- What is proved here: parts of the proofs of this seat's statements (a verified evaluator for calls over pure values, its laws, and contracts of functions). No condition. -/
import Derived.Test.YthjibccogjggbaaGreatKv
import Derived.Test.YthjibccogjggbaaGreatKt
import Derived.Test.YthjibccogjggbaaGreatKo
import Derived.Test.YthjibccogjggbaaGreatKp
set_option linter.all false
set_option linter.unusedVariables false
set_option maxRecDepth 100000
set_option maxHeartbeats 400000
namespace Go.Ck
open Go.Proofs
theorem through13_fn (s : S8) (b : List Nat) (hb : b.length = 64) : Fn Tryz.prog 73 [] [.pv (.sl 1 (wds s.l)), .pv (.sl 1 (bytes b)), .pv (.sl 1 (wds ktab))] (fun rs H' => rs = [.own 101 (wds (thr s b).l)] ∧ H' = []) := by
  refine Fn.of_body (fn := Tryz.f73) (n := 138) (res := [.tmp 6]) (by kernel_rfl) rfl rfl rfl rfl rfl (fun C => ?_)
  have hroom : room = 140737488355328 := rfl
  have hsl : (sched b).length = 64 := sched_len b
  have hthr : thr s b = add8 s (rnds ktab (sched b) s) := rfl
  have h8 : s.l.length = 8 := rfl
  have q1 : ((8 : Nat) * 4 ≤ room) = True := eq_true (by omega)
  have q2 : ((8 : Nat) ≤ room) = True := eq_true (by omega)
  have hkl := ktab_len
  rw [hthr, ← adl_8]
  refine AW.go ?_
  refine AW.callE (fun _ => 0) (words_fn b hb) (.pv _ .nil) ?_
  generalize sched b = ws at *
  generalize ktab = ks at *
  refine AW.go ?_ (by simp only [go_sem, ↓reduceIte, h8, q1, q2, le_maxLen0, Nat.zero_mul, Nat.zero_add, List.length_nil, List.nil_append] <;> rfl)
  refine AW.loopS (fun t : Nat => ⟨138, [(9, .pv (.int .i64 t)), (0, .pv (.sl 1 (wds s.l))), (2, .pv (.sl 1 (wds ks))), (7, .own 101 (wds ws)), (8, .own 101 [wP (rnds (ks.take t) (ws.take t) s).a, wP (rnds (ks.take t) (ws.take t) s).b, wP (rnds (ks.take t) (ws.take t) s).c, wP (rnds (ks.take t) (ws.take t) s).d, wP (rnds (ks.take t) (ws.take t) s).e, wP (rnds (ks.take t) (ws.take t) s).f, wP (rnds (ks.take t) (ws.take t) s).g, wP (rnds (ks.take t) (ws.take t) s).h])], []⟩) (fun t => t ≤ 64) (fun t => 64 - t) [9, 0, 2, 7, 8] [] 0 (by omega) ?_
  rintro t ht K hK
  refine AW.go ?_
  refine AW.cond rfl (fun hc => ?_) (fun hc => ?_)
  · have hlt : t < 64 := by have := of_decide_eq_true hc; omega
    have l1 : (t < 64) = True := eq_true hlt
    have hkg : (wds ks)[t]? = some (.int .u32 ((wAt ks t).toNat : Int)) := wds_get (by omega)
    have hwg : (wds ws)[t]? = some (.int .u32 ((wAt ws t).toNat : Int)) := wds_get (by omega)
    have hstep := rnds_step ks ws s t (by omega) (by omega)
    generalize wAt ks t = kt at *
    generalize wAt ws t = wt at *
    generalize rnds (ks.take t) (ws.take t) s = r at *
    obtain ⟨a, b, c, d, e, f, g, h⟩ := r
    simp only
    refine AW.go ?_
    refine AW.calmS ?_
    refine CK.reads [[], [31], [32], []] ?_ (by simp only [go_sem, ↓reduceIte, hkg, hwg, l1, hkl, hsl, w32_xor, w32_and, w32_notI, w32_add, wP] <;> rfl)
    refine CK.call (ps := [_, _]) [34] (rot13_fn e 6 6 rfl (by decide) (by decide)) ?_
    refine CK.reads [[]] ?_ (by simp only [go_sem, ↓reduceIte, hkg, hwg, l1, hkl, hsl, w32_xor, w32_and, w32_notI, w32_add, wP] <;> rfl)
    refine CK.call (ps := [_, _]) [36] (rot13_fn e 11 11 rfl (by decide) (by decide)) ?_
    refine CK.reads [[35, 37], []] ?_ (by simp only [go_sem, ↓reduceIte, hkg, hwg, l1, hkl, hsl, w32_xor, w32_and, w32_notI, w32_add, wP] <;> rfl)
    refine CK.call (ps := [_, _]) [39] (rot13_fn e 25 25 rfl (by decide) (by decide)) ?_
    refine CK.reads [[38, 40], [33, 41], [], [], [44], [45], [43, 46], [], [48], [], [50], [51], [49, 52], [47, 53], [42, 54], [], [], [56, 57], [58], [55, 59], [], [], [61, 62], [63], [60, 64]] ?_ (by simp only [go_sem, ↓reduceIte, hkg, hwg, l1, hkl, hsl, w32_xor, w32_and, w32_notI, w32_add, wP] <;> rfl)
    refine CK.done (M := 35) 1 mixed ?_
    refine AW.seqs (fuel := 0) (listed' := Array.replicate 36 true) [35] ?_ (by decide +kernel)
    -- 35: t12 := = t65
    refine AW.gg ?_
    refine AW.anyDone (by decide +kernel) ?_
    refine AW.go ?_
    refine AW.calmS ?_
    refine CK.reads [[]] ?_ (by simp only [go_sem, ↓reduceIte, w32_xor, w32_and, w32_notI, w32_add, wP] <;> rfl)
    refine CK.call (ps := [_, _]) [66] (rot13_fn a 2 2 rfl (by decide) (by decide)) ?_
    refine CK.reads [[]] ?_ (by simp only [go_sem, ↓reduceIte, w32_xor, w32_and, w32_notI, w32_add, wP] <;> rfl)
    refine CK.call (ps := [_, _]) [68] (rot13_fn a 13 13 rfl (by decide) (by decide)) ?_
    refine CK.reads [[67, 69], []] ?_ (by simp only [go_sem, ↓reduceIte, w32_xor, w32_and, w32_notI, w32_add, wP] <;> rfl)
    refine CK.call (ps := [_, _]) [71] (rot13_fn a 22 22 rfl (by decide) (by decide)) ?_
    refine CK.reads [[70, 72], [], [], [75], [76], [74, 77], [], [], [80], [81], [79, 82], [78, 83], [], [85], [86], [], [88], [89], [87, 90], [84, 91], [73, 92]] ?_ (by simp only [go_sem, ↓reduceIte, w32_xor, w32_and, w32_notI, w32_add, wP] <;> rfl)
    refine CK.done (M := 28) 1 mixed ?_
    refine AW.seqs (fuel := 0) (listed' := Array.replicate 29 true) [28] ?_ (by decide +kernel)
    -- 28: t13 := = t93
    refine AW.gg ?_
    refine AW.anyDone (by decide +kernel) ?_
    refine AW.go ?_
    refine AW.calmS ?_
    refine CK.reads [[], [], [94, 95], [], [97], [98], [], [100], [101], [], [103], [104], [], [106], [107], [], [108, 109], [], [111], [112], [], [114], [115], [], [117], [118]] ?_ (by simp only [go_sem, ↓reduceIte, w32_xor, w32_and, w32_notI, w32_add, wP] <;> rfl)
    refine CK.list [96, 99, 102, 105, 110, 113, 116, 119] ?_
    refine CK.done (M := 27) 1 mixed ?_
    refine AW.seqs (fuel := 0) (listed' := Array.replicate 28 true) [27] ?_ (by decide +kernel)
    -- 27: t8 := = t120
    refine AW.gg ?_
    refine AW.anyDone (by decide +kernel) ?_
    have e6 : IntKind.i64.wrap ((t : Int) + 1) = ((t + 1 : Nat) : Int) := wrap_i64_succ (by omega)
    refine AW.go ?_ (by simp only [go_sem, ↓reduceIte, e6] <;> rfl)
    exact AW.again hK (t + 1) (by omega) (by omega) (hs := by simp only [go_sem, ↓reduceIte, hstep, rnd, t1W, t2W] <;> rfl)
  have hge : t = 64 := by have := of_decide_eq_false hc; omega
  subst hge
  rw [List.take_of_length_le (by omega), List.take_of_length_le (by omega)]
  generalize rnds ks ws s = r at *
  refine AW.go ?_
  refine AW.loopS (fun i : Nat => ⟨138, [(15, .pv (.int .i64 i)), (0, .pv (.sl 1 (wds s.l))), (8, .own 101 (wds r.l)), (14, .own 101 (wds (adl s.l r.l i)))], []⟩) (fun i => i ≤ 8) (fun i => 8 - i) [15, 0, 8, 14] [] 0 (by omega) ?_
  have h81 : r.l.length = 8 := rfl
  have h80 := h8
  generalize s.l = l0 at *
  generalize r.l = l1 at *
  rintro i hi K hK
  refine AW.go ?_
  refine AW.cond rfl (fun hc => ?_) (fun hc => ?_)
  rotate_left
  · have hge : i = 8 := by have := of_decide_eq_false hc; omega
    subst hge
    refine AW.go ?_
    refine AW.finE (.move rfl .nil) rfl
  have hlt : i < 8 := by have := of_decide_eq_true hc; omega
  have l8 : (i < 8) = True := eq_true hlt
  have g0 : (wds l0)[i]? = some (.int .u32 ((wAt l0 i).toNat : Int)) := wds_get (by omega)
  have g1 : (wds l1)[i]? = some (.int .u32 ((wAt l1 i).toNat : Int)) := wds_get (by omega)
  have r1 : ((i + 1) * 4 ≤ room) = True := eq_true (by omega)
  have r2 : (i + 1 ≤ room) = True := eq_true (by omega)
  refine AW.go ?_
  refine AW.calmS ?_
  refine CK.reads [[], [], [], [126, 127], [128], [], [], [130, 131], [132], [129, 133]] ?_ (by simp only [go_sem, ↓reduceIte, g0, g1, h80, h81, l8, w32_add] <;> rfl)
  refine CK.list [134] ?_
  refine CK.done (M := 11) 2 mixed ?_
  refine AW.seqs (fuel := 0) (listed' := Array.replicate 13 true) [11, 12] ?_ (by decide +kernel)
  -- 11: t136 := call append(t125, t135)
  -- 12: t14 := = t136
  refine AW.gg ?_ (by simp only [go_sem, ↓reduceIte, wds_snoc, adl_succ, adl_len, r1, r2] <;> rfl)
  refine AW.anyDone (by decide +kernel) ?_
  have e6 : IntKind.i64.wrap ((i : Int) + 1) = ((i + 1 : Nat) : Int) := wrap_i64_succ (by omega)
  refine AW.go ?_ (by simp only [go_sem, ↓reduceIte, e6] <;> rfl)
  exact AW.again hK (i + 1) (by omega) (by omega)

theorem sum13_fn (m : List Nat) (hm : m.length < 2 ^ 30) : Fn Tryz.prog 48 [] [.pv (.sl 1 (bytes m))] (fun rs H' => rs = [.own 5 (bytes (sha m))] ∧ H' = []) := by
  refine Fn.of_body (fn := Tryz.f48) (n := 60) (res := [.tmp 2]) (by kernel_rfl) rfl rfl rfl rfl rfl (fun C => ?_)
  have hroom : room = 140737488355328 := rfl
  have hpl : (m ++ endP m.length).length % 64 = 0 ∧ (m ++ endP m.length).length < 2 ^ 31 := by
    rw [List.length_append, endP_len]; unfold zpad; omega
  have hsha : sha m = (fb first8 (m ++ endP m.length)).l.flatMap byW := rfl
  rw [hsha]
  refine AW.go ?_
  refine AW.callE (fun _ => 0) const13_fn .nil ?_
  refine AW.go ?_
  refine AW.callE (fun _ => 0) (padded_fn m hm) (.pv _ .nil) ?_
  generalize m ++ endP m.length = p at *
  obtain ⟨hp1, hp2⟩ := hpl
  refine AW.go ?_
  refine AW.loopS (fun j : Nat => ⟨60, [(6, .pv (.int .i64 ((64 * j : Nat) : Int))), (3, .pv (.sl 1 (wds ktab))), (5, .own 5 (bytes p)), (4, .own 101 (wds (fb first8 (p.take (64 * j))).l))], []⟩) (fun j => 64 * j ≤ p.length) (fun j => p.length - 64 * j) [6, 3, 5, 4] [] 0 (by omega) ?_ (hs := by simp only [go_sem, ↓reduceIte, Nat.mul_zero, List.take_zero, fb_lt (s := first8) (l := []) (by decide)] <;> rfl)
  rintro j hj K hK
  refine AW.go ?_
  refine AW.cond rfl (fun hc => ?_) (fun hc => ?_)
  · have hlt : 64 * j < p.length := by have := of_decide_eq_true hc; omega
    have hle : 64 * (j + 1) ≤ p.length := by omega
    have hst := fb_step first8 p j hle
    have hbl : ((p.drop (64 * j)).take 64).length = 64 := by simp; omega
    obtain ⟨q, hq⟩ : ∃ q, q = 64 * j := ⟨_, rfl⟩
    rw [← hq] at hst hbl ⊢
    have e1 : IntKind.i64.wrap ((q : Int) + 64) = ((q + 64 : Nat) : Int) := by rw [wrap_i64_of (by omega) (by omega)]; omega
    have e2 : (((q + 64 : Nat) : Int) - (q : Int)).toNat = 64 := by omega
    have e3 : (q ≤ q + 64) = True := eq_true (by omega)
    have e4 : (q + 64 ≤ p.length) = True := eq_true (by omega)
    have e5 : ((q : Int) ≤ ((q + 64 : Nat) : Int)) = True := eq_true (by omega)
    have e6 : (((q + 64 : Nat) : Int) ≤ (p.length : Int)) = True := eq_true (by omega)
    generalize fb first8 (p.take q) = s at *
    refine AW.go ?_ (by simp only [go_sem, ↓reduceIte, e1, e2, e3, e4, e5, e6] <;> rfl)
    refine AW.callE (args := [.pv (.sl 1 (wds s.l)), .pv (.sl 1 (bytes ((p.drop q).take 64))), .pv (.sl 1 (wds ktab))]) (fun _ => 0) (through13_fn s _ hbl) (.lend rfl co_101 (.lendV rfl co_5 (by rw [bytes_drop, bytes_take]) (.pv _ .nil))) ?_
    have hq2 : q + 64 = 64 * (j + 1) := by omega
    refine AW.go ?_ (by simp only [go_sem, ↓reduceIte, e1] <;> rfl)
    exact AW.again hK (j + 1) (by omega) (by omega) (hs := by simp only [go_sem, ↓reduceIte, hst, hq2] <;> rfl)
  have hge : 64 * j = p.length := by have := of_decide_eq_false hc; omega
  rw [hge, List.take_of_length_le (Nat.le_refl _)]
  refine AW.go ?_
  have hl8 : (fb first8 p).l.length = 8 := rfl
  generalize (fb first8 p).l = l at *
  refine AW.loopS (fun i : Nat => ⟨60, [(8, .pv (.int .i64 i)), (4, .own 101 (wds l)), (7, .own 5 (bytes ((l.take i).flatMap byW)))], []⟩) (fun i => i ≤ 8) (fun i => 8 - i) [8, 4, 7] [] 0 (by omega) ?_
  rintro i hi K hK
  refine AW.go ?_
  refine AW.cond rfl (fun hc => ?_) (fun hc => ?_)
  rotate_left
  · have hge : i = 8 := by have := of_decide_eq_false hc; omega
    subst hge
    rw [List.take_of_length_le (by omega)]
    refine AW.go ?_
    refine AW.finE (.move rfl .nil) rfl
  have hlt : i < 8 := by have := of_decide_eq_true hc; omega
  have l8 : (i < 8) = True := eq_true hlt
  have hst := by_step l i (by omega)
  have hx : (wds l)[i]? = some (.int .u32 ((wAt l i).toNat : Int)) := wds_get (by omega)
  have hfl : ((l.take i).flatMap byW).length = 4 * i := by rw [flat_byW_len]; simp; omega
  generalize (l.take i).flatMap byW = acc at *
  generalize wAt l i = x at *
  have r1 : (acc.length + 4 ≤ room) = True := eq_true (by omega)
  refine AW.go ?_
  refine AW.calmS ?_
  refine CK.reads [[], [], [], [34, 35], [36], [37], [38], [], [], [40, 41], [42], [43], [44], [], [], [46, 47], [48], [49], [50], [], [], [52, 53], [54], [55]] ?_ (by simp only [go_sem, ↓reduceIte, hx, hl8, l8, w32_shr24, w32_shr16, w32_shr8, w32_low] <;> rfl)
  refine CK.list [39, 45, 51, 56] ?_
  refine CK.done (M := 25) 2 mixed ?_
  refine AW.seqs (fuel := 0) (listed' := Array.replicate 27 true) [25, 26] ?_ (by decide +kernel)
  -- 25: t58 := call append(t33, t57)
  -- 26: t7 := = t58
  refine AW.gg ?_ (by simp only [go_sem, ↓reduceIte, bytes_byW, r1, Nat.mul_one, List.length_cons, List.length_nil, Nat.reduceAdd] <;> rfl)
  refine AW.anyDone (by decide +kernel) ?_
  have e6 : IntKind.i64.wrap ((i : Int) + 1) = ((i + 1 : Nat) : Int) := wrap_i64_succ (by omega)
  refine AW.go ?_ (by simp only [go_sem, ↓reduceIte, e6] <;> rfl)
  exact AW.again hK (i + 1) (by omega) (by omega) (hs := by simp only [go_sem, ↓reduceIte, hst] <;> rfl)
end Go.Ck

set_option linter.unusedVariables false
set_option maxRecDepth 100000
set_option maxHeartbeats 400000
namespace Go.Ck
open Go.Proofs
theorem summed_fn (k : List Nat) (x : Nat) (ls : List (List Nat)) (hk : k.length = 64) (hkb : ∀ y ∈ k, y < 256) (hx : x < 256) (hl : ls.flatten.length < 2 ^ 58) (hln : ls.length < 2 ^ 40) : Fn Tryz.prog 69 [] [.pv (.agg (bytes k)), .pv (.int .u8 x), .pv (.sl 1 (lsP ls))] (fun rs H' => rs = [.pv (.sl 1 (bytes (sha (xorK k x ++ ls.flatten))))] ∧ H' = []) := by
  refine Fn.of_body (fn := Tryz.f69) (n := 38) (res := [.tmp 6]) (by kernel_rfl) rfl rfl rfl rfl rfl (fun C => ?_)
  refine AW.go ?_
  refine AW.loopS (fun i : Nat => ⟨38, [(13, .pv (.int .i64 i)), (1, .pv (.int .u8 x)), (2, .pv (.sl 1 (lsP ls))), (3, .ptr 3 0), (7, .ptr 12 0)], [(3, .cells 95 ((bytes (xorN k x i)).map SV.pv)), (12, .cells 122 (hsC h00))]⟩) (fun i => i ≤ 64) (fun i => 64 - i) [13, 1, 2, 3, 7] [3, 12] 0 (by omega) ?_ (hs := by simp only [go_sem, ↓reduceIte, xorN_0] <;> rfl)
  rintro i hi K hK
  refine AW.go ?_
  refine AW.cond rfl (fun hc => ?_) (fun hc => ?_)
  · have hlt : i < 64 := by have := of_decide_eq_true hc; omega
    have l1 : (i < 64) = True := eq_true hlt
    obtain ⟨a, ha⟩ : ∃ a, k[i]? = some a := ⟨k[i], List.getElem?_eq_getElem (by omega)⟩
    have ha256 : a < 256 := hkb a (List.mem_of_getElem? ha)
    have g1 := bcs_get (xorN_get (x := x) ha)
    have g2 : ((bytes (xorN k x i)).map SV.pv).length = 64 := by rw [bcs_len, xorN_len, hk]
    have g2' : (xorN k x i).length = 64 := by rw [xorN_len, hk]
    have g3 : ((bytes (xorN k x i)).map SV.pv).set i (.pv (.int .u8 ((a ^^^ x : Nat) : Int))) = (bytes (xorN k x (i + 1))).map SV.pv := by rw [bcs_set, xorN_set ha]
    have g4 := ibits_xor8 (a := a) (b := x) ha256 hx
    have e6 : IntKind.i64.wrap ((i : Int) + 1) = ((i + 1 : Nat) : Int) := wrap_i64_succ (by omega)
    refine AW.go ?_ (by simp only [go_sem, ↓reduceIte, l1, g1, g2, g2', g3, g4, e6, List.length_map] <;> rfl)
    exact AW.again hK (i + 1) (by omega) (by omega)
  have hge : i = 64 := by have := of_decide_eq_false hc; omega
  subst hge
  rw [xorN_all _ _ _ (by omega)]
  have hkl : (xorK k x).length = 64 := by rw [xorK_len, hk]
  generalize xorK k x = kk at *
  refine AW.go ?_
  refine AW.sliceO (off := 0) (l := 0) (h := 64) rfl rfl rfl rfl rfl rfl rfl (by omega) (by omega) (by omega) ⟨_, rfl⟩ ?_ (hT := tk_95)
  have hlo : (((bytes kk).map SV.pv).drop (0 + 0)).take (64 - 0) = (bytes kk).map SV.pv := take_all _ _ (by rw [bcs_len, hkl])
  refine AW.callE (args := [.ptr 1000 0, .pv (.sl 1 (bytes kk))]) (fun _ => 12) (Write_fn h00 kk rfl (by show 0 + kk.length < 2 ^ 60; omega)) (.ptr rfl (.lendO rfl hlo (by rw [bytes_length, hkl]) (all_one_bytes kk) (le_maxLen 64) .nil)) ?_
  have h1 := (HC.zero).wr (b := kk)
  rw [List.nil_append] at h1
  generalize wr h00 kk = h at *
  refine AW.go ?_
  refine AW.loopS (fun j : Nat => ⟨38, [(28, .pv (.int .i64 j)), (26, .pv (.sl 1 (lsP ls))), (27, .pv (.int .i64 ls.length)), (7, .ptr 12 0)], [(12, .cells 122 (hsC ((ls.take j).foldl wr h)))]⟩) (fun j => j ≤ ls.length ∧ HC (kk ++ (ls.take j).flatten) ((ls.take j).foldl wr h)) (fun j => ls.length - j) [28, 26, 27, 7] [12] 0 ⟨by omega, by simpa using h1.1⟩ ?_
  rintro j ⟨hj, hc1⟩ K hK
  refine AW.go ?_
  refine AW.cond rfl (fun hc => ?_) (fun hc => ?_)
  · have hlt : j < ls.length := by have := of_decide_eq_true hc; omega
    obtain ⟨b, hb⟩ : ∃ b, ls[j]? = some b := ⟨ls[j], List.getElem?_eq_getElem hlt⟩
    have g1 := lsP_get hb
    have hft := flat_takeH ls j b hb
    have hfo := fold_take ls j b hb h
    have hfl := flat_le ls (j + 1)
    rw [hft, List.length_append] at hfl
    have hc2 := (hc1.wr (b := b)).1
    have hn1 := hc1.n
    have hp1 := hc1.len
    rw [List.length_append] at hn1
    rw [List.append_assoc, ← hft] at hc2
    rw [← hfo] at hc2
    have e6 : IntKind.i64.wrap ((j : Int) + 1) = ((j + 1 : Nat) : Int) := wrap_i64_succ (by omega)
    have l1 : (j < ls.length) = True := eq_true hlt
    generalize (ls.take j).foldl wr h = h1 at *
    refine AW.go ?_ (by simp only [go_sem, ↓reduceIte, g1] <;> rfl)
    refine AW.callE (fun _ => 12) (Write_fn h1 b hp1 (by omega)) (.ptr rfl (.pv _ .nil)) ?_
    refine AW.go ?_ (by simp only [go_sem, ↓reduceIte, e6] <;> rfl)
    exact AW.again hK (j + 1) (by exact ⟨by omega, hc2⟩) (by omega) (hs := by simp only [go_sem, ↓reduceIte, hfo] <;> rfl)
  have hge : j = ls.length := by have := of_decide_eq_false hc; omega
  subst hge
  rw [List.take_length] at *
  refine AW.go ?_
  refine AW.callE (fun _ => 12) (hSum_fn _ _ hc1 (by rw [List.length_append]; omega)) (.ptr rfl .nil) ?_
  refine AW.freeze (p := .slot 37) (by simp only [go_sem, ↓reduceIte, freeze, freezeO] <;> rfl) ?_
  refine AW.go ?_
  refine AW.finE (.pv _ .nil) rfl

theorem all_fn (key : List Nat) (ls : List (List Nat)) (hkb : ∀ x ∈ key, x < 256) (hkl : key.length < 2 ^ 58) (hl : ls.flatten.length < 2 ^ 58) (hln : ls.length < 2 ^ 40) : Fn Tryz.prog 40 [] [.pv (.sl 1 (bytes key)), .pv (.sl 1 (lsP ls))] (fun rs H' => rs = [.pv (.sl 1 (bytes (hmac key ls.flatten)))] ∧ H' = []) := by
  refine Fn.of_body (fn := Tryz.f40) (n := 20) (res := [.tmp 4]) (by kernel_rfl) rfl rfl rfl rfl rfl (fun C => ?_)
  have hkl2 := kpad_len key
  have hkb2 := kpad_lt hkb
  have hko := kof_len key
  have hcp := kof_copyZ key
  have hl2 : ([sha (xorK (kpad key) 54 ++ ls.flatten)] : List (List Nat)).flatten.length < 2 ^ 58 := by simp [sha_len]
  have hmac_eq : hmac key ls.flatten = sha (xorK (kpad key) 92 ++ ([sha (xorK (kpad key) 54 ++ ls.flatten)] : List (List Nat)).flatten) := by simp [hmac]
  rw [hmac_eq]
  refine AW.go ?_
  refine AW.joinS (fun _ : Unit => ⟨20, [(0, .pv (.sl 1 (bytes (kof key)))), (1, .pv (.sl 1 (lsP ls))), (5, .ptr 5 0)], [(5, .cells 95 ((bytes z64).map SV.pv))]⟩) (fun _ => True) [0, 1, 5] [5] ?_ ?_
  · intro K hK
    refine AW.cond rfl (fun hc => ?_) (fun hc => ?_)
    · have hlt : 64 < key.length := by have := of_decide_eq_true hc; omega
      have hko : kof key = sha key := if_pos hlt
      refine AW.go ?_
      refine AW.callE (fun _ => 0) (shaSum_fn key (by omega)) (.pv _ .nil) ?_
      refine AW.freeze (p := .slot 10) (by simp only [go_sem, ↓reduceIte, freeze, freezeO] <;> rfl) ?_
      refine AW.go ?_
      exact AW.meet hK () trivial (by simp only [go_sem, ↓reduceIte]) (by simp only [go_sem, ↓reduceIte, hko] <;> rfl)
    · have hlt : ¬ 64 < key.length := by have := of_decide_eq_false hc; omega
      have hko : kof key = key := if_neg hlt
      refine AW.go ?_
      exact AW.meet hK () trivial (by simp only [go_sem, ↓reduceIte]) (by simp only [go_sem, ↓reduceIte, hko] <;> rfl)
  rintro _ -
  generalize kof key = k at *
  refine AW.go ?_
  refine AW.sliceO (off := 0) (l := 0) (h := 64) rfl rfl rfl rfl rfl rfl rfl (by omega) (by omega) (by omega) ⟨_, rfl⟩ ?_ (hT := tk_95)
  refine AW.go ?_
  refine AW.copyO (ez := 0) (off := 0 + 0) (n := 64 - 0) (kk := k.length) (xs := bytes k) rfl rfl ?_ rfl rfl (all_one_bytes k) ?_ ?_ (hT := tk_22)
  · rw [bcs_len, z64_len]; decide
  · rw [bytes_length]; omega
  rw [bytes_take, List.take_length, setCells_b _ _ (by rw [z64_len]; omega), hcp]
  have hlen : ((bytes (kpad key)).map SV.pv).length = 64 := by rw [bcs_len, hkl2]
  have hall : allPV (List.take 64 ((bytes (kpad key)).map SV.pv)) = some (bytes (kpad key)) := by rw [List.take_of_length_le (by omega), allPV_map]
  refine AW.go ?_
  refine AW.calmS ?_
  refine CK.reads [[], [], []] ?_ (by simp only [go_sem, ↓reduceIte, hlen, hall] <;> rfl)
  refine CK.call (ps := [_, _, _]) [15, 16] (summed_fn (kpad key) 54 ls hkl2 hkb2 (by decide) hl hln) ?_
  refine CK.listZ [17] ?_
  refine CK.call (ps := [_, _, _]) [14, 18] (summed_fn (kpad key) 92 [sha (xorK (kpad key) 54 ++ ls.flatten)] hkl2 hkb2 (by decide) hl2 (by simp)) ?_
  refine CK.done (M := 6) 1 mixed ?_
  refine AW.seqs (fuel := 0) (listed' := Array.replicate 7 true) [6] ?_ (by decide +kernel)
  -- 6: t4 := = t19
  refine AW.gg ?_
  refine AW.anyDone (by decide +kernel) ?_
  refine AW.go ?_
  refine AW.finE (.pv _ .nil) rfl

theorem mac_fn (key m : List Nat) (hkb : ∀ x ∈ key, x < 256) (hkl : key.length < 2 ^ 58) (hl : m.length < 2 ^ 58) : Fn Tryz.prog 16 [] [.pv (.sl 1 (bytes key)), .pv (.sl 1 (bytes m))] (fun rs H' => rs = [.pv (.sl 1 (bytes (hmac key m)))] ∧ H' = []) := by
  refine Fn.of_body (fn := Tryz.f16) (n := 9) (res := [.tmp 4]) (by kernel_rfl) rfl rfl rfl rfl rfl (fun C => ?_)
  have e : hmac key m = hmac key [m].flatten := by simp
  rw [e]
  refine AW.go ?_
  refine AW.freeze (p := .slot 7) (by simp only [go_sem, ↓reduceIte, freeze, freezeO] <;> rfl) ?_
  refine AW.callE (args := [.pv (.sl 1 (bytes key)), .pv (.sl 1 (lsP [m]))]) (fun _ => 0) (all_fn key [m] hkb hkl (by simpa using hl) (by simp)) (.pv _ (.pv _ .nil)) ?_
  refine AW.go ?_
  refine AW.finE (.pv _ .nil) rfl
end Go.Ck

set_option linter.unusedVariables false
set_option maxRecDepth 10000
namespace Go.Ck
open Go.Proofs
theorem ref01Same_fn (a b : List Nat) (hl : a.length ≤ room) : Fn Tryz.prog 10 [] [.pv (.sl 1 (bytes a)), .pv (.sl 1 (bytes b))] (fun rs H' => rs = [.pv (.bool (decide (a = b)))] ∧ H' = []) := by
  refine Fn.of_body (fn := Tryz.f10) (n := 26) (res := [.tmp 4]) (by kernel_rfl) rfl rfl rfl rfl rfl (fun C => ?_)
  have hr : room < 2 ^ 62 := by decide
  refine AW.go ?_
  refine AW.cond rfl (fun hc => ?_) (fun hc => ?_)
  · have hne : a ≠ b := by rintro rfl; simp at hc
    refine AW.go ?_
    refine AW.finE (.pv _ .nil) ?_
    rw [decide_eq_false hne]
  have hlen : a.length = b.length := by simp at hc; omega
  refine AW.go ?_
  refine AW.loopS (fun i : Nat => ⟨26, [(5, .pv (.int .i64 i)), (0, .pv (.sl 1 (bytes a))), (1, .pv (.sl 1 (bytes b)))], []⟩) (fun i => i ≤ a.length ∧ a.take i = b.take i) (fun i => a.length - i) [5, 0, 1] [] 0 ⟨Nat.zero_le _, rfl⟩ ?_
  rintro i ⟨hi, ht⟩ K hK
  refine AW.go ?_
  refine AW.cond rfl (fun hc => ?_) (fun hc => ?_)
  · have hlt : i < a.length := by simpa using hc
    have hlt2 : i < b.length := by omega
    have h1 := bytes_get hlt
    have h2 := bytes_get hlt2
    have ei : IntKind.i64.wrap ((i : Int) + 1) = ((i + 1 : Nat) : Int) := wrap_i64_succ (by omega)
    refine AW.go ?_
    refine AW.sr mixed (by decide +kernel) ?_ (by simp only [go_sem, ↓reduceIte, h1, h2] <;> rfl)
    refine AW.go ?_
    refine AW.cond rfl (fun hc => ?_) (fun hc => ?_)
    · have hne : a ≠ b := by rintro rfl; simp at hc
      refine AW.go ?_
      refine AW.finE (.pv _ .nil) ?_
      rw [decide_eq_false hne]
    · have he : a[i] = b[i] := by simp at hc; omega
      refine AW.go ?_ (by simp only [go_sem, ↓reduceIte, ei] <;> rfl)
      refine AW.again hK (i + 1) ⟨hlt, ?_⟩ (by omega)
      rw [List.take_succ_eq_append_getElem hlt, List.take_succ_eq_append_getElem hlt2, ht, he]
  · have hge : ¬ i < a.length := by simpa using hc
    rw [List.take_of_length_le (by omega), List.take_of_length_le (by omega)] at ht
    refine AW.go ?_
    refine AW.finE (.pv _ .nil) ?_
    rw [decide_eq_true ht]

end Go.Ck

set_option linter.unusedVariables false
set_option maxRecDepth 100000
set_option maxHeartbeats 400000
namespace Go.Ck
open Go.Proofs
theorem xor_zero_iff (x y : Nat) : x ^^^ y = 0 ↔ x = y := ⟨fun h => by
    have h2 : x ^^^ y ^^^ y = 0 ^^^ y := by rw [h]
    rw [Nat.xor_assoc, Nat.xor_self, Nat.xor_zero, Nat.zero_xor] at h2; exact h2, fun h => by rw [h, Nat.xor_self]⟩
theorem hSame_fn (a b : List Nat) (ha : ∀ x ∈ a, x < 256) (hb : ∀ x ∈ b, x < 256) (hl : a.length < 2 ^ 62) : Fn Tryz.prog 50 [] [.pv (.sl 1 (bytes a)), .pv (.sl 1 (bytes b))] (fun rs H' => rs = [.pv (.bool (decide (a = b)))] ∧ H' = []) := by
  refine Fn.of_body (fn := Tryz.f50) (n := 31) (res := [.tmp 4]) (by kernel_rfl) rfl rfl rfl rfl rfl (fun C => ?_)
  by_cases hlen : a.length = b.length
  rotate_left
  · have d1 : ((a.length : Int) != (b.length : Int)) = true := by simp; omega
    have d2 : (a.length != b.length) = true := by simp; omega
    rw [show decide (a = b) = false from decide_eq_false (fun h => hlen (by rw [h]))]
    refine AW.go ?_ (by simp only [go_sem, ↓reduceIte, d1, d2] <;> rfl)
    refine AW.condT rfl ?_
    refine AW.go ?_
    refine AW.finE (.pv _ .nil) rfl
  have d1 : ((a.length : Int) != (b.length : Int)) = false := by simp; omega
  have d2 : (a.length != b.length) = false := by simp; omega
  refine AW.go ?_ (by simp only [go_sem, ↓reduceIte, d1, d2] <;> rfl)
  refine AW.condF rfl ?_
  refine AW.go ?_
  refine AW.loopS (fun p : Nat × Nat => ⟨31, [(14, .pv (.int .i64 p.1)), (0, .pv (.sl 1 (bytes a))), (1, .pv (.sl 1 (bytes b))), (5, .pv (.int .u8 p.2)), (13, .pv (.int .i64 a.length))], []⟩) (fun p => p.1 ≤ a.length ∧ p.2 < 256 ∧ (p.2 = 0 ↔ a.take p.1 = b.take p.1)) (fun p => a.length - p.1) [14, 0, 1, 5, 13] [] (0, 0) ⟨Nat.zero_le _, by decide, by simp⟩ ?_
  rintro ⟨i, d⟩ ⟨hi, hd, hdi⟩ K hK
  simp only at hi hd hdi
  refine AW.go ?_
  refine AW.cond rfl (fun hc => ?_) (fun hc => ?_)
  rotate_left
  · have hge : i = a.length := by have := of_decide_eq_false hc; omega
    subst hge
    rw [List.take_length, hlen, List.take_length] at hdi
    have hfin : ((d : Int) == 0) = decide (a = b) := by
      by_cases h : d = 0
      · rw [decide_eq_true (hdi.1 h), h]; rfl
      · rw [decide_eq_false (fun hh => h (hdi.2 hh))]
        simpa using h
    have hfin2 : (d == 0) = decide (a = b) := by
      by_cases h : d = 0
      · rw [decide_eq_true (hdi.1 h), h]; rfl
      · rw [decide_eq_false (fun hh => h (hdi.2 hh))]
        simpa using h
    refine AW.go ?_ (by simp only [go_sem, ↓reduceIte, hfin, hfin2] <;> rfl)
    refine AW.finE (.pv _ .nil) rfl
  have hlt : i < a.length := by have := of_decide_eq_true hc; omega
  have hlt2 : i < b.length := by omega
  obtain ⟨x, hx⟩ : ∃ x, a[i]? = some x := ⟨a[i], List.getElem?_eq_getElem hlt⟩
  obtain ⟨y, hy⟩ : ∃ y, b[i]? = some y := ⟨b[i], List.getElem?_eq_getElem hlt2⟩
  have hx8 := ha x (List.mem_of_getElem? hx)
  have hy8 := hb y (List.mem_of_getElem? hy)
  have gx := bytes_getS hx
  have gy := bytes_getS hy
  have g4 := ibits_xor8 (a := x) (b := y) hx8 hy8
  have hxy : x ^^^ y < 256 := Nat.xor_lt_two_pow (n := 8) hx8 hy8
  have g5 := ibits_or8 (a := d) (b := x ^^^ y) hd hxy
  have e6 : IntKind.i64.wrap ((i : Int) + 1) = ((i + 1 : Nat) : Int) := wrap_i64_succ (by omega)
  refine AW.go ?_
  refine AW.sr mixed (by decide +kernel) ?_ (by simp only [go_sem, ↓reduceIte, gx, gy, g4, g5] <;> rfl)
  refine AW.go ?_ (by simp only [go_sem, ↓reduceIte, e6] <;> rfl)
  refine AW.again hK (i + 1, d ||| (x ^^^ y)) (by
    refine ⟨by simp only; omega, Nat.or_lt_two_pow (n := 8) hd hxy, ?_⟩
    simp only
    rw [List.take_add_one, List.take_add_one, hx, hy, Nat.or_eq_zero_iff, hdi, xor_zero_iff]
    simp only [Option.toList_some]
    constructor
    · rintro ⟨h1, h2⟩; rw [h1, h2]
    · intro h
      have := List.append_inj h (by simp; omega)
      exact ⟨this.1, by simpa using this.2⟩) (by simp; omega)

theorem hCheck_fn (key m tag : List Nat) (hkb : ∀ x ∈ key, x < 256) (hkl : key.length < 2 ^ 58) (hl : m.length < 2 ^ 58) (ht : ∀ x ∈ tag, x < 256) : Fn Tryz.prog 20 [] [.pv (.sl 1 (bytes key)), .pv (.sl 1 (bytes m)), .pv (.sl 1 (bytes tag))] (fun rs H' => rs = [.pv (.bool (decide (hmac key m = tag)))] ∧ H' = []) := by
  refine Fn.of_body (fn := Tryz.f20) (n := 12) (res := [.tmp 6]) (by kernel_rfl) rfl rfl rfl rfl rfl (fun C => ?_)
  refine AW.go ?_
  refine AW.callE (fun _ => 0) (mac_fn key m hkb hkl hl) (.pv _ (.pv _ .nil)) ?_
  refine AW.go ?_
  refine AW.callE (fun _ => 0) (hSame_fn _ tag (hmac_lt key m) ht (by rw [hmac_len]; decide)) (.pv _ (.pv _ .nil)) ?_
  refine AW.go ?_
  refine AW.finE (.pv _ .nil) rfl

theorem xpad_fn (key : List Nat) (x : Nat) (hkb : ∀ y ∈ key, y < 256) (hx : x < 256) (hkl : key.length < 2 ^ 30) : Fn Tryz.prog 49 [] [.pv (.sl 1 (bytes key)), .pv (.int .u8 x)] (fun rs H' => rs = [.own 5 (bytes (xorK (kpad key) x))] ∧ H' = []) := by
  refine Fn.of_body (fn := Tryz.f49) (n := 34) (res := [.tmp 4]) (by kernel_rfl) rfl rfl rfl rfl rfl (fun C => ?_)
  have hroom : room = 140737488355328 := rfl
  have hkp : kpad key = kof key ++ List.replicate (64 - (kof key).length) 0 := rfl
  have hko := kof_len key
  have hkob := kof_lt hkb
  have hpl := kpad_len key
  refine AW.go ?_
  refine AW.joinS (fun _ : Unit => ⟨34, [(5, .pv (.sl 1 (bytes (kof key)))), (1, .pv (.int .u8 x))], []⟩) (fun _ => True) [5, 1] [] ?_ ?_
  · intro K hK
    refine AW.cond rfl (fun hc => ?_) (fun hc => ?_)
    · have hlt : 64 < key.length := by have := of_decide_eq_true hc; omega
      have hko : kof key = sha key := if_pos hlt
      refine AW.go ?_
      refine AW.callE (fun _ => 0) (sum13_fn key (by omega)) (.pv _ .nil) ?_
      refine AW.freeze (p := .slot 14) (by simp only [go_sem, ↓reduceIte, freeze, freezeO] <;> rfl) ?_
      refine AW.go ?_
      exact AW.meet hK () trivial (by simp only [go_sem, ↓reduceIte]) (by simp only [go_sem, ↓reduceIte, hko] <;> rfl)
    · have hlt : ¬ 64 < key.length := by have := of_decide_eq_false hc; omega
      have hko : kof key = key := if_neg hlt
      refine AW.go ?_
      exact AW.meet hK () trivial (by simp only [go_sem, ↓reduceIte]) (by simp only [go_sem, ↓reduceIte, hko] <;> rfl)
  rintro _ -
  generalize kof key = k at *
  generalize kpad key = kp at *
  refine AW.go ?_
  refine AW.loopS (fun i : Nat => ⟨34, [(7, .pv (.int .i64 i)), (5, .pv (.sl 1 (bytes k))), (1, .pv (.int .u8 x)), (6, .own 5 (bytes (xorK (kp.take i) x)))], []⟩) (fun i => i ≤ 64) (fun i => 64 - i) [7, 5, 1, 6] [] 0 (Nat.zero_le _) ?_
  rintro i hi K hK
  refine AW.go ?_
  refine AW.cond rfl (fun hc => ?_) (fun hc => ?_)
  rotate_left
  · have hge : i = 64 := by have := of_decide_eq_false hc; omega
    subst hge
    rw [List.take_of_length_le (by omega)]
    refine AW.go ?_
    refine AW.finE (.move rfl .nil) rfl
  have hlt : i < 64 := by have := of_decide_eq_true hc; omega
  have e6 : IntKind.i64.wrap ((i : Int) + 1) = ((i + 1 : Nat) : Int) := wrap_i64_succ (by omega)
  obtain ⟨a, ha⟩ : ∃ a, kp[i]? = some a := ⟨kp[i], List.getElem?_eq_getElem (by omega)⟩
  have hst : xorK (kp.take i) x ++ [a ^^^ x] = xorK (kp.take (i + 1)) x := by rw [List.take_add_one, ha]; simp [xorK]
  have hxl : (xorK (kp.take i) x).length = i := by simp [xorK]; omega
  have hap : a < 256 ∧ a = if i < k.length then k.getD i 0 else 0 := by
    rw [hkp] at ha
    by_cases h : i < k.length
    · rw [List.getElem?_append_left h] at ha
      refine ⟨hkob a (List.mem_of_getElem? ha), ?_⟩
      rw [if_pos h, List.getD, ha]; rfl
    · rw [List.getElem?_append_right (by omega), List.getElem?_replicate] at ha
      split at ha
      · cases ha; exact ⟨by decide, by rw [if_neg h]⟩
      · cases ha
  have g4 := ibits_xor8 (a := a) (b := x) hap.1 hx
  have r1 : ((xorK (kp.take i) x).length + 1 ≤ room) = True := eq_true (by omega)
  refine AW.go ?_
  refine AW.joinS (fun _ : Unit => ⟨34, [(7, .pv (.int .i64 i)), (5, .pv (.sl 1 (bytes k))), (1, .pv (.int .u8 x)), (6, .own 5 (bytes (xorK (kp.take i) x))), (8, .pv (.int .u8 a))], []⟩) (fun _ => True) [7, 5, 1, 6, 8] [] ?_ ?_
  · intro K2 hK2
    refine AW.cond rfl (fun hc2 => ?_) (fun hc2 => ?_)
    · have h : i < k.length := by have := of_decide_eq_true hc2; omega
      have hg : (bytes k)[i]? = some (.int .u8 (a : Int)) := by
        refine bytes_getS ?_
        rw [hap.2, if_pos h, List.getD, List.getElem?_eq_getElem h]; rfl
      refine AW.go ?_ (by simp only [go_sem, ↓reduceIte, hg] <;> rfl)
      exact AW.meet hK2 () trivial
    · have h : ¬ i < k.length := by have := of_decide_eq_false hc2; omega
      have ha0 : a = 0 := by rw [hap.2, if_neg h]
      refine AW.go ?_
      exact AW.meet hK2 () trivial (by simp only [go_sem, ↓reduceIte]) (by simp only [go_sem, ↓reduceIte, ha0] <;> rfl)
  rintro _ -
  refine AW.go ?_ (by simp only [go_sem, ↓reduceIte, g4, r1, bytes_snoc, e6] <;> rfl)
  exact AW.again hK (i + 1) (by omega) (by omega) (hs := by simp only [go_sem, ↓reduceIte, hst] <;> rfl)

theorem mac14_fn (key m : List Nat) (hkb : ∀ y ∈ key, y < 256) (hkl : key.length < 2 ^ 29) (hm : m.length < 2 ^ 29) : Fn Tryz.prog 19 [] [.pv (.sl 1 (bytes key)), .pv (.sl 1 (bytes m))] (fun rs H' => rs = [.own 5 (bytes (hmac key m))] ∧ H' = []) := by
  refine Fn.of_body (fn := Tryz.f19) (n := 16) (res := [.tmp 4]) (by kernel_rfl) rfl rfl rfl rfl rfl (fun C => ?_)
  have hroom : room = 140737488355328 := rfl
  have l54 : (xorK (kpad key) 54).length = 64 := by rw [xorK_len, kpad_len]
  have l92 : (xorK (kpad key) 92).length = 64 := by rw [xorK_len, kpad_len]
  have hh : hmac key m = sha (xorK (kpad key) 92 ++ sha (xorK (kpad key) 54 ++ m)) := rfl
  rw [hh]
  have f1 := xpad_fn key 54 hkb (by decide) (by omega)
  have f2 := xpad_fn key 92 hkb (by decide) (by omega)
  generalize xorK (kpad key) 54 = a at *
  generalize xorK (kpad key) 92 = b at *
  have r1 : (a.length + m.length ≤ room) = True := eq_true (by omega)
  have hsl := sha_len (a ++ m)
  have r2 : (b.length + (sha (a ++ m)).length ≤ room) = True := eq_true (by omega)
  refine AW.go ?_
  refine AW.callE (fun _ => 0) f1 (.pv _ (.pv _ .nil)) ?_
  refine AW.go ?_ (by simp only [go_sem, ↓reduceIte, r1] <;> rfl)
  refine AW.callE (args := [.pv (.sl 1 (bytes (a ++ m)))]) (fun _ => 0) (sum13_fn (a ++ m) (by rw [List.length_append]; omega)) (.lend rfl co_5 .nil) ?_
  refine AW.go ?_
  refine AW.callE (fun _ => 0) f2 (.pv _ (.pv _ .nil)) ?_
  refine AW.go ?_ (by simp only [go_sem, ↓reduceIte, r2] <;> rfl)
  refine AW.callE (args := [.pv (.sl 1 (bytes (b ++ sha (a ++ m))))]) (fun _ => 0) (sum13_fn (b ++ sha (a ++ m)) (by rw [List.length_append]; omega)) (.lend rfl co_5 .nil) ?_
  refine AW.go ?_
  refine AW.finE (.move rfl .nil) rfl
theorem check14_fn (key m tag : List Nat) (hkb : ∀ y ∈ key, y < 256) (hkl : key.length < 2 ^ 29) (hm : m.length < 2 ^ 29) : Fn Tryz.prog 21 [] [.pv (.sl 1 (bytes key)), .pv (.sl 1 (bytes m)), .pv (.sl 1 (bytes tag))] (fun rs H' => rs = [.pv (.bool (decide (hmac key m = tag)))] ∧ H' = []) := by
  refine Fn.of_body (fn := Tryz.f21) (n := 12) (res := [.tmp 6]) (by kernel_rfl) rfl rfl rfl rfl rfl (fun C => ?_)
  refine AW.go ?_
  refine AW.callE (fun _ => 0) (mac14_fn key m hkb hkl hm) (.pv _ (.pv _ .nil)) ?_
  refine AW.go ?_
  refine AW.callE (args := [.pv (.sl 1 (bytes (hmac key m))), .pv (.sl 1 (bytes tag))]) (fun _ => 0) (ref01Same_fn _ tag (by rw [hmac_len]; exact le_room _)) (.lend rfl co_5 (.pv _ .nil)) ?_
  refine AW.go ?_
  refine AW.finE (.pv _ .nil) rfl
end Go.Ck

set_option linter.unusedVariables false
set_option maxRecDepth 10000
namespace Go.Ck
open Go.Proofs
theorem refBlocked_fn (l : List Nat) (hl : l.length + 20 ≤ room) : Fn Tryz.prog 46 [] [.pv (.sl 1 (bytes l))] (fun rs H' => rs = [.own 5 (bytes (leb l.length ++ l))] ∧ H' = []) := by
  refine Fn.of_body (fn := Tryz.f46) (n := 9) (res := [.tmp 2]) (by kernel_rfl) rfl rfl rfl rfl rfl (fun C => ?_)
  have hr : room < 2 ^ 63 := by decide
  have hu : IntKind.u64.wrap (l.length : Int) = (l.length : Int) := wrap_u64_lt (by omega)
  refine AW.go ?_ (by simp only [go_sem, ↓reduceIte, hu] <;> rfl)
  refine AW.callE (fun _ => 0) (refAppend_fn [] l.length (by omega) (by simp; omega)) (.nilsP 1 (.pv _ .nil)) ?_
  have h10 := leb_len10 (v := l.length) (by omega)
  have hs : (leb l.length).length + l.length ≤ room := by omega
  refine AW.go ?_ (by simp only [go_sem, ↓reduceIte, List.nil_append, hs] <;> rfl)
  refine AW.finE (.move rfl .nil) rfl
end Go.Ck

set_option linter.unusedVariables false
set_option maxRecDepth 100000
set_option maxHeartbeats 400000
namespace Go.Ck
open Go.Proofs
theorem AW.absurdC {P : Program} {R : Option Nat} {Φ : Exit → Cx → St → Prop} {e : Exit} {k : List It} {X : Bs → Prop} {s : St} (h : ∀ B, ¬ X B) : AW P R Φ e k (plain X) s := fun B a w ha => absurd ha.1.1.2 (h B)
theorem pieces_fn (key info : List Nat) : Fn Tryz.prog 83 [] [.pv (.sl 1 (bytes key)), .pv (.sl 1 (bytes info))] (fun rs H' => rs = [.fn 101 [.ptr 2 0, .ptr 3 0]] ∧ H' = [(3, .cells 22 [.pv (.sl 1 (bytes info))]), (2, .cells 22 [.pv (.sl 1 (bytes key))])]) := by
  refine Fn.of_body (fn := Tryz.f83) (n := 6) (res := [.tmp 4]) (by kernel_rfl) rfl rfl rfl rfl rfl (fun C => ?_)
  refine AW.go ?_
  refine AW.finE (.fn rfl .nil) rfl
theorem pieces_iter (key info : List Nat) (hkb : ∀ x ∈ key, x < 256) (hkl : key.length < 2 ^ 50) (hil : info.length < 2 ^ 50) : Iter Tryz.prog 101 [.ptr 20 0, .ptr 21 0] [(21, .cells 22 [.pv (.sl 1 (bytes info))]), (20, .cells 22 [.pv (.sl 1 (bytes key))])] (hpcs key info) := by
  refine Iter.of_body (fn := Tryz.f101) (n := 19) (by kernel_rfl) rfl rfl rfl rfl (fun l X X0 N hY hN => ?_)
  have hN : ∀ B, ¬ X N B := hN.resolve_left (by simp [hpcs])
  have m3 : (3 ≤ maxLen) = True := eq_true (le_maxLen 3)
  refine AW.go ?_
  refine AW.freeze (p := .slot 4) (by simp only [go_sem, ↓reduceIte, freeze, freezeO] <;> rfl) ?_
  refine AW.loopC (n := N) (fun m C s => ∃ i, m = N - i ∧ i ≤ N ∧ C = plain (X i) ∧ keepB [0, 1, 2, 4, 5] [20, 21] s = ⟨19, [(0, .yl l), (1, .ptr 20 0), (2, .ptr 21 0), (4, .pv (.sl 1 (bytes (hpc key info i)))), (5, .pv (.int .u8 (((i + 1) % 256 : Nat) : Int)))], [(20, .cells 22 [.pv (.sl 1 (bytes key))]), (21, .cells 22 [.pv (.sl 1 (bytes info))])]⟩ ∧ keptB none [0, 1, 2, 4, 5] [20, 21] s = true) ⟨0, rfl, Nat.zero_le _, rfl, by simp only [go_sem, ↓reduceIte] <;> rfl, by simp only [go_sem, ↓reduceIte]⟩ ?_
  rintro m C s ⟨i, rfl, hi, rfl, hs, hk⟩
  by_cases hiN : i = N
  · rw [hiN]; exact AW.absurdC hN
  have hlt : i < N := by omega
  obtain ⟨p, hp, hY1⟩ := hY _ hlt
  unfold hpcs at hp
  cases hp
  rw [hpc_flat] at hY1
  have hnx := hpc_flat key info i
  have hpl := hpc_len key info i
  have ei : IntKind.u8.wrap (((i + 1) % 256 : Nat) + 1 : Int) = (((i + 1 + 1) % 256 : Nat) : Int) := by
    rw [show (((i + 1) % 256 : Nat) : Int) + 1 = (((i + 1) % 256 + 1 : Nat) : Int) by omega, wrap_u8]; congr 1; omega
  refine AW.keepB [0, 1, 2, 4, 5] [20, 21] hk hs ?_
  generalize hpc key info i = T at *
  generalize (i + 1) % 256 = kk at *
  refine AW.go ?_ (by simp only [go_sem, ↓reduceIte, freeze, freezeO, m3] <;> rfl)
  refine AW.freeze (p := .slot 13) (by simp only [go_sem, ↓reduceIte, freeze, freezeO] <;> rfl) ?_
  refine AW.callE (args := [.pv (.sl 1 (bytes key)), .pv (.sl 1 (lsP [T, info, [kk]]))]) (fun _ => 0) (all_fn key [T, info, [kk]] hkb (by omega) (by simp; omega) (by simp)) (.pv _ (.pv _ .nil)) ?_
  rw [← hnx] at hY1 ⊢
  refine AW.go ?_
  refine AW.yield hY1 rfl rfl ?_ ?_
  · refine AW.go ?_
    refine AW.condF rfl ?_
    refine AW.go ?_ (by simp only [go_sem, ↓reduceIte, ei] <;> rfl)
    refine AW.stop ⟨N - (i + 1), by omega, i + 1, rfl, by omega, rfl, by simp only [go_sem, ↓reduceIte] <;> rfl, by simp only [go_sem, ↓reduceIte]⟩
  · refine AW.go ?_
    refine AW.condT rfl ?_
    refine AW.go ?_
    exact AW.nil ⟨.inr rfl, .inr rfl⟩
end Go.Ck

set_option linter.unusedVariables false
set_option maxRecDepth 100000
set_option maxHeartbeats 400000
namespace Go.Ck
open Go.Proofs
attribute [go_sem] putParams keptH allNames pickH
theorem expand_fn (key info : List Nat) (hkb : ∀ x ∈ key, x < 256) (hkl : key.length < 2 ^ 50) (hil : info.length < 2 ^ 50) : Fn Tryz.prog 67 [] [.pv (.sl 1 (bytes key)), .pv (.sl 1 (bytes info)), .pv (.int .i64 32)] (fun rs H' => rs = [.pv (.sl 1 (bytes (hmac key (info ++ [1])))), .pv (.int .i64 0)] ∧ H' = []) := by
  refine Fn.of_bodyR (fn := Tryz.f67) (n := 34) (res := [.tmp 6, .tmp 7]) (by kernel_rfl) rfl rfl rfl rfl rfl (fun C => ?_)
  have hroom : room = 140737488355328 := rfl
  rw [← hpc_1]
  have hpl := hpc_1len key info
  refine AW.gg ?_
  refine AW.condF rfl ?_
  refine AW.go ?_
  refine AW.condF rfl ?_
  refine AW.go ?_
  refine AW.callE (fun o => if o = 2 then 20 else 21) (pieces_fn key info) (.pv _ (.pv _ .nil)) ?_
  refine AW.go ?_
  have hI := pieces_iter key info hkb hkl hil
  refine AW.rangeFunc [5, 8] [5, 8] (fun i hp => i = 0 ∧ hp = [(5, .cells 3 [.pv (.int .i64 32)]), (8, .cells 22 [.own 5 []])]) (fun j hp => j = .exit 0 ∧ hp = [(5, .cells 3 [.pv (.int .i64 32)]), (8, .cells 22 [.own 5 (bytes (hpc key info 1))])]) 1 hI rfl (by simp only [go_sem, ↓reduceIte]) (by simp only [go_sem, ↓reduceIte]) (by simp only [go_sem, ↓reduceIte]) (by simp only [go_sem, ↓reduceIte] <;> rfl) rfl rfl rfl rfl ⟨rfl, rfl⟩ ?_ ?_ (.inr ?_) ?_ ?_ ?_
  · intro i p hp
    unfold hpcs at hp; cases hp; rfl
  · intro i hi
    exact ⟨_, rfl⟩
  · rintro hp ⟨h, _⟩; cases h
  · intro i p hi hp
    have h0 : i = 0 := by omega
    subst h0
    unfold hpcs at hp; cases hp
    simp only [Nat.zero_add]
    generalize hpc key info 1 = T at *
    rintro _ ⟨_, rfl⟩ l C1
    refine AW.go ?_ (by simp only [go_sem, ↓reduceIte, putParams] <;> rfl)
    refine AW.nil ⟨rfl, rfl, fun C2 => ?_⟩
    have r1 : (T.length ≤ room) = True := eq_true (by omega)
    refine AW.go ?_ (by simp only [go_sem, ↓reduceIte, List.length_nil, Nat.zero_add, List.nil_append, r1] <;> rfl)
    have d1 : decide ((T.length : Int) ≥ 32) = true := decide_eq_true (by omega)
    refine AW.cond rfl (fun hc => ?_) (fun hc => ?_)
    rotate_left
    · exfalso; rw [d1] at hc; cases hc
    refine AW.go ?_
    refine AW.nil ⟨rfl, by simp only [go_sem, ↓reduceIte], by simp only [go_sem, ↓reduceIte], .inr ⟨_, rfl, rfl, by simp only [go_sem, ↓reduceIte] <;> rfl⟩⟩
  · rintro hp h; unfold hpcs at h; cases h
  · rintro j hp ⟨rfl, rfl⟩
    generalize hpc key info 1 = T at *
    have nc32 : ((32 : Nat) : Int) = 32 := rfl
    refine AW.go ?_ (by simp only [go_sem, ↓reduceIte, hpl, nc32, Int.reduceLE] <;> rfl)
    have hy : bytes T = ((bytes T).drop 0).take 32 := by rw [List.drop_zero, List.take_of_length_le (by rw [bytes_length]; omega)]
    refine AW.finR (.inr rfl) (.inr rfl) (by simp only [go_sem, ↓reduceIte, retsV] <;> rfl) (.lendV rfl co_5 hy (.pv _ .nil)) (H' := []) (by simp only [go_sem, ↓reduceIte]) (by simp only [go_sem, ↓reduceIte]) (by simp only [go_sem, ↓reduceIte]) ⟨rfl, rfl⟩

theorem derive_fn (key : List Nat) (p : Nat) (name : List UInt8) (hkb : ∀ x ∈ key, x < 256) (hp : p < 256) (hnl : name.length ≤ maxLen) : Fn Tryz.prog 39 [] [.pv (.sl 1 (bytes key)), .pv (.int .u8 p), .pv (.str name)] (fun rs H' => rs = [.pv (.sl 1 (bytes (dk key p name).1)), .pv (.int .i64 (dk key p name).2)] ∧ H' = []) := by
  refine Fn.of_body (fn := Tryz.f39) (n := 28) (res := [.tmp 6, .tmp 7]) (by kernel_rfl) rfl rfl rfl rfl rfl (fun C => ?_)
  have hroom : room = 140737488355328 := rfl
  have hml : maxLen < 2 ^ 63 := by unfold maxLen; decide
  unfold dk
  by_cases h1 : key.length = 32
  rotate_left
  · have d1 : ((key.length : Int) != 32) = true := by simp; omega
    have d2 : (key.length != 32) = true := by simp; omega
    rw [if_pos h1]
    refine AW.go ?_ (by simp only [go_sem, ↓reduceIte, d1, d2] <;> rfl)
    refine AW.condT rfl ?_
    refine AW.go ?_
    refine AW.finE (.lend rfl co_5 (.pv _ .nil)) rfl
  have hkl : key.length < 2 ^ 50 := by omega
  have d1 : ((key.length : Int) != 32) = false := by simp; omega
  have d2 : (key.length != 32) = false := by simp; omega
  rw [if_neg (by simp; omega)]
  refine AW.go ?_ (by simp only [go_sem, ↓reduceIte, d1, d2] <;> rfl)
  refine AW.condF rfl ?_
  refine AW.go ?_
  refine AW.cond rfl (fun hc => ?_) (fun hc => ?_)
  · have h2 : 64 < name.length := by have := of_decide_eq_true hc; omega
    rw [if_pos h2]
    refine AW.go ?_
    refine AW.finE (.lend rfl co_5 (.pv _ .nil)) rfl
  have h2 : ¬ 64 < name.length := by have := of_decide_eq_false hc; omega
  rw [if_neg h2]
  refine AW.go ?_
  refine AW.ofStr hnl tk_9 tk_22 tk_5 ?_
  rw [strBytes_nb]
  have hnb : (nb name).length = name.length := by simp [nb]
  have l10 := leb_len10 (v := name.length) (by omega)
  refine AW.go ?_
  refine AW.callE (fun _ => 0) (block_fn (nb name) (by omega)) (.pv _ .nil) ?_
  rw [hnb]
  have hLl : (leb name.length ++ nb name).length ≤ 100 := by rw [List.length_append]; omega
  have hdk := dkInfo_eq p name
  generalize leb name.length ++ nb name = L at *
  have r1 : (1 + L.length ≤ room) = True := eq_true (by omega)
  have hil : (dkInfo p name).length < 2 ^ 50 := by rw [hdk, List.length_cons]; omega
  refine AW.goM 3 ?_ (by simp only [go_sem, ↓reduceIte, List.length_cons, List.length_nil, Nat.zero_add, r1, bytes_consC, ← hdk] <;> rfl)
  generalize dkInfo p name = info at *
  refine AW.freeze (p := .slot 22) (by simp only [go_sem, ↓reduceIte, freeze, freezeO] <;> rfl) ?_
  refine AW.go ?_
  refine AW.callE (fun _ => 0) (expand_fn key info hkb hkl hil) (.pv _ (.pv _ (.pv _ .nil))) ?_
  refine AW.go ?_
  refine AW.finE (.pv _ (.pv _ .nil)) rfl
theorem keyM_fn (key : List Nat) (hkb : ∀ x ∈ key, x < 256) : Fn Tryz.prog 14 [] [.pv (.sl 1 (bytes key))] (fun rs H' => rs = [.pv (.sl 1 (bytes (dk key 4 []).1)), .pv (.int .i64 (dk key 4 []).2)] ∧ H' = []) := by
  refine Fn.of_body (fn := Tryz.f14) (n := 8) (res := [.tmp 2, .tmp 3]) (by kernel_rfl) rfl rfl rfl rfl rfl (fun C => ?_)
  refine AW.go ?_
  refine AW.callE (args := [.pv (.sl 1 (bytes key)), .pv (.int .u8 ((4 : Nat) : Int)), .pv (.str [])]) (fun _ => 0) (derive_fn key 4 [] hkb (by decide) (Nat.zero_le _)) (.pv _ (.pv _ (.pv _ .nil))) ?_
  refine AW.go ?_
  refine AW.finE (.pv _ (.pv _ .nil)) rfl

theorem expand14_fn (key info : List Nat) (hkb : ∀ x ∈ key, x < 256) (hkl : key.length < 2 ^ 28) (hil : info.length < 2 ^ 28) : Fn Tryz.prog 70 [] [.pv (.sl 1 (bytes key)), .pv (.sl 1 (bytes info)), .pv (.int .i64 32)] (fun rs H' => rs = [.pv (.sl 1 (bytes (hmac key (info ++ [1])))), .pv (.int .i64 0)] ∧ H' = []) := by
  refine Fn.of_body (fn := Tryz.f70) (n := 40) (res := [.tmp 6, .tmp 7]) (by kernel_rfl) rfl rfl rfl rfl rfl (fun C => ?_)
  have hroom : room = 140737488355328 := rfl
  have hml := hmac_len key (info ++ [1])
  refine AW.gg ?_
  refine AW.condF rfl ?_
  refine AW.go ?_
  refine AW.loopS (fun i : Nat => ⟨40, [(0, .pv (.sl 1 (bytes key))), (1, .pv (.sl 1 (bytes info))), (2, .pv (.int .i64 32)), (8, .own 5 (bytes (if i = 0 then [] else hmac key (info ++ [1])))), (9, .own 5 (bytes (if i = 0 then [] else hmac key (info ++ [1])))), (10, .pv (.int .i64 ((i + 1 : Nat) : Int)))], []⟩) (fun i => i ≤ 1) (fun i => 1 - i) [0, 1, 2, 8, 9, 10] [] 0 (by decide) ?_
  rintro i hi K hK
  have hi01 : i = 0 ∨ i = 1 := by omega
  rcases hi01 with rfl | rfl
  · simp only [↓reduceIte]
    refine AW.go ?_
    refine AW.condT rfl ?_
    have a1 : (0 ≤ room) = True := eq_true (by omega)
    have a2 : (info.length ≤ room) = True := eq_true (by omega)
    have a3 : (info.length + 1 ≤ room) = True := eq_true (by omega)
    have e1 : IntKind.u8.wrap ((1 : Nat) : Int) = ((1 : Nat) : Int) := by decide
    have e2 : IntKind.i64.wrap (1 + 1) = 2 := by decide
    have e3 : IntKind.u8.wrap 1 = 1 := by decide
    have hb1 : bytes info ++ [PV.int .u8 1] = bytes (info ++ [1]) := bytes_snoc info 1
    have hb0 : bytes [] = [] := rfl
    refine AW.go ?_ (by simp only [go_sem, ↓reduceIte, List.length_nil, Nat.zero_add, List.nil_append, Nat.zero_mul, le_maxLen0, a1, a2, a3, nc1, e3, hb1, hb0, List.append_nil] <;> rfl)
    refine AW.callE (args := [.pv (.sl 1 (bytes key)), .pv (.sl 1 (bytes (info ++ [1])))]) (fun _ => 0) (mac14_fn key (info ++ [1]) hkb (by omega) (by rw [List.length_append, List.length_singleton]; omega)) (.pv _ (.lend rfl co_5 .nil)) ?_
    generalize hmac key (info ++ [1]) = T at *
    have a4 : (T.length ≤ room) = True := eq_true (by omega)
    refine AW.go ?_ (by simp only [go_sem, ↓reduceIte, List.length_nil, Nat.zero_add, List.nil_append, a4, nc1, hb0, e2] <;> rfl)
    exact AW.again hK 1 (by decide) (by decide)
  · simp only [Nat.one_ne_zero, if_false]
    generalize hmac key (info ++ [1]) = T at *
    have d1 : decide ((T.length : Int) < 32) = false := decide_eq_false (by omega)
    refine AW.go ?_
    refine AW.cond rfl (fun hc => ?_) (fun hc => ?_)
    · exfalso; rw [d1] at hc; cases hc
    have nc32 : ((32 : Nat) : Int) = 32 := rfl
    refine AW.go ?_ (by simp only [go_sem, ↓reduceIte, hml, nc32, Int.reduceLE] <;> rfl)
    have hy : bytes T = ((bytes T).drop 0).take 32 := by rw [List.drop_zero, List.take_of_length_le (by rw [bytes_length]; omega)]
    refine AW.finE (.lendV rfl co_5 hy (.pv _ .nil)) rfl

theorem derive18_fn (key : List Nat) (p : Nat) (name : List UInt8) (hkb : ∀ x ∈ key, x < 256) (hp : p < 256) (hnl : name.length ≤ maxLen) : Fn Tryz.prog 41 [] [.pv (.sl 1 (bytes key)), .pv (.int .u8 p), .pv (.str name)] (fun rs H' => rs = [.pv (.sl 1 (bytes (dk key p name).1)), .pv (.int .i64 (dk key p name).2)] ∧ H' = []) := by
  refine Fn.of_body (fn := Tryz.f41) (n := 24) (res := [.tmp 6, .tmp 7]) (by kernel_rfl) rfl rfl rfl rfl rfl (fun C => ?_)
  have hroom : room = 140737488355328 := rfl
  have hml : maxLen < 2 ^ 63 := by unfold maxLen; decide
  unfold dk
  by_cases h1 : key.length = 32
  rotate_left
  · have d1 : ((key.length : Int) != 32) = true := by simp; omega
    have d2 : (key.length != 32) = true := by simp; omega
    rw [if_pos h1]
    refine AW.go ?_ (by simp only [go_sem, ↓reduceIte, d1, d2] <;> rfl)
    refine AW.condT rfl ?_
    refine AW.go ?_
    refine AW.finE (.lend rfl co_5 (.pv _ .nil)) rfl
  have hkl : key.length < 2 ^ 50 := by omega
  have d1 : ((key.length : Int) != 32) = false := by simp; omega
  have d2 : (key.length != 32) = false := by simp; omega
  rw [if_neg (by simp; omega)]
  refine AW.go ?_ (by simp only [go_sem, ↓reduceIte, d1, d2] <;> rfl)
  refine AW.condF rfl ?_
  refine AW.go ?_
  refine AW.cond rfl (fun hc => ?_) (fun hc => ?_)
  · have h2 : 64 < name.length := by have := of_decide_eq_true hc; omega
    rw [if_pos h2]
    refine AW.go ?_
    refine AW.finE (.lend rfl co_5 (.pv _ .nil)) rfl
  have h2 : ¬ 64 < name.length := by have := of_decide_eq_false hc; omega
  rw [if_neg h2]
  refine AW.go ?_
  refine AW.ofStr hnl tk_9 tk_22 tk_5 ?_
  rw [strBytes_nb]
  have hnb : (nb name).length = name.length := by simp [nb]
  have l10 := leb_len10 (v := name.length) (by omega)
  refine AW.go ?_
  refine AW.callE (fun _ => 0) (refBlocked_fn (nb name) (by omega)) (.pv _ .nil) ?_
  rw [hnb]
  have hLl : (leb name.length ++ nb name).length ≤ 100 := by rw [List.length_append]; omega
  have hdk := dkInfo_eq p name
  generalize leb name.length ++ nb name = L at *
  have r1 : (1 + L.length ≤ room) = True := eq_true (by omega)
  have hil : (dkInfo p name).length < 2 ^ 28 := by rw [hdk, List.length_cons]; omega
  refine AW.goM 3 ?_ (by simp only [go_sem, ↓reduceIte, List.length_cons, List.length_nil, Nat.zero_add, r1, bytes_consC, ← hdk] <;> rfl)
  generalize dkInfo p name = info at *
  refine AW.freeze (p := .slot 20) (by simp only [go_sem, ↓reduceIte, freeze, freezeO] <;> rfl) ?_
  refine AW.go ?_
  refine AW.callE (fun _ => 0) (expand14_fn key info hkb (by omega) hil) (.pv _ (.pv _ (.pv _ .nil))) ?_
  refine AW.go ?_
  refine AW.finE (.pv _ (.pv _ .nil)) rfl
theorem keyM18_fn (key : List Nat) (hkb : ∀ x ∈ key, x < 256) : Fn Tryz.prog 17 [] [.pv (.sl 1 (bytes key))] (fun rs H' => rs = [.pv (.sl 1 (bytes (dk key 4 []).1)), .pv (.int .i64 (dk key 4 []).2)] ∧ H' = []) := by
  refine Fn.of_body (fn := Tryz.f17) (n := 8) (res := [.tmp 2, .tmp 3]) (by kernel_rfl) rfl rfl rfl rfl rfl (fun C => ?_)
  refine AW.go ?_
  refine AW.callE (args := [.pv (.sl 1 (bytes key)), .pv (.int .u8 ((4 : Nat) : Int)), .pv (.str [])]) (fun _ => 0) (derive18_fn key 4 [] hkb (by decide) (Nat.zero_le _)) (.pv _ (.pv _ (.pv _ .nil))) ?_
  refine AW.go ?_
  refine AW.finE (.pv _ (.pv _ .nil)) rfl
end Go.Ck
