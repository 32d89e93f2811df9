/- What is proved here: parts of the proofs of this seat's statements (a verified evaluator for calls over pure values, its laws, and contracts of functions). No condition. -/
import Derived.Test.YthjibccogjggbaaKs
import Derived.Test.YthjibccogjggbaaKn
import Derived.Test.YthjibccogjggbaaKm
set_option linter.all false
set_option linter.unusedVariables false
set_option maxRecDepth 100000
set_option maxHeartbeats 400000
namespace Go.Ck
open Go.Proofs
theorem through13_fn (s : S8) (b : List Nat) (hb : b.length = 64) : Fn Try.prog 86 [] [.pv (.sl 1 (wds s.l)), .pv (.sl 1 (bytes b)), .pv (.sl 1 (wds ktab))] (fun rs H' => rs = [.own 116 (wds (thr s b).l)] ∧ H' = []) := by
  refine Fn.of_body (fn := Try.f86) (n := 138) (res := [.tmp 6]) (by kernel_rfl) rfl rfl rfl rfl rfl (fun C => ?_)
  have hroom : room = 140737488355328 := rfl
  have hsl : (sched b).length = 64 := sched_len b
  have hthr : thr s b = add8 s (rnds ktab (sched b) s) := rfl
  have h8 : s.l.length = 8 := rfl
  have q1 : ((8 : Nat) * 4 ≤ room) = True := eq_true (by omega)
  have q2 : ((8 : Nat) ≤ room) = True := eq_true (by omega)
  have hkl := ktab_len
  rw [hthr, ← adl_8]
  refine AW.go ?_
  refine AW.callE (fun _ => 0) (words_fn b hb) (.pv _ .nil) ?_
  generalize sched b = ws at *
  generalize ktab = ks at *
  refine AW.go ?_ (by simp only [go_sem, ↓reduceIte, h8, q1, q2, le_maxLen0, Nat.zero_mul, Nat.zero_add, List.length_nil, List.nil_append] <;> rfl)
  refine AW.loopS (fun t : Nat => ⟨138, [(9, .pv (.int .i64 t)), (0, .pv (.sl 1 (wds s.l))), (2, .pv (.sl 1 (wds ks))), (7, .own 116 (wds ws)), (8, .own 116 [wP (rnds (ks.take t) (ws.take t) s).a, wP (rnds (ks.take t) (ws.take t) s).b, wP (rnds (ks.take t) (ws.take t) s).c, wP (rnds (ks.take t) (ws.take t) s).d, wP (rnds (ks.take t) (ws.take t) s).e, wP (rnds (ks.take t) (ws.take t) s).f, wP (rnds (ks.take t) (ws.take t) s).g, wP (rnds (ks.take t) (ws.take t) s).h])], []⟩) (fun t => t ≤ 64) (fun t => 64 - t) [9, 0, 2, 7, 8] [] 0 (by omega) ?_
  rintro t ht K hK
  refine AW.go ?_
  refine AW.cond rfl (fun hc => ?_) (fun hc => ?_)
  · have hlt : t < 64 := by have := of_decide_eq_true hc; omega
    have l1 : (t < 64) = True := eq_true hlt
    have hkg : (wds ks)[t]? = some (.int .u32 ((wAt ks t).toNat : Int)) := wds_get (by omega)
    have hwg : (wds ws)[t]? = some (.int .u32 ((wAt ws t).toNat : Int)) := wds_get (by omega)
    have hstep := rnds_step ks ws s t (by omega) (by omega)
    generalize wAt ks t = kt at *
    generalize wAt ws t = wt at *
    generalize rnds (ks.take t) (ws.take t) s = r at *
    obtain ⟨a, b, c, d, e, f, g, h⟩ := r
    simp only
    refine AW.go ?_
    refine AW.calmS ?_
    refine CK.reads [[], [31], [32], []] ?_ (by simp only [go_sem, ↓reduceIte, hkg, hwg, l1, hkl, hsl, w32_xor, w32_and, w32_notI, w32_add, wP] <;> rfl)
    refine CK.call (ps := [_, _]) [34] (rot13_fn e 6 6 rfl (by decide) (by decide)) ?_
    refine CK.reads [[]] ?_ (by simp only [go_sem, ↓reduceIte, hkg, hwg, l1, hkl, hsl, w32_xor, w32_and, w32_notI, w32_add, wP] <;> rfl)
    refine CK.call (ps := [_, _]) [36] (rot13_fn e 11 11 rfl (by decide) (by decide)) ?_
    refine CK.reads [[35, 37], []] ?_ (by simp only [go_sem, ↓reduceIte, hkg, hwg, l1, hkl, hsl, w32_xor, w32_and, w32_notI, w32_add, wP] <;> rfl)
    refine CK.call (ps := [_, _]) [39] (rot13_fn e 25 25 rfl (by decide) (by decide)) ?_
    refine CK.reads [[38, 40], [33, 41], [], [], [44], [45], [43, 46], [], [48], [], [50], [51], [49, 52], [47, 53], [42, 54], [], [], [56, 57], [58], [55, 59], [], [], [61, 62], [63], [60, 64]] ?_ (by simp only [go_sem, ↓reduceIte, hkg, hwg, l1, hkl, hsl, w32_xor, w32_and, w32_notI, w32_add, wP] <;> rfl)
    refine CK.done (M := 35) 1 mixed ?_
    refine AW.seqs (fuel := 0) (listed' := Array.replicate 36 true) [35] ?_ (by decide +kernel)
    -- 35: t12 := = t65
    refine AW.gg ?_
    refine AW.anyDone (by decide +kernel) ?_
    refine AW.go ?_
    refine AW.calmS ?_
    refine CK.reads [[]] ?_ (by simp only [go_sem, ↓reduceIte, w32_xor, w32_and, w32_notI, w32_add, wP] <;> rfl)
    refine CK.call (ps := [_, _]) [66] (rot13_fn a 2 2 rfl (by decide) (by decide)) ?_
    refine CK.reads [[]] ?_ (by simp only [go_sem, ↓reduceIte, w32_xor, w32_and, w32_notI, w32_add, wP] <;> rfl)
    refine CK.call (ps := [_, _]) [68] (rot13_fn a 13 13 rfl (by decide) (by decide)) ?_
    refine CK.reads [[67, 69], []] ?_ (by simp only [go_sem, ↓reduceIte, w32_xor, w32_and, w32_notI, w32_add, wP] <;> rfl)
    refine CK.call (ps := [_, _]) [71] (rot13_fn a 22 22 rfl (by decide) (by decide)) ?_
    refine CK.reads [[70, 72], [], [], [75], [76], [74, 77], [], [], [80], [81], [79, 82], [78, 83], [], [85], [86], [], [88], [89], [87, 90], [84, 91], [73, 92]] ?_ (by simp only [go_sem, ↓reduceIte, w32_xor, w32_and, w32_notI, w32_add, wP] <;> rfl)
    refine CK.done (M := 28) 1 mixed ?_
    refine AW.seqs (fuel := 0) (listed' := Array.replicate 29 true) [28] ?_ (by decide +kernel)
    -- 28: t13 := = t93
    refine AW.gg ?_
    refine AW.anyDone (by decide +kernel) ?_
    refine AW.go ?_
    refine AW.calmS ?_
    refine CK.reads [[], [], [94, 95], [], [97], [98], [], [100], [101], [], [103], [104], [], [106], [107], [], [108, 109], [], [111], [112], [], [114], [115], [], [117], [118]] ?_ (by simp only [go_sem, ↓reduceIte, w32_xor, w32_and, w32_notI, w32_add, wP] <;> rfl)
    refine CK.list [96, 99, 102, 105, 110, 113, 116, 119] ?_
    refine CK.done (M := 27) 1 mixed ?_
    refine AW.seqs (fuel := 0) (listed' := Array.replicate 28 true) [27] ?_ (by decide +kernel)
    -- 27: t8 := = t120
    refine AW.gg ?_
    refine AW.anyDone (by decide +kernel) ?_
    have e6 : IntKind.i64.wrap ((t : Int) + 1) = ((t + 1 : Nat) : Int) := wrap_i64_succ (by omega)
    refine AW.go ?_ (by simp only [go_sem, ↓reduceIte, e6] <;> rfl)
    exact AW.again hK (t + 1) (by omega) (by omega) (hs := by simp only [go_sem, ↓reduceIte, hstep, rnd, t1W, t2W] <;> rfl)
  have hge : t = 64 := by have := of_decide_eq_false hc; omega
  subst hge
  rw [List.take_of_length_le (by omega), List.take_of_length_le (by omega)]
  generalize rnds ks ws s = r at *
  refine AW.go ?_
  refine AW.loopS (fun i : Nat => ⟨138, [(15, .pv (.int .i64 i)), (0, .pv (.sl 1 (wds s.l))), (8, .own 116 (wds r.l)), (14, .own 116 (wds (adl s.l r.l i)))], []⟩) (fun i => i ≤ 8) (fun i => 8 - i) [15, 0, 8, 14] [] 0 (by omega) ?_
  have h81 : r.l.length = 8 := rfl
  have h80 := h8
  generalize s.l = l0 at *
  generalize r.l = l1 at *
  rintro i hi K hK
  refine AW.go ?_
  refine AW.cond rfl (fun hc => ?_) (fun hc => ?_)
  rotate_left
  · have hge : i = 8 := by have := of_decide_eq_false hc; omega
    subst hge
    refine AW.go ?_
    refine AW.finE (.move rfl .nil) rfl
  have hlt : i < 8 := by have := of_decide_eq_true hc; omega
  have l8 : (i < 8) = True := eq_true hlt
  have g0 : (wds l0)[i]? = some (.int .u32 ((wAt l0 i).toNat : Int)) := wds_get (by omega)
  have g1 : (wds l1)[i]? = some (.int .u32 ((wAt l1 i).toNat : Int)) := wds_get (by omega)
  have r1 : ((i + 1) * 4 ≤ room) = True := eq_true (by omega)
  have r2 : (i + 1 ≤ room) = True := eq_true (by omega)
  refine AW.go ?_
  refine AW.calmS ?_
  refine CK.reads [[], [], [], [126, 127], [128], [], [], [130, 131], [132], [129, 133]] ?_ (by simp only [go_sem, ↓reduceIte, g0, g1, h80, h81, l8, w32_add] <;> rfl)
  refine CK.list [134] ?_
  refine CK.done (M := 11) 2 mixed ?_
  refine AW.seqs (fuel := 0) (listed' := Array.replicate 13 true) [11, 12] ?_ (by decide +kernel)
  -- 11: t136 := call append(t125, t135)
  -- 12: t14 := = t136
  refine AW.gg ?_ (by simp only [go_sem, ↓reduceIte, wds_snoc, adl_succ, adl_len, r1, r2] <;> rfl)
  refine AW.anyDone (by decide +kernel) ?_
  have e6 : IntKind.i64.wrap ((i : Int) + 1) = ((i + 1 : Nat) : Int) := wrap_i64_succ (by omega)
  refine AW.go ?_ (by simp only [go_sem, ↓reduceIte, e6] <;> rfl)
  exact AW.again hK (i + 1) (by omega) (by omega)

theorem sum13_fn (m : List Nat) (hm : m.length < 2 ^ 30) : Fn Try.prog 72 [] [.pv (.sl 1 (bytes m))] (fun rs H' => rs = [.own 5 (bytes (sha m))] ∧ H' = []) := by
  refine Fn.of_body (fn := Try.f72) (n := 60) (res := [.tmp 2]) (by kernel_rfl) rfl rfl rfl rfl rfl (fun C => ?_)
  have hroom : room = 140737488355328 := rfl
  have hpl : (m ++ endP m.length).length % 64 = 0 ∧ (m ++ endP m.length).length < 2 ^ 31 := by
    rw [List.length_append, endP_len]; unfold zpad; omega
  have hsha : sha m = (fb first8 (m ++ endP m.length)).l.flatMap byW := rfl
  rw [hsha]
  refine AW.go ?_
  refine AW.callE (fun _ => 0) const13_fn .nil ?_
  refine AW.go ?_
  refine AW.callE (fun _ => 0) (padded_fn m hm) (.pv _ .nil) ?_
  generalize m ++ endP m.length = p at *
  obtain ⟨hp1, hp2⟩ := hpl
  refine AW.go ?_
  refine AW.loopS (fun j : Nat => ⟨60, [(6, .pv (.int .i64 ((64 * j : Nat) : Int))), (3, .pv (.sl 1 (wds ktab))), (5, .own 5 (bytes p)), (4, .own 116 (wds (fb first8 (p.take (64 * j))).l))], []⟩) (fun j => 64 * j ≤ p.length) (fun j => p.length - 64 * j) [6, 3, 5, 4] [] 0 (by omega) ?_ (hs := by simp only [go_sem, ↓reduceIte, Nat.mul_zero, List.take_zero, fb_lt (s := first8) (l := []) (by decide)] <;> rfl)
  rintro j hj K hK
  refine AW.go ?_
  refine AW.cond rfl (fun hc => ?_) (fun hc => ?_)
  · have hlt : 64 * j < p.length := by have := of_decide_eq_true hc; omega
    have hle : 64 * (j + 1) ≤ p.length := by omega
    have hst := fb_step first8 p j hle
    have hbl : ((p.drop (64 * j)).take 64).length = 64 := by simp; omega
    obtain ⟨q, hq⟩ : ∃ q, q = 64 * j := ⟨_, rfl⟩
    rw [← hq] at hst hbl ⊢
    have e1 : IntKind.i64.wrap ((q : Int) + 64) = ((q + 64 : Nat) : Int) := by rw [wrap_i64_of (by omega) (by omega)]; omega
    have e2 : (((q + 64 : Nat) : Int) - (q : Int)).toNat = 64 := by omega
    have e3 : (q ≤ q + 64) = True := eq_true (by omega)
    have e4 : (q + 64 ≤ p.length) = True := eq_true (by omega)
    have e5 : ((q : Int) ≤ ((q + 64 : Nat) : Int)) = True := eq_true (by omega)
    have e6 : (((q + 64 : Nat) : Int) ≤ (p.length : Int)) = True := eq_true (by omega)
    generalize fb first8 (p.take q) = s at *
    refine AW.go ?_ (by simp only [go_sem, ↓reduceIte, e1, e2, e3, e4, e5, e6] <;> rfl)
    refine AW.callE (args := [.pv (.sl 1 (wds s.l)), .pv (.sl 1 (bytes ((p.drop q).take 64))), .pv (.sl 1 (wds ktab))]) (fun _ => 0) (through13_fn s _ hbl) (.lend rfl co_116 (.lendV rfl co_5 (by rw [bytes_drop, bytes_take]) (.pv _ .nil))) ?_
    have hq2 : q + 64 = 64 * (j + 1) := by omega
    refine AW.go ?_ (by simp only [go_sem, ↓reduceIte, e1] <;> rfl)
    exact AW.again hK (j + 1) (by omega) (by omega) (hs := by simp only [go_sem, ↓reduceIte, hst, hq2] <;> rfl)
  have hge : 64 * j = p.length := by have := of_decide_eq_false hc; omega
  rw [hge, List.take_of_length_le (Nat.le_refl _)]
  refine AW.go ?_
  have hl8 : (fb first8 p).l.length = 8 := rfl
  generalize (fb first8 p).l = l at *
  refine AW.loopS (fun i : Nat => ⟨60, [(8, .pv (.int .i64 i)), (4, .own 116 (wds l)), (7, .own 5 (bytes ((l.take i).flatMap byW)))], []⟩) (fun i => i ≤ 8) (fun i => 8 - i) [8, 4, 7] [] 0 (by omega) ?_
  rintro i hi K hK
  refine AW.go ?_
  refine AW.cond rfl (fun hc => ?_) (fun hc => ?_)
  rotate_left
  · have hge : i = 8 := by have := of_decide_eq_false hc; omega
    subst hge
    rw [List.take_of_length_le (by omega)]
    refine AW.go ?_
    refine AW.finE (.move rfl .nil) rfl
  have hlt : i < 8 := by have := of_decide_eq_true hc; omega
  have l8 : (i < 8) = True := eq_true hlt
  have hst := by_step l i (by omega)
  have hx : (wds l)[i]? = some (.int .u32 ((wAt l i).toNat : Int)) := wds_get (by omega)
  have hfl : ((l.take i).flatMap byW).length = 4 * i := by rw [flat_byW_len]; simp; omega
  generalize (l.take i).flatMap byW = acc at *
  generalize wAt l i = x at *
  have r1 : (acc.length + 4 ≤ room) = True := eq_true (by omega)
  refine AW.go ?_
  refine AW.calmS ?_
  refine CK.reads [[], [], [], [34, 35], [36], [37], [38], [], [], [40, 41], [42], [43], [44], [], [], [46, 47], [48], [49], [50], [], [], [52, 53], [54], [55]] ?_ (by simp only [go_sem, ↓reduceIte, hx, hl8, l8, w32_shr24, w32_shr16, w32_shr8, w32_low] <;> rfl)
  refine CK.list [39, 45, 51, 56] ?_
  refine CK.done (M := 25) 2 mixed ?_
  refine AW.seqs (fuel := 0) (listed' := Array.replicate 27 true) [25, 26] ?_ (by decide +kernel)
  -- 25: t58 := call append(t33, t57)
  -- 26: t7 := = t58
  refine AW.gg ?_ (by simp only [go_sem, ↓reduceIte, bytes_byW, r1, Nat.mul_one, List.length_cons, List.length_nil, Nat.reduceAdd] <;> rfl)
  refine AW.anyDone (by decide +kernel) ?_
  have e6 : IntKind.i64.wrap ((i : Int) + 1) = ((i + 1 : Nat) : Int) := wrap_i64_succ (by omega)
  refine AW.go ?_ (by simp only [go_sem, ↓reduceIte, e6] <;> rfl)
  exact AW.again hK (i + 1) (by omega) (by omega) (hs := by simp only [go_sem, ↓reduceIte, hst] <;> rfl)
end Go.Ck

set_option linter.unusedVariables false
namespace Go.Ck
theorem byW_lt (x : W32) : ∀ y ∈ byW x, y < 256 := by
  intro y hy
  simp only [byW, List.mem_cons, List.not_mem_nil, or_false] at hy
  rcases hy with rfl | rfl | rfl | rfl <;> exact Nat.mod_lt _ (by decide)
theorem sha_lt (m : List Nat) : ∀ y ∈ sha m, y < 256 := by
  intro y hy
  simp only [sha, by8, List.mem_flatMap] at hy
  obtain ⟨x, _, h⟩ := hy
  exact byW_lt x y h
def kof (key : List Nat) : List Nat := if 64 < key.length then sha key else key
def kpad (key : List Nat) : List Nat := kof key ++ List.replicate (64 - (kof key).length) 0
def xorK (k : List Nat) (x : Nat) : List Nat := k.map (· ^^^ x)
def hmac (key m : List Nat) : List Nat := sha (xorK (kpad key) 92 ++ sha (xorK (kpad key) 54 ++ m))
theorem kof_len (key : List Nat) : (kof key).length ≤ 64 := by
  unfold kof; split
  · rw [sha_len]; decide
  · omega
theorem kof_lt {key : List Nat} (h : ∀ x ∈ key, x < 256) : ∀ x ∈ kof key, x < 256 := by
  unfold kof; split
  · exact sha_lt key
  · exact h
theorem kpad_len (key : List Nat) : (kpad key).length = 64 := by
  have := kof_len key
  simp [kpad]; omega
theorem kpad_lt {key : List Nat} (h : ∀ x ∈ key, x < 256) : ∀ x ∈ kpad key, x < 256 := by
  intro x hx
  simp only [kpad, List.mem_append] at hx
  rcases hx with hx | hx
  · exact kof_lt h x hx
  · rw [(List.mem_replicate.1 hx).2]; decide
theorem hmac_len (k m : List Nat) : (hmac k m).length = 32 := sha_len _
theorem hmac_lt (k m : List Nat) : ∀ y ∈ hmac k m, y < 256 := sha_lt _
theorem xorK_len (k : List Nat) (x : Nat) : (xorK k x).length = k.length := by simp [xorK]
theorem ibits_xor8 {a b : Nat} (ha : a < 2 ^ 8) (hb : b < 2 ^ 8) : ibits .xor .u8 (a : Int) (b : Int) = ((a ^^^ b : Nat) : Int) := by
  have h := Nat.xor_lt_two_pow ha hb
  have e1 : (BitVec.ofNat 8 a ^^^ BitVec.ofNat 8 b).toNat = a ^^^ b := by
    rw [BitVec.toNat_xor, BitVec.toNat_ofNat, BitVec.toNat_ofNat, Nat.mod_eq_of_lt ha, Nat.mod_eq_of_lt hb]
  have e2 : ibits .xor .u8 (a : Int) (b : Int) = IntKind.u8.wrap ((BitVec.ofInt 8 (a : Int) ^^^ BitVec.ofInt 8 (b : Int)).toNat : Int) := rfl
  rw [e2, ofInt_nat, ofInt_nat, e1]
  exact wrap_u8_lt h
/-- The key, of which the first i bytes are xored. -/
def xorN (k : List Nat) (x i : Nat) : List Nat := xorK (k.take i) x ++ k.drop i
theorem xorN_0 (k : List Nat) (x : Nat) : xorN k x 0 = k := by simp [xorN, xorK]
theorem xorN_all (k : List Nat) (x i : Nat) (h : k.length ≤ i) : xorN k x i = xorK k x := by
  simp [xorN, List.take_of_length_le h, List.drop_of_length_le h]
theorem xorN_len (k : List Nat) (x i : Nat) : (xorN k x i).length = k.length := by simp [xorN, xorK]; omega
theorem xorN_get {k : List Nat} {x i a : Nat} (h : k[i]? = some a) : (xorN k x i)[i]? = some a := by
  have hi : i < k.length := (List.getElem?_eq_some_iff.1 h).1
  unfold xorN
  rw [List.getElem?_append_right (by simp [xorK]; omega)]
  have : (xorK (k.take i) x).length = i := by simp [xorK]; omega
  rw [this, Nat.sub_self, List.getElem?_drop]
  exact h
theorem xorN_set {k : List Nat} {x i a : Nat} (h : k[i]? = some a) : (xorN k x i).set i (a ^^^ x) = xorN k x (i + 1) := by
  have hi : i < k.length := (List.getElem?_eq_some_iff.1 h).1
  have hl : (xorK (k.take i) x).length = i := by simp [xorK]; omega
  unfold xorN
  rw [List.set_append_right _ _ (by omega), hl, Nat.sub_self]
  have h1 : k.drop i = a :: k.drop (i + 1) := by
    rw [List.drop_eq_getElem_cons hi]
    congr 1
    have := List.getElem?_eq_getElem hi
    rw [this] at h; exact Option.some.inj h
  rw [h1, List.set_cons_zero, List.take_add_one, h]
  simp [xorK]
def lsP (ls : List (List Nat)) : List PV := ls.map fun b => .sl 1 (bytes b)
theorem lsP_len (ls : List (List Nat)) : (lsP ls).length = ls.length := by simp [lsP]
attribute [go_sem] lsP_len
theorem lsP_get {ls : List (List Nat)} {i : Nat} {b : List Nat} (h : ls[i]? = some b) : (lsP ls)[i]? = some (.sl 1 (bytes b)) := by
  unfold lsP; rw [List.getElem?_map, h]; rfl
theorem bcs_get {l : List Nat} {i a : Nat} (h : l[i]? = some a) : ((bytes l).map SV.pv)[i]? = some (.pv (.int .u8 (a : Int))) := by
  rw [List.getElem?_map, bytes_getS h]; rfl
theorem bcs_set (l : List Nat) (i a : Nat) : ((bytes l).map SV.pv).set i (.pv (.int .u8 (a : Int))) = (bytes (l.set i a)).map SV.pv := by
  rw [← bytes_set, List.map_set]
theorem bcs_len (l : List Nat) : ((bytes l).map SV.pv).length = l.length := by simp [bytes_length]
theorem setCells_b (z k : List Nat) (h : k.length ≤ z.length) : setCells ((bytes z).map SV.pv) ((bytes k).map SV.pv) 0 = (bytes (k ++ z.drop k.length)).map SV.pv := by
  simp only [setCells, List.take_zero, List.nil_append, bcs_len, Nat.zero_add]
  rw [← bytes_append, List.map_append, ← bytes_drop, List.map_drop]
end Go.Ck
namespace Go.Ck
theorem flat_takeH (ls : List (List Nat)) (j : Nat) (b : List Nat) (h : ls[j]? = some b) : (ls.take (j + 1)).flatten = (ls.take j).flatten ++ b := by
  rw [List.take_add_one, h]; simp
theorem flat_le (ls : List (List Nat)) (j : Nat) : (ls.take j).flatten.length ≤ ls.flatten.length := by
  conv => rhs; rw [← List.take_append_drop j ls, List.flatten_append, List.length_append]
  omega
theorem fold_take (ls : List (List Nat)) (j : Nat) (b : List Nat) (h : ls[j]? = some b) (s : HS) : (ls.take (j + 1)).foldl wr s = wr ((ls.take j).foldl wr s) b := by
  rw [List.take_add_one, h]; simp
theorem kof_copy (key : List Nat) : kof key ++ (List.replicate 64 0).drop (kof key).length = kpad key := by
  unfold kpad; rw [List.drop_replicate]
end Go.Ck
namespace Go.Ck
def z64 : List Nat := List.replicate 64 0
theorem z64_len : z64.length = 64 := rfl
theorem kof_copyZ (key : List Nat) : kof key ++ z64.drop (kof key).length = kpad key := kof_copy key
end Go.Ck
namespace Go.Ck
/-- The pieces of an expansion. -/
def hpc (key info : List Nat) : Nat → List Nat
  | 0 => []
  | i + 1 => hmac key (hpc key info i ++ info ++ [(i + 1) % 256])
theorem hpc_len (key info : List Nat) (i : Nat) : (hpc key info i).length ≤ 32 := by
  cases i with
  | zero => simp [hpc]
  | succ i => simp [hpc, hmac_len]
theorem hpc_1 (key info : List Nat) : hpc key info 1 = hmac key (info ++ [1]) := by simp [hpc]
theorem hpc_1len (key info : List Nat) : (hpc key info 1).length = 32 := by rw [hpc_1, hmac_len]
theorem hpc_flat (key info : List Nat) (i : Nat) : hpc key info (i + 1) = hmac key ([hpc key info i, info, [(i + 1) % 256]] : List (List Nat)).flatten := by simp [hpc]
def hpcs (key info : List Nat) (i : Nat) : Option (List PV) := some [.sl 1 (bytes (hpc key info (i + 1)))]
end Go.Ck
namespace Go.Ck
end Go.Ck

set_option linter.unusedVariables false
set_option maxRecDepth 100000
set_option maxHeartbeats 400000
namespace Go.Ck
open Go.Proofs
theorem summed_fn (k : List Nat) (x : Nat) (ls : List (List Nat)) (hk : k.length = 64) (hkb : ∀ y ∈ k, y < 256) (hx : x < 256) (hl : ls.flatten.length < 2 ^ 58) (hln : ls.length < 2 ^ 40) : Fn Try.prog 83 [] [.pv (.agg (bytes k)), .pv (.int .u8 x), .pv (.sl 1 (lsP ls))] (fun rs H' => rs = [.pv (.sl 1 (bytes (sha (xorK k x ++ ls.flatten))))] ∧ H' = []) := by
  refine Fn.of_body (fn := Try.f83) (n := 38) (res := [.tmp 6]) (by kernel_rfl) rfl rfl rfl rfl rfl (fun C => ?_)
  refine AW.go ?_
  refine AW.loopS (fun i : Nat => ⟨38, [(13, .pv (.int .i64 i)), (1, .pv (.int .u8 x)), (2, .pv (.sl 1 (lsP ls))), (3, .ptr 3 0), (7, .ptr 12 0)], [(3, .cells 110 ((bytes (xorN k x i)).map SV.pv)), (12, .cells 135 (hsC h00))]⟩) (fun i => i ≤ 64) (fun i => 64 - i) [13, 1, 2, 3, 7] [3, 12] 0 (by omega) ?_ (hs := by simp only [go_sem, ↓reduceIte, xorN_0] <;> rfl)
  rintro i hi K hK
  refine AW.go ?_
  refine AW.cond rfl (fun hc => ?_) (fun hc => ?_)
  · have hlt : i < 64 := by have := of_decide_eq_true hc; omega
    have l1 : (i < 64) = True := eq_true hlt
    obtain ⟨a, ha⟩ : ∃ a, k[i]? = some a := ⟨k[i], List.getElem?_eq_getElem (by omega)⟩
    have ha256 : a < 256 := hkb a (List.mem_of_getElem? ha)
    have g1 := bcs_get (xorN_get (x := x) ha)
    have g2 : ((bytes (xorN k x i)).map SV.pv).length = 64 := by rw [bcs_len, xorN_len, hk]
    have g2' : (xorN k x i).length = 64 := by rw [xorN_len, hk]
    have g3 : ((bytes (xorN k x i)).map SV.pv).set i (.pv (.int .u8 ((a ^^^ x : Nat) : Int))) = (bytes (xorN k x (i + 1))).map SV.pv := by rw [bcs_set, xorN_set ha]
    have g4 := ibits_xor8 (a := a) (b := x) ha256 hx
    have e6 : IntKind.i64.wrap ((i : Int) + 1) = ((i + 1 : Nat) : Int) := wrap_i64_succ (by omega)
    refine AW.go ?_ (by simp only [go_sem, ↓reduceIte, l1, g1, g2, g2', g3, g4, e6, List.length_map] <;> rfl)
    exact AW.again hK (i + 1) (by omega) (by omega)
  have hge : i = 64 := by have := of_decide_eq_false hc; omega
  subst hge
  rw [xorN_all _ _ _ (by omega)]
  have hkl : (xorK k x).length = 64 := by rw [xorK_len, hk]
  generalize xorK k x = kk at *
  refine AW.go ?_
  refine AW.sliceO (off := 0) (l := 0) (h := 64) rfl rfl rfl rfl rfl rfl rfl (by omega) (by omega) (by omega) ⟨_, rfl⟩ ?_ (hT := tk_110)
  have hlo : (((bytes kk).map SV.pv).drop (0 + 0)).take (64 - 0) = (bytes kk).map SV.pv := take_all _ _ (by rw [bcs_len, hkl])
  refine AW.callE (args := [.ptr 1000 0, .pv (.sl 1 (bytes kk))]) (fun _ => 12) (Write_fn h00 kk rfl (by show 0 + kk.length < 2 ^ 60; omega)) (.ptr rfl (.lendO rfl hlo (by rw [bytes_length, hkl]) (all_one_bytes kk) (le_maxLen 64) .nil)) ?_
  have h1 := (HC.zero).wr (b := kk)
  rw [List.nil_append] at h1
  generalize wr h00 kk = h at *
  refine AW.go ?_
  refine AW.loopS (fun j : Nat => ⟨38, [(28, .pv (.int .i64 j)), (26, .pv (.sl 1 (lsP ls))), (27, .pv (.int .i64 ls.length)), (7, .ptr 12 0)], [(12, .cells 135 (hsC ((ls.take j).foldl wr h)))]⟩) (fun j => j ≤ ls.length ∧ HC (kk ++ (ls.take j).flatten) ((ls.take j).foldl wr h)) (fun j => ls.length - j) [28, 26, 27, 7] [12] 0 ⟨by omega, by simpa using h1.1⟩ ?_
  rintro j ⟨hj, hc1⟩ K hK
  refine AW.go ?_
  refine AW.cond rfl (fun hc => ?_) (fun hc => ?_)
  · have hlt : j < ls.length := by have := of_decide_eq_true hc; omega
    obtain ⟨b, hb⟩ : ∃ b, ls[j]? = some b := ⟨ls[j], List.getElem?_eq_getElem hlt⟩
    have g1 := lsP_get hb
    have hft := flat_takeH ls j b hb
    have hfo := fold_take ls j b hb h
    have hfl := flat_le ls (j + 1)
    rw [hft, List.length_append] at hfl
    have hc2 := (hc1.wr (b := b)).1
    have hn1 := hc1.n
    have hp1 := hc1.len
    rw [List.length_append] at hn1
    rw [List.append_assoc, ← hft] at hc2
    rw [← hfo] at hc2
    have e6 : IntKind.i64.wrap ((j : Int) + 1) = ((j + 1 : Nat) : Int) := wrap_i64_succ (by omega)
    have l1 : (j < ls.length) = True := eq_true hlt
    generalize (ls.take j).foldl wr h = h1 at *
    refine AW.go ?_ (by simp only [go_sem, ↓reduceIte, g1] <;> rfl)
    refine AW.callE (fun _ => 12) (Write_fn h1 b hp1 (by omega)) (.ptr rfl (.pv _ .nil)) ?_
    refine AW.go ?_ (by simp only [go_sem, ↓reduceIte, e6] <;> rfl)
    exact AW.again hK (j + 1) (by exact ⟨by omega, hc2⟩) (by omega) (hs := by simp only [go_sem, ↓reduceIte, hfo] <;> rfl)
  have hge : j = ls.length := by have := of_decide_eq_false hc; omega
  subst hge
  rw [List.take_length] at *
  refine AW.go ?_
  refine AW.callE (fun _ => 12) (hSum_fn _ _ hc1 (by rw [List.length_append]; omega)) (.ptr rfl .nil) ?_
  refine AW.freeze (p := .slot 37) (by simp only [go_sem, ↓reduceIte, freeze, freezeO] <;> rfl) ?_
  refine AW.go ?_
  refine AW.finE (.pv _ .nil) rfl

theorem all_fn (key : List Nat) (ls : List (List Nat)) (hkb : ∀ x ∈ key, x < 256) (hkl : key.length < 2 ^ 58) (hl : ls.flatten.length < 2 ^ 58) (hln : ls.length < 2 ^ 40) : Fn Try.prog 69 [] [.pv (.sl 1 (bytes key)), .pv (.sl 1 (lsP ls))] (fun rs H' => rs = [.pv (.sl 1 (bytes (hmac key ls.flatten)))] ∧ H' = []) := by
  refine Fn.of_body (fn := Try.f69) (n := 20) (res := [.tmp 4]) (by kernel_rfl) rfl rfl rfl rfl rfl (fun C => ?_)
  have hkl2 := kpad_len key
  have hkb2 := kpad_lt hkb
  have hko := kof_len key
  have hcp := kof_copyZ key
  have hl2 : ([sha (xorK (kpad key) 54 ++ ls.flatten)] : List (List Nat)).flatten.length < 2 ^ 58 := by simp [sha_len]
  have hmac_eq : hmac key ls.flatten = sha (xorK (kpad key) 92 ++ ([sha (xorK (kpad key) 54 ++ ls.flatten)] : List (List Nat)).flatten) := by simp [hmac]
  rw [hmac_eq]
  refine AW.go ?_
  refine AW.joinS (fun _ : Unit => ⟨20, [(0, .pv (.sl 1 (bytes (kof key)))), (1, .pv (.sl 1 (lsP ls))), (5, .ptr 5 0)], [(5, .cells 110 ((bytes z64).map SV.pv))]⟩) (fun _ => True) [0, 1, 5] [5] ?_ ?_
  · intro K hK
    refine AW.cond rfl (fun hc => ?_) (fun hc => ?_)
    · have hlt : 64 < key.length := by have := of_decide_eq_true hc; omega
      have hko : kof key = sha key := if_pos hlt
      refine AW.go ?_
      refine AW.callE (fun _ => 0) (shaSum_fn key (by omega)) (.pv _ .nil) ?_
      refine AW.freeze (p := .slot 10) (by simp only [go_sem, ↓reduceIte, freeze, freezeO] <;> rfl) ?_
      refine AW.go ?_
      exact AW.meet hK () trivial (by simp only [go_sem, ↓reduceIte]) (by simp only [go_sem, ↓reduceIte, hko] <;> rfl)
    · have hlt : ¬ 64 < key.length := by have := of_decide_eq_false hc; omega
      have hko : kof key = key := if_neg hlt
      refine AW.go ?_
      exact AW.meet hK () trivial (by simp only [go_sem, ↓reduceIte]) (by simp only [go_sem, ↓reduceIte, hko] <;> rfl)
  rintro _ -
  generalize kof key = k at *
  refine AW.go ?_
  refine AW.sliceO (off := 0) (l := 0) (h := 64) rfl rfl rfl rfl rfl rfl rfl (by omega) (by omega) (by omega) ⟨_, rfl⟩ ?_ (hT := tk_110)
  refine AW.go ?_
  refine AW.copyO (ez := 0) (off := 0 + 0) (n := 64 - 0) (kk := k.length) (xs := bytes k) rfl rfl ?_ rfl rfl (all_one_bytes k) ?_ ?_ (hT := tk_23)
  · rw [bcs_len, z64_len]; decide
  · rw [bytes_length]; omega
  rw [bytes_take, List.take_length, setCells_b _ _ (by rw [z64_len]; omega), hcp]
  have hlen : ((bytes (kpad key)).map SV.pv).length = 64 := by rw [bcs_len, hkl2]
  have hall : allPV (List.take 64 ((bytes (kpad key)).map SV.pv)) = some (bytes (kpad key)) := by rw [List.take_of_length_le (by omega), allPV_map]
  refine AW.go ?_
  refine AW.calmS ?_
  refine CK.reads [[], [], []] ?_ (by simp only [go_sem, ↓reduceIte, hlen, hall] <;> rfl)
  refine CK.call (ps := [_, _, _]) [15, 16] (summed_fn (kpad key) 54 ls hkl2 hkb2 (by decide) hl hln) ?_
  refine CK.listZ [17] ?_
  refine CK.call (ps := [_, _, _]) [14, 18] (summed_fn (kpad key) 92 [sha (xorK (kpad key) 54 ++ ls.flatten)] hkl2 hkb2 (by decide) hl2 (by simp)) ?_
  refine CK.done (M := 6) 1 mixed ?_
  refine AW.seqs (fuel := 0) (listed' := Array.replicate 7 true) [6] ?_ (by decide +kernel)
  -- 6: t4 := = t19
  refine AW.gg ?_
  refine AW.anyDone (by decide +kernel) ?_
  refine AW.go ?_
  refine AW.finE (.pv _ .nil) rfl

theorem mac_fn (key m : List Nat) (hkb : ∀ x ∈ key, x < 256) (hkl : key.length < 2 ^ 58) (hl : m.length < 2 ^ 58) : Fn Try.prog 49 [] [.pv (.sl 1 (bytes key)), .pv (.sl 1 (bytes m))] (fun rs H' => rs = [.pv (.sl 1 (bytes (hmac key m)))] ∧ H' = []) := by
  refine Fn.of_body (fn := Try.f49) (n := 9) (res := [.tmp 4]) (by kernel_rfl) rfl rfl rfl rfl rfl (fun C => ?_)
  have e : hmac key m = hmac key [m].flatten := by simp
  rw [e]
  refine AW.go ?_
  refine AW.freeze (p := .slot 7) (by simp only [go_sem, ↓reduceIte, freeze, freezeO] <;> rfl) ?_
  refine AW.callE (args := [.pv (.sl 1 (bytes key)), .pv (.sl 1 (lsP [m]))]) (fun _ => 0) (all_fn key [m] hkb hkl (by simpa using hl) (by simp)) (.pv _ (.pv _ .nil)) ?_
  refine AW.go ?_
  refine AW.finE (.pv _ .nil) rfl
end Go.Ck

set_option linter.unusedVariables false
set_option maxRecDepth 10000
namespace Go.Ck
open Go.Proofs
theorem clone_bytes (l : List Nat) (hl : l.length ≤ room) : Fn Try.prog 57 [] [.pv (.sl 1 (bytes l))] (fun rs H' => rs = [.own 5 (bytes l)] ∧ H' = []) := by
  refine Fn.of_body (fn := Try.f57) (n := 8) (res := [.tmp 2]) (by kernel_rfl) rfl rfl rfl rfl rfl (fun C => ?_)
  refine AW.go ?_
  refine AW.eqNil (.inl rfl) rfl rfl rfl tk_23 (by simp only [go_sem, ↓reduceIte] <;> rfl) rfl rfl rfl (fun b hb => ?_)
  refine AW.go ?_
  refine AW.cond (b := b) (by simp only [go_sem, ↓reduceIte] <;> rfl) (fun h1 => ?_) (fun h1 => ?_)
  · have hx : l = [] := by simpa [bytes] using hb h1
    subst hx
    refine AW.go ?_
    refine AW.finE (.move rfl .nil) rfl
  · refine AW.go ?_ (by simp only [go_sem, ↓reduceIte, hl] <;> rfl)
    refine AW.finE (.move rfl .nil) rfl

theorem with_fn (xs ys : List Nat) (hl : xs.length + ys.length ≤ room) : Fn Try.prog 58 [] [.own 5 (bytes xs), .pv (.sl 1 (bytes ys))] (fun rs H' => rs = [.own 5 (bytes (xs ++ ys))] ∧ H' = []) := by
  refine Fn.of_body (fn := Try.f58) (n := 8) (res := [.tmp 4]) (by kernel_rfl) rfl rfl rfl rfl rfl (fun C => ?_)
  refine AW.go ?_ (by simp only [go_sem, ↓reduceIte, hl] <;> rfl)
  refine AW.finE (.move rfl .nil) rfl
end Go.Ck

set_option linter.unusedVariables false
namespace Go.Ck
def leb (v : Nat) : List Nat := if v < 128 then [v] else (v % 128 + 128) :: leb (v / 128)
termination_by v
decreasing_by omega
theorem leb_lt {v : Nat} (h : v < 128) : leb v = [v] := by rw [leb, if_pos h]
theorem leb_ge {v : Nat} (h : ¬ v < 128) : leb v = (v % 128 + 128) :: leb (v / 128) := by rw [leb, if_neg h]
theorem leb_pos (v : Nat) : 0 < (leb v).length := by
  by_cases h : v < 128
  · rw [leb_lt h]; simp
  · rw [leb_ge h]; simp
theorem leb_len (n : Nat) : ∀ v, v < 128 ^ (n + 1) → (leb v).length ≤ n + 1 := by
  induction n with
  | zero => intro v h; rw [leb_lt (by omega)]; simp
  | succ n ih =>
    intro v h
    by_cases h1 : v < 128
    · rw [leb_lt h1]; simp
    · rw [leb_ge h1, List.length_cons]
      have := ih (v / 128) (by rw [Nat.div_lt_iff_lt_mul (by omega)]; rw [Nat.pow_succ] at h; omega)
      omega
theorem leb_len10 {v : Nat} (h : v < 2 ^ 64) : (leb v).length ≤ 10 := leb_len 9 v (by omega)
theorem leb_byte (v : Nat) : ∀ x ∈ leb v, x < 256 := by
  induction v using Nat.strongRecOn with
  | _ v ih =>
    by_cases h : v < 128
    · rw [leb_lt h]; simp; omega
    · rw [leb_ge h]
      intro x hx
      rcases List.mem_cons.1 hx with rfl | hx
      · omega
      · exact ih (v / 128) (by omega) x hx
theorem or128 {x : Nat} (h : x < 256) : x ||| 128 = x % 128 + 128 := by
  have : ∀ x : Fin 256, x.val ||| 128 = x.val % 128 + 128 := by decide +kernel
  exact this ⟨x, h⟩
end Go.Ck
namespace Go.Ck
/-- A number out of bytes; how many bytes it took; why there is none. -/
def rdv : Nat → Nat → List Nat → Nat × Nat × Int
  | _, _, [] => (0, 0, 2)
  | k, acc, x :: r => if k = 9 ∧ 1 < x then (0, 0, 3) else if 128 ≤ x then rdv (k + 1) (acc + x % 128 * 128 ^ k) r else if x = 0 ∧ 0 < k then (0, 0, 3) else (acc + x * 128 ^ k, k + 1, 0)
def readV (b : List Nat) : Nat × Nat × Int := rdv 0 0 (b.take 10)

theorem rdv_bound : ∀ (l : List Nat) (k acc : Nat), (rdv k acc l).2.1 ≤ k + l.length ∧ ((rdv k acc l).2.2 ≠ 0 → (rdv k acc l).1 = 0 ∧ (rdv k acc l).2.1 = 0) ∧ (rdv k acc l).2.1 ≤ k + l.length
  | [], k, acc => by simp [rdv]
  | x :: r, k, acc => by
    simp only [rdv]
    split
    · simp
    · split
      · have := rdv_bound r (k + 1) (acc + x % 128 * 128 ^ k)
        simp only [List.length_cons]
        refine ⟨by omega, this.2.1, by omega⟩
      · split
        · simp
        · simp
theorem readV_le (b : List Nat) : (readV b).2.1 ≤ b.length := by
  have := (rdv_bound (b.take 10) 0 0).1
  simp at this
  unfold readV
  omega
theorem rdv_lt : ∀ (l : List Nat) (k acc : Nat), k + l.length ≤ 10 → (∀ x ∈ l, x < 256) → acc < 128 ^ k → (rdv k acc l).1 < 2 ^ 64
  | [], k, acc, _, _, _ => by simp [rdv]
  | x :: r, k, acc, hk, hx, ha => by
    have hx0 := hx x (by simp)
    simp only [List.length_cons] at hk
    have hp : 128 ^ (k + 1) = 128 ^ k * 128 := Nat.pow_succ ..
    simp only [rdv]
    split
    · simp
    · rename_i h9
      split
      · refine rdv_lt r (k + 1) _ (by omega) (fun y hy => hx y (by simp [hy])) ?_
        rw [hp]
        have h1 : x % 128 * 128 ^ k ≤ 127 * 128 ^ k := Nat.mul_le_mul_right _ (by omega)
        omega
      · split
        · simp
        · simp only
          by_cases hk9 : k = 9
          · subst hk9
            have : x ≤ 1 := by omega
            have h1 : x * 128 ^ 9 ≤ 1 * 128 ^ 9 := Nat.mul_le_mul_right _ this
            omega
          · have h2 : 128 ^ k ≤ 128 ^ 8 := Nat.pow_le_pow_right (by omega) (by omega)
            have h1 : x * 128 ^ k ≤ 127 * 128 ^ k := Nat.mul_le_mul_right _ (by omega)
            omega
theorem readV_lt {b : List Nat} (hb : ∀ x ∈ b, x < 256) : (readV b).1 < 2 ^ 64 := rdv_lt _ 0 0 (by simp; omega) (fun x hx => hb x (List.mem_of_mem_take hx)) (by simp)
theorem andNot128 {x : Nat} (h : x < 256) : ibits .andNot .u8 (x : Int) 128 = ((x % 128 : Nat) : Int) := by
  have : ∀ x : Fin 256, ibits .andNot .u8 ((x.val : Nat) : Int) 128 = ((x.val % 128 : Nat) : Int) := by decide +kernel
  exact this ⟨x, h⟩
theorem or_shift {a x k : Nat} (ha : a < 128 ^ k) (hx : x * 128 ^ k < 2 ^ 64) (ha2 : a < 2 ^ 64) (hk : 7 * k ≤ 64) : ibits .or .u64 (a : Int) (shlI .u64 (x : Int) ((7 * k : Nat) : Int)) = ((a + x * 128 ^ k : Nat) : Int) := by
  have hp : (2 : Nat) ^ (7 * k) = 128 ^ k := by rw [Nat.pow_mul]
  rw [shlI_nat64 _ _ hk, hp, Nat.mod_eq_of_lt hx, ibits_or64 ha2 hx]
  congr 1
  have := Nat.two_pow_add_eq_or_of_lt (i := 7 * k) (b := a) (by rw [hp]; exact ha) x
  rw [hp] at this
  rw [Nat.or_comm, Nat.mul_comm x, ← this, Nat.add_comm]
end Go.Ck

set_option linter.unusedVariables false
set_option maxRecDepth 10000
namespace Go.Ck
open Go.Proofs
theorem append_fn (b : List Nat) (v : Nat) (hv : v < 2 ^ 64) (hl : b.length + 10 ≤ room) : Fn Try.prog 24 [] [.pv (.sl 1 (bytes b)), .pv (.int .u64 v)] (fun rs H' => rs = [.own 5 (bytes (b ++ leb v))] ∧ H' = []) := by
  refine Fn.of_body (fn := Try.f24) (n := 23) (res := [.tmp 4]) (by kernel_rfl) rfl rfl rfl rfl rfl (fun C => ?_)
  refine AW.go ?_
  refine AW.callE (fun _ => 0) (clone_bytes b (by omega)) (.pv _ .nil) ?_
  refine AW.go ?_
  have hlen := leb_len10 hv
  refine AW.loopS (fun a : List Nat × Nat => ⟨23, [(5, .own 5 (bytes a.1)), (1, .pv (.int .u64 a.2))], []⟩) (fun a => a.1 ++ leb a.2 = b ++ leb v ∧ a.2 < 2 ^ 64) (fun a => a.2) [5, 1] [] (b, v) ⟨rfl, hv⟩ ?_
  rintro ⟨o, u⟩ ⟨ho, hu⟩ K hK
  simp only at ho hu
  have hol : o.length + (leb u).length = b.length + (leb v).length := by rw [← List.length_append, ho, List.length_append]
  have hup := leb_pos u
  refine AW.go ?_
  refine AW.cond rfl (fun hb => ?_) (fun hb => ?_)
  · have hge : ¬ u < 128 := by simp at hb; omega
    refine AW.go ?_
    have e1 : ibits .or .u8 (IntKind.u8.wrap (u : Int)) 128 = ((u % 128 + 128 : Nat) : Int) := by
      rw [wrap_u8]
      have := ibits_or8 (a := u % 256) (b := 128) (by omega) (by omega)
      rw [or128 (by omega)] at this
      refine this.trans ?_
      congr 2; omega
    rw [e1]
    refine AW.callE (fun _ => 0) (with_fn o [u % 128 + 128] (by simp; omega)) (.move rfl (.lend rfl co_5 .nil)) ?_
    refine AW.go ?_
    have e2 : shrI .u64 (u : Int) 7 = ((u / 128 : Nat) : Int) := shrI_nat .u64 u 7 (by decide)
    refine AW.again hK (o ++ [u % 128 + 128], u / 128) ⟨?_, by simp only; omega⟩ (by simp only; omega) (by simp only [go_sem, ↓reduceIte]) (by simp only [go_sem, ↓reduceIte, e2])
    simp only [List.append_assoc, List.singleton_append]
    rw [← leb_ge hge, ho]
  · have hlt : u < 128 := by simp at hb; omega
    refine AW.go ?_
    have e1 : IntKind.u8.wrap (u : Int) = ((u : Nat) : Int) := wrap_u8_lt (by omega)
    rw [e1]
    refine AW.callE (fun _ => 0) (with_fn o [u] (by simp; omega)) (.move rfl (.lend rfl co_5 .nil)) ?_
    refine AW.go ?_
    refine AW.finE (.move rfl .nil) ?_
    rw [← ho, leb_lt hlt]
end Go.Ck

set_option linter.unusedVariables false
set_option maxRecDepth 10000
namespace Go.Ck
open Go.Proofs
abbrev curO (l : List Nat) : List (Nat × HO) := [(1000, .cells 87 [.pv (.sl 1 (bytes l))])]

attribute [go_sem] curO
theorem curNew_fn (l : List Nat) (hl : l.length ≤ room) : Fn Try.prog 33 [] [.pv (.sl 1 (bytes l))] (fun rs H' => rs = [.ptr 7 0] ∧ H' = [(7, .cells 87 [.pv (.sl 1 (bytes l))])]) := by
  refine Fn.of_body (fn := Try.f33) (n := 8) (res := [.tmp 2]) (by kernel_rfl) rfl rfl rfl rfl rfl (fun C => ?_)
  refine AW.go ?_
  refine AW.callE (fun _ => 0) (clone_bytes l hl) (.pv _ .nil) ?_
  refine AW.go ?_
  refine AW.finE (.ptr rfl .nil) rfl

theorem left_fn (l : List Nat) : Fn Try.prog 64 (curO l) [.ptr 1000 0] (fun rs H' => rs = [.pv (.int .i64 l.length)] ∧ H' = curO l) := by
  refine Fn.of_body (fn := Try.f64) (n := 8) (res := [.tmp 2]) (by kernel_rfl) rfl rfl rfl rfl rfl (fun C => ?_)
  refine AW.go ?_
  refine AW.finE (.pv _ .nil) rfl

theorem take_fn (l : List Nat) (n : Nat) (hn : n ≤ l.length) (hl : l.length ≤ room) : Fn Try.prog 78 (curO l) [.ptr 1000 0, .pv (.int .i64 n)] (fun rs H' => rs = [.own 5 (bytes (l.take n))] ∧ H' = curO (l.drop n)) := by
  refine Fn.of_body (fn := Try.f78) (n := 23) (res := [.tmp 4]) (by kernel_rfl) rfl rfl rfl rfl rfl (fun C => ?_)
  refine AW.go ?_ (by simp only [go_sem, ↓reduceIte, hn] <;> rfl)
  refine AW.callE (fun _ => 0) (clone_bytes (l.take n) (by simp; omega)) (.pv _ .nil) ?_
  have e : (((l.length : Int) - (n : Int)).toNat) = l.length - n := by omega
  have e2 : (bytes (l.drop n)).take (l.length - n) = bytes (l.drop n) := List.take_of_length_le (by simp [bytes])
  refine AW.go ?_ (by simp only [go_sem, ↓reduceIte, hn, e]; rw [← bytes_take, e2] <;> rfl)
  refine AW.finE (.move rfl .nil) rfl
end Go.Ck

set_option linter.unusedVariables false
set_option maxRecDepth 10000
namespace Go.Ck
open Go.Proofs
theorem curEnd_fn (l : List Nat) : Fn Try.prog 41 (curO l) [.ptr 1000 0] (fun rs H' => rs = [.pv (.int .i64 (if l = [] then 0 else 3))] ∧ H' = curO l) := by
  refine Fn.of_body (fn := Try.f41) (n := 12) (res := [.tmp 2]) (by kernel_rfl) rfl rfl rfl rfl rfl (fun C => ?_)
  refine AW.go ?_
  refine AW.condF rfl ?_
  refine AW.go ?_
  refine AW.callE id (left_fn l) (.ptr rfl .nil) ?_
  refine AW.go ?_
  refine AW.cond rfl (fun hb => ?_) (fun hb => ?_)
  · refine AW.go ?_
    refine AW.finE (.pv _ .nil) ?_
    rw [if_neg (by rintro rfl; simp at hb)]
  · refine AW.go ?_
    refine AW.finE (.pv _ .nil) ?_
    rw [if_pos (by simpa using hb)]

theorem curBytes_fn (l : List Nat) (n : Nat) (hl : l.length ≤ room) : Fn Try.prog 60 (curO l) [.ptr 1000 0, .pv (.int .i64 n)]
    (fun rs H' => rs = [.own 5 (bytes (if n ≤ l.length then l.take n else [])), .pv (.int .i64 (if n ≤ l.length then 0 else 2))] ∧ H' = curO (if n ≤ l.length then l.drop n else l)) := by
  refine Fn.of_body (fn := Try.f60) (n := 25) (res := [.tmp 4, .tmp 5]) (by kernel_rfl) rfl rfl rfl rfl rfl (fun C => ?_)
  refine AW.gg ?_
  refine AW.condF rfl ?_
  refine AW.go ?_
  refine AW.callE id (left_fn l) (.ptr rfl .nil) ?_
  refine AW.go ?_
  refine AW.cond rfl (fun hb => ?_) (fun hb => ?_)
  · have hn : ¬ n ≤ l.length := by simp at hb; omega
    simp only [if_neg hn]
    refine AW.go ?_
    refine AW.finE (.move rfl (.pv _ .nil)) rfl
  · have hn : n ≤ l.length := by simp at hb; omega
    simp only [if_pos hn]
    refine AW.go ?_
    refine AW.callE id (take_fn l n hn hl) (.ptr rfl (.pv _ .nil)) ?_
    refine AW.go ?_
    refine AW.finE (.move rfl (.pv _ .nil)) rfl
end Go.Ck

set_option linter.unusedVariables false
set_option maxRecDepth 10000
namespace Go.Ck
open Go.Proofs
theorem via {T Q : Prop} (h : (Unit → T) → Q) (t : T) : Q := h (fun _ => t)
theorem read_fn (b : List Nat) (hb : ∀ x ∈ b, x < 256) : Fn Try.prog 79 [] [.pv (.sl 1 (bytes b))] (fun rs H' => rs = [.pv (.int .u64 ((readV b).1 : Nat)), .pv (.int .i64 ((readV b).2.1 : Nat)), .pv (.int .i64 (readV b).2.2)] ∧ H' = []) := by
  refine Fn.of_body (fn := Try.f79) (n := 47) (res := [.tmp 2, .tmp 3, .tmp 4]) (by kernel_rfl) rfl rfl rfl rfl rfl (fun C => ?_)
  have hm : (if (10 : Int) < (b.length : Int) then (10 : Int) else (b.length : Int)) = ((b.take 10).length : Nat) := by
    rw [List.length_take]; split <;> omega
  have h1 : (b.take 10).length ≤ b.length := by simp; omega
  have h2 : b.take (b.take 10).length = b.take 10 := by rw [List.length_take]; simp [List.take_eq_take_iff]
  refine AW.go ?_ (by simp only [go_sem, ↓reduceIte, hm, h1, h2] <;> rfl)
  have hbb : ∀ x ∈ b.take 10, x < 256 := fun x hx => hb x (List.mem_of_mem_take hx)
  have hlen : (b.take 10).length ≤ 10 := by simp; omega
  unfold readV
  generalize b.take 10 = c at hbb hlen ⊢
  refine AW.loopS (fun a : Nat × Nat => ⟨47, [(14, .pv (.int .i64 a.1)), (5, .pv (.int .u64 a.2)), (12, .pv (.sl 1 (bytes c))), (13, .pv (.int .i64 c.length))], []⟩) (fun a => a.1 ≤ c.length ∧ rdv a.1 a.2 (c.drop a.1) = rdv 0 0 c ∧ a.2 < 128 ^ a.1) (fun a => c.length - a.1) [14, 5, 12, 13] [] (0, 0) ⟨Nat.zero_le _, rfl, by simp⟩ ?_
  rintro ⟨i, v⟩ ⟨hi, hr, hv⟩ K hK
  simp only at hi hr hv
  refine AW.go ?_
  refine AW.cond rfl (fun hc => ?_) (fun hc => ?_)
  · have hlt : i < c.length := by simpa using hc
    have hx := hbb c[i] (List.getElem_mem hlt)
    have hget := bytes_get hlt
    rw [List.drop_eq_getElem_cons hlt] at hr
    simp only [rdv] at hr
    generalize c[i] = x at hx hget hr
    have hvlt : v < 2 ^ 64 := by
      have : 128 ^ i ≤ 128 ^ 9 := Nat.pow_le_pow_right (by omega) (by omega)
      omega
    have hp : 128 ^ (i + 1) = 128 ^ i * 128 := Nat.pow_succ ..
    have e9 : ((i : Int) == 9) = decide (i = 9) := by rw [Bool.eq_iff_iff]; simp; omega
    have e1 : decide ((x : Int) > 1) = decide (1 < x) := by rw [Bool.eq_iff_iff]; simp; omega
    have e7 : IntKind.i64.wrap (7 * (i : Int)) = ((7 * i : Nat) : Int) := by rw [wrap_i64_of (by omega) (by omega)]; omega
    have hu : IntKind.u64.wrap ((x % 128 : Nat) : Int) = ((x % 128 : Nat) : Int) := wrap_u64_lt (by omega)
    have ei : IntKind.i64.wrap ((i : Int) + 1) = ((i + 1 : Nat) : Int) := wrap_i64_succ (by omega)
    by_cases h9 : i = 9 ∧ 1 < x
    · obtain ⟨k1, k2⟩ := h9
      rw [if_pos ⟨k1, k2⟩] at hr
      have b1 : decide (i = 9) = true := by simpa using k1
      have b2 : decide (1 < x) = true := by simpa using k2
      refine AW.gg ?_ (by simp only [go_sem, ↓reduceIte, hget, e9, e1, b1, b2] <;> rfl)
      refine AW.condT rfl ?_
      refine AW.go ?_
      refine AW.finE (.pv _ (.pv _ (.pv _ .nil))) ?_
      rw [← hr]; rfl
    · rw [if_neg h9] at hr
      have ea : ibits .andNot .u8 (x : Int) 128 = ((x % 128 : Nat) : Int) := andNot128 hx
      have hi9 : i ≤ 9 := by omega
      have hpw : 128 ^ i ≤ 128 ^ 9 := Nat.pow_le_pow_right (by omega) hi9
      have hxs : x % 128 * 128 ^ i < 2 ^ 64 := by
        by_cases k : i = 9
        · subst k
          have : x ≤ 1 := by omega
          have h1 : x % 128 * 128 ^ 9 ≤ 1 * 128 ^ 9 := Nat.mul_le_mul_right _ (by omega)
          omega
        · have h2 : 128 ^ i ≤ 128 ^ 8 := Nat.pow_le_pow_right (by omega) (by omega)
          have h1 : x % 128 * 128 ^ i ≤ 127 * 128 ^ i := Nat.mul_le_mul_right _ (by omega)
          omega
      have eo := or_shift (a := v) (x := x % 128) (k := i) hv hxs hvlt (by omega)
      refine via (T := ?T) (fun hT => ?_) ?_
      rotate_left
      · by_cases k : i = 9
        · have b1 : decide (i = 9) = true := by simpa using k
          refine AW.gg ?_ (by simp only [go_sem, ↓reduceIte, hget, e9, b1] <;> rfl)
          refine AW.cond rfl (fun hc2 => absurd ⟨k, by simp at hc2; omega⟩ h9) (fun hc2 => ?_)
          refine AW.keepB [5, 6, 7, 12, 13, 14] [] (by simp only [go_sem, ↓reduceIte]) (by simp only [go_sem, ↓reduceIte] <;> rfl) ?_
          exact hT ()
        · have b1 : decide (i = 9) = false := by simpa using k
          refine AW.gg ?_ (by simp only [go_sem, ↓reduceIte, hget, e9, b1] <;> rfl)
          refine AW.condF rfl ?_
          refine AW.keepB [5, 6, 7, 12, 13, 14] [] (by simp only [go_sem, ↓reduceIte]) (by simp only [go_sem, ↓reduceIte] <;> rfl) ?_
          exact hT ()
      refine AW.go ?_ (by simp only [go_sem, ↓reduceIte, ea, e7, hu, eo] <;> rfl)
      refine AW.cond rfl (fun hc2 => ?_) (fun hc2 => ?_)
      · have h128 : 128 ≤ x := by simp at hc2; omega
        rw [if_pos h128] at hr
        refine AW.go ?_ (by simp only [go_sem, ↓reduceIte, ei] <;> rfl)
        refine AW.again hK (i + 1, v + x % 128 * 128 ^ i) ⟨hlt, hr, ?_⟩ (by simp only; omega)
        simp only
        rw [hp]
        have h1 : x % 128 * 128 ^ i ≤ 127 * 128 ^ i := Nat.mul_le_mul_right _ (by omega)
        omega
      · have h128 : ¬ 128 ≤ x := by simp at hc2; omega
        rw [if_neg h128] at hr
        have hxm : x % 128 = x := Nat.mod_eq_of_lt (by omega)
        have e0 : ((x : Int) == 0) = decide (x = 0) := by rw [Bool.eq_iff_iff]; simp
        have ep : decide ((i : Int) > 0) = decide (0 < i) := by rw [Bool.eq_iff_iff]; simp
        rw [hxm]
        by_cases k0 : x = 0
        · have b1 : decide (x = 0) = true := by simpa using k0
          refine AW.gg ?_ (by simp only [go_sem, ↓reduceIte, e0, b1] <;> rfl)
          refine AW.cond rfl (fun hc3 => ?_) (fun hc3 => ?_)
          · have : 0 < i := by simp at hc3; omega
            rw [if_pos ⟨k0, this⟩] at hr
            refine AW.go ?_
            refine AW.finE (.pv _ (.pv _ (.pv _ .nil))) ?_
            rw [← hr]; rfl
          · have : ¬ 0 < i := by simp at hc3; omega
            rw [if_neg (fun h => this h.2)] at hr
            refine AW.go ?_ (by simp only [go_sem, ↓reduceIte, ei] <;> rfl)
            refine AW.finE (.pv _ (.pv _ (.pv _ .nil))) ?_
            rw [← hr]
        · have b1 : decide (x = 0) = false := by simpa using k0
          refine AW.gg ?_ (by simp only [go_sem, ↓reduceIte, e0, b1] <;> rfl)
          refine AW.condF rfl ?_
          rw [if_neg (fun h => k0 h.1)] at hr
          refine AW.go ?_ (by simp only [go_sem, ↓reduceIte, ei] <;> rfl)
          refine AW.finE (.pv _ (.pv _ (.pv _ .nil))) ?_
          rw [← hr]
  · have hge : ¬ i < c.length := by simpa using hc
    rw [List.drop_eq_nil_of_le (by omega), rdv] at hr
    refine AW.go ?_
    refine AW.finE (.pv _ (.pv _ (.pv _ .nil))) ?_
    rw [← hr]; rfl
end Go.Ck

set_option linter.unusedVariables false
namespace Go.Ck
/-- Bytes, the first the greatest. -/
def beN (l : List Nat) : Nat := l.foldl (fun a x => a * 256 + x) 0
theorem beN_snoc (l : List Nat) (x : Nat) : beN (l ++ [x]) = beN l * 256 + x := by simp [beN]
theorem beN_lt (l : List Nat) (h : ∀ x ∈ l, x < 256) : beN l < 256 ^ l.length := by
  have : ∀ (n : Nat) (l : List Nat), l.length = n → (∀ x ∈ l, x < 256) → beN l < 256 ^ n := by
    intro n
    induction n with
    | zero => intro l hl _; rw [List.length_eq_zero_iff.1 hl]; simp [beN]
    | succ n ih =>
      intro l hl h
      have hne : l ≠ [] := by rintro rfl; simp at hl
      rw [← List.dropLast_concat_getLast hne, beN_snoc]
      have h1 := ih l.dropLast (by simp; omega) (fun x hx => h x (List.dropLast_subset l hx))
      have h2 := h _ (List.getLast_mem hne)
      rw [Nat.pow_succ]
      omega
  exact this _ l rfl h
/-- A number in n bytes. -/
def beB (v : Nat) : Nat → List Nat
  | 0 => []
  | n + 1 => (v / 256 ^ n % 256) :: beB v n
theorem beB_len (v n : Nat) : (beB v n).length = n := by induction n with | zero => rfl | succ n ih => simp [beB, ih]
theorem beB_byte (v n : Nat) : ∀ x ∈ beB v n, x < 256 := by
  induction n with
  | zero => simp [beB]
  | succ n ih => intro x hx; rcases List.mem_cons.1 hx with rfl | hx
                 · omega
                 · exact ih x hx
theorem or_lt256 {a x : Nat} (ha : a < 2 ^ 56) (hx : x < 256) : ibits .or .u64 (shlI .u64 (a : Int) 8) (x : Int) = ((a * 256 + x : Nat) : Int) := by
  have h8 : ((8 : Nat) : Int) = 8 := rfl
  have := shlI_nat64 a 8 (by omega)
  rw [h8] at this
  rw [this, show (2 : Nat) ^ 8 = 256 from rfl, Nat.mod_eq_of_lt (by omega), ibits_or64 (by omega) (by omega)]
  congr 1
  have := Nat.two_pow_add_eq_or_of_lt (i := 8) (b := x) (by omega) a
  rw [Nat.mul_comm a, ← this]
/-- The next block: bytes, why not, what is left. -/
def blk (l : List Nat) (m : Nat) : List Nat × Int × List Nat :=
  if (readV l).2.2 ≠ 0 then ([], (readV l).2.2, l) else if m < (readV l).1 then ([], 4, l) else if l.length - (readV l).2.1 < (readV l).1 then ([], 2, l)
  else ((l.drop (readV l).2.1).take (readV l).1, 0, l.drop ((readV l).2.1 + (readV l).1))
end Go.Ck
namespace Go.Ck
theorem rdv_take : ∀ (l : List Nat) (k acc n : Nat), k ≤ 9 → k + n = 10 → rdv k acc (l.take n) = rdv k acc l
  | [], k, acc, n, hk, h => by simp
  | x :: r, k, acc, 0, hk, h => by omega
  | x :: r, k, acc, n + 1, hk, h => by
    rw [List.take_succ_cons]
    simp only [rdv]
    split
    · rfl
    · rename_i h9
      split
      · rw [rdv_take r (k + 1) _ n (by omega) (by omega)]
      · rfl
theorem readV_eq (l : List Nat) : readV l = rdv 0 0 l := rdv_take l 0 0 10 (by omega) (by omega)
theorem beB_succ (v n : Nat) : beB v (n + 1) = (v / 256 ^ n % 256) :: beB v n := rfl
end Go.Ck

set_option linter.unusedVariables false
set_option maxRecDepth 10000
namespace Go.Ck
open Go.Proofs
theorem curVarint_fn (l : List Nat) (hl : l.length ≤ room) (hb : ∀ x ∈ l, x < 256) : Fn Try.prog 63 (curO l) [.ptr 1000 0]
    (fun rs H' => rs = [.pv (.int .u64 ((readV l).1 : Nat)), .pv (.int .i64 (readV l).2.2)] ∧ H' = curO (l.drop (readV l).2.1)) := by
  refine Fn.of_body (fn := Try.f63) (n := 26) (res := [.tmp 2, .tmp 3]) (by kernel_rfl) rfl rfl rfl rfl rfl (fun C => ?_)
  refine AW.go ?_
  refine AW.condF rfl ?_
  refine AW.go ?_
  refine AW.callE (fun _ => 0) (read_fn l hb) (.pv _ .nil) ?_
  refine AW.go ?_
  refine AW.callE id (take_fn l _ (readV_le l) hl) (.ptr rfl (.pv _ .nil)) ?_
  refine AW.go ?_
  refine AW.finE (.pv _ (.pv _ .nil)) rfl

theorem block_fn (l : List Nat) (hl : l.length + 20 ≤ room) : Fn Try.prog 25 [] [.pv (.sl 1 (bytes l))] (fun rs H' => rs = [.own 5 (bytes (leb l.length ++ l))] ∧ H' = []) := by
  refine Fn.of_body (fn := Try.f25) (n := 9) (res := [.tmp 2]) (by kernel_rfl) rfl rfl rfl rfl rfl (fun C => ?_)
  have hr : room < 2 ^ 63 := by decide
  have hu : IntKind.u64.wrap (l.length : Int) = (l.length : Int) := wrap_u64_lt (by omega)
  refine AW.go ?_ (by simp only [go_sem, ↓reduceIte, hu] <;> rfl)
  refine AW.callE (fun _ => 0) (append_fn [] l.length (by omega) (by simp; omega)) (.nilsP 1 (.pv _ .nil)) ?_
  have h10 := leb_len10 (v := l.length) (by omega)
  have hs : (leb l.length).length + l.length ≤ room := by omega
  refine AW.go ?_ (by simp only [go_sem, ↓reduceIte, List.nil_append, hs] <;> rfl)
  refine AW.finE (.move rfl .nil) rfl

theorem curBlock_fn (l : List Nat) (m : Nat) (hm : m < 2 ^ 63) (hl : l.length ≤ room) (hb : ∀ x ∈ l, x < 256) : Fn Try.prog 62 (curO l) [.ptr 1000 0, .pv (.int .i64 m)]
    (fun rs H' => rs = [.own 5 (bytes (blk l m).1), .pv (.int .i64 (blk l m).2.1)] ∧ H' = curO (blk l m).2.2) := by
  refine Fn.of_body (fn := Try.f62) (n := 55) (res := [.tmp 4, .tmp 5]) (by kernel_rfl) rfl rfl rfl rfl rfl (fun C => ?_)
  have hr : room < 2 ^ 63 := by decide
  have hle := readV_le l
  have hlt := readV_lt hb
  refine AW.gg ?_
  refine AW.condF rfl ?_
  refine AW.go ?_
  refine AW.callE (fun _ => 0) (read_fn l hb) (.pv _ .nil) ?_
  refine AW.go ?_
  unfold blk
  generalize (readV l).1 = v at *
  generalize (readV l).2.2 = e at *
  generalize (readV l).2.1 = k at *
  refine AW.cond rfl (fun hc => ?_) (fun hc => ?_)
  · have he : e ≠ 0 := by simpa using hc
    simp only [if_pos he]
    refine AW.go ?_
    refine AW.finE (.move rfl (.pv _ .nil)) rfl
  have he : ¬ e ≠ 0 := by simpa using hc
  simp only [if_neg he]
  have hu : IntKind.u64.wrap (m : Int) = (m : Int) := wrap_u64_lt (by omega)
  refine AW.go ?_ (by simp only [go_sem, ↓reduceIte, hu] <;> rfl)
  refine AW.cond rfl (fun hc => ?_) (fun hc => ?_)
  · have he : m < v := by simp at hc; omega
    simp only [if_pos he]
    refine AW.go ?_
    refine AW.finE (.move rfl (.pv _ .nil)) rfl
  have hmv : ¬ m < v := by simp at hc; omega
  simp only [if_neg hmv]
  refine AW.go ?_
  refine AW.callE id (left_fn l) (.ptr rfl .nil) ?_
  have h1 : IntKind.u64.wrap (IntKind.i64.wrap ((l.length : Int) - (k : Int))) = ((l.length - k : Nat) : Int) := by
    rw [← Int.ofNat_sub hle, wrap_i64_nat (by omega), wrap_u64_lt (by omega)]
  refine AW.go ?_ (by simp only [go_sem, ↓reduceIte, h1] <;> rfl)
  refine AW.cond rfl (fun hc => ?_) (fun hc => ?_)
  · have he : l.length - k < v := by simp at hc; omega
    simp only [if_pos he]
    refine AW.go ?_
    refine AW.finE (.move rfl (.pv _ .nil)) rfl
  have hlv : ¬ l.length - k < v := by simp at hc; omega
  simp only [if_neg hlv]
  rw [show l.drop (k + v) = (l.drop k).drop v by rw [List.drop_drop]]
  refine AW.go ?_
  refine AW.callE id (take_fn l k hle hl) (.ptr rfl (.pv _ .nil)) ?_
  have h2 : IntKind.i64.wrap (v : Int) = (v : Int) := wrap_i64_nat (by omega)
  refine AW.go ?_ (by simp only [go_sem, ↓reduceIte, h2] <;> rfl)
  refine AW.callE id (take_fn (l.drop k) v (by simp; omega) (by simp; omega)) (.ptr rfl (.pv _ .nil)) ?_
  refine AW.go ?_
  refine AW.finE (.move rfl (.pv _ .nil)) rfl

theorem curFixed_fn (l : List Nat) (n : Nat) (hn : n ≤ 8) (hl : l.length ≤ room) (hb : ∀ x ∈ l, x < 256) : Fn Try.prog 37 (curO l) [.ptr 1000 0, .pv (.int .i64 n)]
    (fun rs H' => rs = [.pv (.int .u64 ((if n ≤ l.length then beN (l.take n) else 0) : Nat)), .pv (.int .i64 (if n ≤ l.length then 0 else 2))] ∧ H' = curO (if n ≤ l.length then l.drop n else l)) := by
  refine Fn.of_body (fn := Try.f37) (n := 33) (res := [.tmp 4, .tmp 5]) (by kernel_rfl) rfl rfl rfl rfl rfl (fun C => ?_)
  refine AW.go ?_
  refine AW.condF (by simp only [go_sem, ↓reduceIte]; congr 3; simp; omega) ?_
  refine AW.go ?_
  refine AW.callE id (curBytes_fn l n hl) (.ptr rfl (.pv _ .nil)) ?_
  have e0 : (if n ≤ l.length then beN (l.take n) else 0) = beN (if n ≤ l.length then l.take n else []) := by split <;> rfl
  rw [e0]
  have hxl : (if n ≤ l.length then l.take n else []).length ≤ 8 := by split <;> simp <;> omega
  have hxb : ∀ x ∈ (if n ≤ l.length then l.take n else []), x < 256 := by
    split
    · exact fun x hx => hb x (List.mem_of_mem_take hx)
    · simp
  generalize (if n ≤ l.length then l.take n else []) = xs at *
  generalize hE : (if n ≤ l.length then 0 else 2 : Int) = er
  generalize hR : (if n ≤ l.length then l.drop n else l) = lr
  refine AW.go ?_
  have hr : room < 2 ^ 63 := by decide
  refine AW.loopS (fun i : Nat => ⟨33, [(21, .pv (.int .i64 i)), (8, .pv (.int .u64 (beN (xs.take i) : Nat))), (19, .al (.slot 6)), (20, .pv (.int .i64 xs.length)), (6, .own 5 (bytes xs)), (7, .pv (.int .i64 er))], curO lr⟩) (fun i => i ≤ xs.length) (fun i => xs.length - i) [21, 8, 19, 20, 6, 7] [1000] 0 (Nat.zero_le _) ?_
  rintro i hi K hK
  refine AW.go ?_
  refine AW.cond rfl (fun hc => ?_) (fun hc => ?_)
  · have hlt : i < xs.length := by simpa using hc
    have hget := bytes_get hlt
    have hx := hxb _ (List.getElem_mem hlt)
    have hti : xs.take (i + 1) = xs.take i ++ [xs[i]] := by simp
    have hbl := beN_lt (xs.take i) (fun x hx => hxb x (List.mem_of_mem_take hx))
    have hp : 256 ^ (xs.take i).length ≤ 256 ^ 7 := Nat.pow_le_pow_right (by omega) (by simp; omega)
    have eo := or_lt256 (a := beN (xs.take i)) (x := xs[i]) (by omega) hx
    have eu : IntKind.u64.wrap ((xs[i] : Nat) : Int) = (xs[i] : Nat) := wrap_u64_lt (by omega)
    have ei : IntKind.i64.wrap ((i : Int) + 1) = ((i + 1 : Nat) : Int) := wrap_i64_succ (by omega)
    rw [← beN_snoc, ← hti] at eo
    refine AW.go ?_ (by simp only [go_sem, ↓reduceIte, hget, hlt, eu, eo, ei] <;> rfl)
    refine AW.again hK (i + 1) hlt (by omega)
  · have hge : ¬ i < xs.length := by simpa using hc
    rw [List.take_of_length_le (by omega)]
    refine AW.go ?_
    refine AW.finE (.pv _ (.pv _ .nil)) rfl
end Go.Ck
