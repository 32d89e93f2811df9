/- What is proved here: parts of the proofs of this seat's statements (a verified evaluator for calls over pure values, its laws, and contracts of functions). No condition. -/
import Derived.Test.YthjibccogjggbaaGreatKq
import Derived.Test.YthjibccogjggbaaGreatKr
import Derived.Test.YthjibccogjggbaaGreatKn
import Derived.Test.YthjibccogjggbaaGreatKm
set_option linter.all false
set_option linter.unusedVariables false
namespace Go.Ck
def wS (x : W32) : SV := .pv (wP x)
/-- 64 cells, of which the first are told. -/
def arrW (ws : List W32) : List SV := ws.map wS ++ List.replicate (64 - ws.length) (wS 0)
theorem arrW_len {ws : List W32} (h : ws.length ≤ 64) : (arrW ws).length = 64 := by simp [arrW]; omega
theorem arrW_get {ws : List W32} {i : Nat} (h : i < ws.length) : (arrW ws)[i]? = some (.pv (.int .u32 ((wAt ws i).toNat : Int))) := by
  unfold arrW wAt
  rw [List.getElem?_append_left (by simpa using h), List.getElem?_map, List.getElem?_eq_getElem h]
  simp [List.getD, h, wS, wP]
theorem arrW_set {ws : List W32} {x y : W32} : (arrW (ws ++ [x])).set ws.length (.pv (.int .u32 (y.toNat : Int))) = arrW (ws ++ [y]) := by
  unfold arrW
  rw [List.map_append, List.map_append, List.append_assoc, List.append_assoc, List.set_append_right _ _ (by simp)]
  simp [wS, wP]
theorem arrW_set0 {ws : List W32} (h : ws.length < 64) (y : W32) : (arrW ws).set ws.length (.pv (.int .u32 (y.toNat : Int))) = arrW (ws ++ [y]) := by
  unfold arrW
  rw [List.map_append, List.append_assoc, List.set_append_right _ _ (by simp)]
  obtain ⟨k, hk⟩ : ∃ k, 64 - ws.length = k + 1 := ⟨63 - ws.length, by omega⟩
  simp only [List.length_append, List.length_singleton, List.length_map, Nat.sub_self, hk, List.replicate_succ, List.set_cons_zero, List.map_cons, List.map_nil, List.singleton_append]
  rw [show 64 - (ws.length + 1) = k by omega]
  rfl
theorem arrW_zero {ws : List W32} (h : ws.length < 64) : arrW ws = arrW (ws ++ [0]) := by
  rw [← arrW_set0 h]
  unfold arrW
  obtain ⟨k, hk⟩ : ∃ k, 64 - ws.length = k + 1 := ⟨63 - ws.length, by omega⟩
  rw [List.set_append_right _ _ (by simp)]
  simp only [hk, List.length_map, Nat.sub_self, List.replicate_succ, List.set_cons_zero]
  rfl
theorem arrW_last {ws : List W32} {x : W32} : (arrW (ws ++ [x]))[ws.length]? = some (.pv (.int .u32 (x.toNat : Int))) := by
  rw [arrW_get (by simp)]
  simp [wAt, List.getD]
theorem arrW_full {ws : List W32} (h : ws.length = 64) : arrW ws = ws.map wS := by simp [arrW, h]
theorem spW_len (b : List Nat) : ∀ n, (spW b n).length = n
  | 0 => rfl
  | n + 1 => by simp [spW, spW_len b n]
theorem wd4_snoc (l : List Nat) (x : Nat) : wd4 (l ++ [x]) = (wd4 l <<< 8) ||| BitVec.ofNat 32 x := by simp [wd4]
theorem kept_pv (ds os : List Nat) (ps : List PV) : (ps.map SV.pv).all (keptV ds os) = true := by
  simp only [List.all_map, List.all_eq_true]
  intro p _
  simp [keptV, ptsL, hangOn]
theorem inL_pv (ns : List Nat) (ps : List PV) : (ps.map SV.pv).all (inL ns) = true := by
  simp only [List.all_map, List.all_eq_true]
  intro p _
  simp [inL, ptsL]
theorem arrW_pv (ws : List W32) : arrW ws = (ws.map wP ++ List.replicate (64 - ws.length) (wP 0)).map SV.pv := by
  simp only [arrW, List.map_append, List.map_map, List.map_replicate]
  rfl
theorem arrW_kept (ds os : List Nat) (ws : List W32) : (arrW ws).all (keptV ds os) = true := by rw [arrW_pv]; exact kept_pv ds os _
theorem arrW_inL (ns : List Nat) (ws : List W32) : (arrW ws).all (inL ns) = true := by rw [arrW_pv]; exact inL_pv ns _
attribute [go_sem] kept_pv inL_pv arrW_kept arrW_inL
theorem wrap_u32w (n : Nat) : IntKind.u32.wrap (n : Int) = ((BitVec.ofNat 32 n).toNat : Int) := by rw [wrap_u32, BitVec.toNat_ofNat]
theorem take_drop4 (b : List Nat) (p : Nat) : ((bytes b).drop p).take 4 = bytes ((b.drop p).take 4) := by rw [bytes_drop, bytes_take]
theorem setCells_all (cs new : List SV) (h : new.length = cs.length) : setCells cs new 0 = new := by
  simp [setCells, h]
theorem take_all {α : Type} (l : List α) (n : Nat) (h : l.length = n) : (l.drop 0).take n = l := by simp [← h]
theorem wAt_get {ws : List W32} {i : Nat} (h : i < ws.length) : wAt ws i = ws[i] := by simp [wAt, List.getD, h]
/-- rot by way of RotateLeft32. -/
theorem rot_low (x : W32) (m : Nat) (h0 : 0 < m) (h1 : m < 32) : ibits .or .u32 (shlI .u32 (x.toNat : Int) ((32 - m : Nat) : Int)) (shrI .u32 (x.toNat : Int) (m : Int)) = ((rotW x m).toNat : Int) := by
  rw [w32_shl x _ (by omega), w32_shr x m (by omega), w32_or]
  rfl
end Go.Ck
namespace Go.Ck
/-- Words, cell by cell. -/
def wcs (ws : List W32) : List SV := (ws.map wP).map SV.pv
theorem wcs_get {ws : List W32} {i : Nat} (h : i < ws.length) : (wcs ws)[i]? = some (.pv (.int .u32 ((wAt ws i).toNat : Int))) := by
  rw [wAt_get h]
  simp [wcs, wP, h]
theorem wcs_kept (ds os : List Nat) (ws : List W32) : (wcs ws).all (keptV ds os) = true := kept_pv ds os _
theorem wcs_inL (ns : List Nat) (ws : List W32) : (wcs ws).all (inL ns) = true := inL_pv ns _
attribute [go_sem] wcs_kept wcs_inL
theorem rnds_snoc : ∀ (ks ws : List W32) (k w : W32) (s : S8), ks.length = ws.length → rnds (ks ++ [k]) (ws ++ [w]) s = rnd (rnds ks ws s) k w
  | [], [], k, w, s, _ => rfl
  | k0 :: ks, w0 :: ws, k, w, s, h => by
    simp only [List.cons_append, rnds]
    exact rnds_snoc ks ws k w _ (by simpa using h)
  | [], _ :: _, _, _, _, h => by cases h
  | _ :: _, [], _, _, _, h => by cases h
theorem rnds_step (ks ws : List W32) (s : S8) (t : Nat) (h1 : t < ks.length) (h2 : t < ws.length) : rnds (ks.take (t + 1)) (ws.take (t + 1)) s = rnd (rnds (ks.take t) (ws.take t) s) (wAt ks t) (wAt ws t) := by
  rw [List.take_succ_eq_append_getElem h1, List.take_succ_eq_append_getElem h2, rnds_snoc _ _ _ _ _ (by simp; omega), wAt_get h1, wAt_get h2]
theorem ktab_len : ktab.length = 64 := rfl
theorem sched_len (b : List Nat) : (sched b).length = 64 := spW_len b 64
end Go.Ck
namespace Go.Ck
theorem nc8 : ((8 : Nat) : Int) = 8 := rfl
attribute [go_sem] nc8
end Go.Ck
namespace Go.Ck
theorem w32_notI (x : W32) : ibits .xor .u32 (if IntKind.u32.signed = true then -1 else IntKind.u32.max) (x.toNat : Int) = ((~~~x).toNat : Int) := w32_not x
end Go.Ck
namespace Go.Ck
theorem nc0 : ((0 : Nat) : Int) = 0 := rfl
theorem nc1 : ((1 : Nat) : Int) = 1 := rfl
theorem nc2 : ((2 : Nat) : Int) = 2 := rfl
theorem nc3 : ((3 : Nat) : Int) = 3 := rfl
theorem nc4 : ((4 : Nat) : Int) = 4 := rfl
theorem nc5 : ((5 : Nat) : Int) = 5 := rfl
theorem nc6 : ((6 : Nat) : Int) = 6 := rfl
theorem nc7 : ((7 : Nat) : Int) = 7 := rfl
theorem wr1 : IntKind.i64.wrap 1 = 1 := by decide
theorem wr2 : IntKind.i64.wrap 2 = 2 := by decide
theorem wr3 : IntKind.i64.wrap 3 = 3 := by decide
theorem wr4 : IntKind.i64.wrap 4 = 4 := by decide
theorem wr5 : IntKind.i64.wrap 5 = 5 := by decide
theorem wr6 : IntKind.i64.wrap 6 = 6 := by decide
theorem wr7 : IntKind.i64.wrap 7 = 7 := by decide
theorem wr8 : IntKind.i64.wrap 8 = 8 := by decide
end Go.Ck
namespace Go.Ck
theorem byW_len (x : W32) : (byW x).length = 4 := rfl
theorem flat_byW_len : ∀ l : List W32, (l.flatMap byW).length = 4 * l.length
  | [] => rfl
  | x :: r => by simp only [List.flatMap_cons, List.length_append, byW_len, flat_byW_len r, List.length_cons]; omega
theorem by8_len (s : S8) : (by8 s).length = 32 := rfl
theorem by_step (l : List W32) (i : Nat) (h : i < l.length) : (l.take (i + 1)).flatMap byW = (l.take i).flatMap byW ++ byW (wAt l i) := by
  rw [List.take_succ_eq_append_getElem h, List.flatMap_append, wAt_get h]
  simp
theorem bytes_byW (l : List Nat) (x : W32) : bytes l ++ [.int .u8 (((x >>> 24).toNat % 256 : Nat) : Int), .int .u8 (((x >>> 16).toNat % 256 : Nat) : Int), .int .u8 (((x >>> 8).toNat % 256 : Nat) : Int), .int .u8 ((x.toNat % 256 : Nat) : Int)] = bytes (l ++ byW x) := by
  rw [← bytes_append]; rfl
end Go.Ck

set_option linter.unusedVariables false
set_option maxRecDepth 100000
set_option maxHeartbeats 2000000
namespace Go.Ck
open Go.Proofs
theorem and31 {m : Nat} (h0 : 0 < m) (h1 : m < 32) : ibits .and .u64 (IntKind.u64.wrap (-(m : Int))) 31 = ((32 - m : Nat) : Int) := by
  have e : IntKind.u64.wrap (-(m : Int)) = ((2 ^ 64 - m : Nat) : Int) := by rw [IntKind.wrap_u64]; omega
  rw [e]
  refine (ibits_and64 (a := 2 ^ 64 - m) (b := 31) (by omega) (by omega)).trans ?_
  have := Nat.and_two_pow_sub_one_eq_mod (2 ^ 64 - m) 5
  rw [show (2 ^ 5 - 1 : Nat) = 31 from rfl] at this
  rw [this]
  congr 1
  omega
theorem rotate_fn (x : W32) (m : Nat) (h0 : 0 < m) (h1 : m < 32) : Fn Tryz.prog 115 [] [.pv (wP x), .pv (.int .i64 (-(m : Int)))] (fun rs H' => rs = [.pv (wP (rotW x m))] ∧ H' = []) := by
  refine Fn.of_body (fn := Tryz.f115) (n := 17) (res := [.tmp 4]) (by kernel_rfl) rfl rfl rfl rfl rfl (fun C => ?_)
  have e1 := and31 h0 h1
  have e2 : IntKind.u64.wrap (32 - ((32 - m : Nat) : Int)) = (m : Int) := by rw [IntKind.wrap_u64]; omega
  have e3 := rot_low x m h0 h1
  unfold wP
  refine AW.go ?_ (by simp only [go_sem, ↓reduceIte, e1, e2, e3] <;> rfl)
  refine AW.finE (.pv _ .nil) rfl
theorem rot_fn (x : W32) (n : Int) (m : Nat) (hn : n = m) (h0 : 0 < m) (h1 : m < 32) : Fn Tryz.prog 113 [] [.pv (wP x), .pv (.int .i64 n)] (fun rs H' => rs = [.pv (wP (rotW x m))] ∧ H' = []) := by
  subst hn
  refine Fn.of_body (fn := Tryz.f113) (n := 9) (res := [.tmp 4]) (by kernel_rfl) rfl rfl rfl rfl rfl (fun C => ?_)
  have e1 : IntKind.i64.wrap (0 - (m : Int)) = -(m : Int) := by rw [wrap_i64_of (by omega) (by omega)]; omega
  refine AW.go ?_ (by simp only [go_sem, ↓reduceIte, e1] <;> rfl)
  refine AW.callE (fun _ => 0) (rotate_fn x m h0 h1) (.pv _ (.pv _ .nil)) ?_
  refine AW.go ?_
  refine AW.finE (.pv _ .nil) rfl

/-- A state's words, as a value. -/
def stP (s : S8) : PV := .agg (s.l.map wP)
theorem first_fn : Fn Tryz.prog 102 [] [] (fun rs H' => rs = [.pv (stP first8)] ∧ H' = []) := by
  refine Fn.of_body (fn := Tryz.f102) (n := 2) (res := [.cell 0 120]) (by kernel_rfl) rfl rfl rfl rfl rfl (fun C => ?_)
  refine AW.go ?_
  refine AW.finE (.pv _ .nil) rfl
def tabP : PV := .agg (ktab.map wP)
theorem table_fn : Fn Tryz.prog 112 [] [] (fun rs H' => rs = [.pv tabP] ∧ H' = []) := by
  refine Fn.of_body (fn := Tryz.f112) (n := 2) (res := [.cell 0 147]) (by kernel_rfl) rfl rfl rfl rfl rfl (fun C => ?_)
  refine AW.go ?_
  refine AW.finE (.pv _ .nil) ?_
  kernel_rfl

theorem schedule_fn (b : List Nat) (hb : b.length = 64) : Fn Tryz.prog 111 [] [.pv (.sl 1 (bytes b))] (fun rs H' => rs = [.pv (.agg ((sched b).map wP))] ∧ H' = []) := by
  refine Fn.of_body (fn := Tryz.f111) (n := 75) (res := [.cell 2 147]) (by kernel_rfl) rfl rfl rfl rfl rfl (fun C => ?_)
  refine AW.go ?_
  refine AW.loopS (fun i : Nat => ⟨75, [(9, .pv (.int .i64 i)), (0, .pv (.sl 1 (bytes b))), (2, .ptr 2 0), (3, .ptr 3 0)], [(2, .cells 147 (arrW [])), (3, .cells 147 (arrW (spW b i)))]⟩) (fun i => i ≤ 64) (fun i => 64 - i) [9, 0, 2, 3] [2, 3] 0 (by omega) ?_
  rintro i hi K hK
  have hsl : (spW b i).length = i := spW_len b i
  have hal : (arrW (spW b i)).length = 64 := arrW_len (by omega)
  refine AW.go ?_
  refine AW.cond rfl (fun hc => ?_) (fun hc => ?_)
  rotate_left
  · have hge : i = 64 := by simp at hc; omega
    subst hge
    have hlen : ((spW b 64).map wP).length = 64 := by simp [spW_len]
    repeat (first | refine AW.exit ?_ | refine AW.outX ?_ | refine AW.exC ?_ | refine AW.exS ?_ | refine AW.seq ?_)
    refine AW.region ?_
    refine AW.loadP (off := 0) (ps := (spW b 64).map wP) rfl rfl ?_ ?_ (hle := by rw [hlen, hal]; decide) (hT := by rw [hlen]; exact tsh_147)
    · rw [hlen, take_all _ _ hal, arrW_full (spW_len b 64), List.map_map]; rfl
    refine AW.storeP (off := 0) (ps := (spW b 64).map wP) rfl rfl rfl (by rw [hlen, arrW_len (ws := []) (by decide)]; decide) ?_ (hT := by rw [hlen]; exact tsh_147) (h1 := by simp [wP, PV.one])
    rw [setCells_all _ _ (by rw [List.length_map, hlen, arrW_len (ws := []) (by decide)])]
    refine AW.go ?_
    have htk : (((spW b 64).map wP).map SV.pv).take 64 = ((spW b 64).map wP).map SV.pv := List.take_of_length_le (by simp [spW_len])
    refine AW.finE (.pv _ .nil) rfl (hv := by simp only [go_sem, ↓reduceIte, htk, allPV_map, List.length_map, spW_len] <;> rfl)
  have hlt : i < 64 := by have := of_decide_eq_true hc; omega
  have l1 : (i < 64) = True := by simp [hlt]
  refine AW.go ?_
  refine AW.cond rfl (fun hc2 => ?_) (fun hc2 => ?_)
  · have h16 : i < 16 := by have := of_decide_eq_true hc2; omega
    obtain ⟨p, hp⟩ : ∃ p, p = 4 * i := ⟨_, rfl⟩
    have e1 : IntKind.i64.wrap (4 * (i : Int)) = (p : Int) := by rw [wrap_i64_of (by omega) (by omega)]; omega
    have e2 : IntKind.i64.wrap ((p : Int) + 4) = ((p + 4 : Nat) : Int) := by rw [wrap_i64_of (by omega) (by omega)]; omega
    have e3 : (((p + 4 : Nat) : Int) - (p : Int)).toNat = 4 := by omega
    have e4 : ((p : Int) ≤ ((p + 4 : Nat) : Int)) = True := eq_true (by omega)
    have e5 : (((p + 4 : Nat) : Int) ≤ ((b.length : Nat) : Int)) = True := eq_true (by omega)
    have hq : ((bytes b).drop p).take 4 = bytes ((b.drop p).take 4) := take_drop4 b p
    obtain ⟨q, hqd⟩ : ∃ q, q = (b.drop p).take 4 := ⟨_, rfl⟩
    have hql : q.length = 4 := by rw [hqd]; simp; omega
    have hqs := hqd.symm
    refine AW.go ?_ (by simp only [go_sem, ↓reduceIte, e1, e2, e3, e4, e5, hqs, bytes_length, hql] <;> rfl)
    have hz : arrW (spW b i) = arrW (spW b i ++ [wd4 (q.take 0)]) := arrW_zero (by omega)
    refine AW.loopS (fun j : Nat => ⟨75, [(9, .pv (.int .i64 i)), (0, .pv (.sl 1 (bytes b))), (2, .ptr 2 0), (3, .ptr 3 0), (4, .pv (.int .i64 i)), (20, .pv (.sl 1 (bytes q))), (21, .pv (.int .i64 4)), (22, .pv (.int .i64 j))], [(2, .cells 147 (arrW [])), (3, .cells 147 (arrW (spW b i ++ [wd4 (q.take j)])))]⟩) (fun j => j ≤ 4) (fun j => 4 - j) [9, 0, 2, 3, 4, 20, 21, 22] [2, 3] 0 (by omega) ?_ (hs := by simp only [go_sem, ↓reduceIte, hz] <;> rfl)
    rintro j hj K2 hK2
    refine AW.go ?_
    refine AW.cond rfl (fun hc3 => ?_) (fun hc3 => ?_)
    rotate_left
    · have hj4 : j = 4 := by simp at hc3; omega
      subst hj4
      have hend : arrW (spW b i ++ [wd4 (q.take 4)]) = arrW (spW b (i + 1)) := by
        rw [List.take_of_length_le (by omega)]
        simp only [spW, h16, if_true, hqd, hp]
      have e6 : IntKind.i64.wrap ((i : Int) + 1) = ((i + 1 : Nat) : Int) := wrap_i64_succ (by omega)
      refine AW.go ?_ (by simp only [go_sem, ↓reduceIte, e6] <;> rfl)
      exact AW.again hK (i + 1) (by omega) (by omega) (hs := by simp only [go_sem, ↓reduceIte, hend] <;> rfl)
    have hj4 : j < 4 := by have := of_decide_eq_true hc3; omega
    obtain ⟨x, hx⟩ : ∃ x, q[j]? = some x := ⟨q[j], List.getElem?_eq_getElem (by omega)⟩
    have hg : (bytes q)[j]? = some (.int .u8 (x : Int)) := by unfold bytes; rw [List.getElem?_map, hx]; rfl
    have hw : wd4 (q.take (j + 1)) = (wd4 (q.take j) <<< 8) ||| BitVec.ofNat 32 x := by rw [List.take_add_one, hx, ← wd4_snoc]; rfl
    generalize hwj : wd4 (q.take j) = w at *
    have g1 : (arrW (spW b i ++ [w]))[i]? = some (.pv (.int .u32 (w.toNat : Int))) := by have := arrW_last (ws := spW b i) (x := w); rw [hsl] at this; exact this
    have g2 : (arrW (spW b i ++ [w])).set i (.pv (.int .u32 (((w <<< 8) ||| BitVec.ofNat 32 x).toNat : Int))) = arrW (spW b i ++ [wd4 (q.take (j + 1))]) := by rw [hw]; have := arrW_set (ws := spW b i) (x := w) (y := (w <<< 8) ||| BitVec.ofNat 32 x); rw [hsl] at this; exact this
    have g3 : (arrW (spW b i ++ [w])).length = 64 := arrW_len (by simp; omega)
    have e7 : IntKind.i64.wrap ((j : Int) + 1) = ((j + 1 : Nat) : Int) := wrap_i64_succ (by omega)
    have l2 : ((i : Int) < 64) = True := eq_true (by omega)
    refine AW.go ?_ (by simp only [go_sem, ↓reduceIte, hg, g1, g2, g3, l1, l2, e7, w32_shl8, wrap_u32w, w32_or] <;> rfl)
    exact AW.again hK2 (j + 1) (by omega) (by omega)
  · have h16 : 16 ≤ i := by simp at hc2; omega
    obtain ⟨i15, h15⟩ : ∃ k, k = i - 15 := ⟨_, rfl⟩
    obtain ⟨i2, h2⟩ : ∃ k, k = i - 2 := ⟨_, rfl⟩
    obtain ⟨i16, h16'⟩ : ∃ k, k = i - 16 := ⟨_, rfl⟩
    obtain ⟨i7, h7⟩ : ∃ k, k = i - 7 := ⟨_, rfl⟩
    have a15 : IntKind.i64.wrap ((i : Int) - 15) = (i15 : Int) := by rw [wrap_i64_of (by omega) (by omega)]; omega
    have a2 : IntKind.i64.wrap ((i : Int) - 2) = (i2 : Int) := by rw [wrap_i64_of (by omega) (by omega)]; omega
    have a16 : IntKind.i64.wrap ((i : Int) - 16) = (i16 : Int) := by rw [wrap_i64_of (by omega) (by omega)]; omega
    have a7 : IntKind.i64.wrap ((i : Int) - 7) = (i7 : Int) := by rw [wrap_i64_of (by omega) (by omega)]; omega
    have b15 : (i15 < 64) = True := eq_true (by omega)
    have b2 : (i2 < 64) = True := eq_true (by omega)
    have b16 : (i16 < 64) = True := eq_true (by omega)
    have b7 : (i7 < 64) = True := eq_true (by omega)
    have bi : (i < 64) = True := eq_true (by omega)
    have g15 : (arrW (spW b i))[i15]? = some (.pv (.int .u32 ((wAt (spW b i) i15).toNat : Int))) := arrW_get (by omega)
    have g2 : (arrW (spW b i))[i2]? = some (.pv (.int .u32 ((wAt (spW b i) i2).toNat : Int))) := arrW_get (by omega)
    have g16 : (arrW (spW b i))[i16]? = some (.pv (.int .u32 ((wAt (spW b i) i16).toNat : Int))) := arrW_get (by omega)
    have g7 : (arrW (spW b i))[i7]? = some (.pv (.int .u32 ((wAt (spW b i) i7).toNat : Int))) := arrW_get (by omega)
    have hset : (arrW (spW b i)).set i (.pv (.int .u32 ((nextW (spW b i)).toNat : Int))) = arrW (spW b (i + 1)) := by
      have h0 : ¬ i < 16 := by omega
      have := arrW_set0 (ws := spW b i) (by omega) (nextW (spW b i))
      rw [hsl] at this
      rw [this]; simp only [spW, h0, if_false]
    have hnext : nextW (spW b i) = wAt (spW b i) i16 + (rotW (wAt (spW b i) i15) 7 ^^^ rotW (wAt (spW b i) i15) 18 ^^^ wAt (spW b i) i15 >>> 3) + wAt (spW b i) i7 + (rotW (wAt (spW b i) i2) 17 ^^^ rotW (wAt (spW b i) i2) 19 ^^^ wAt (spW b i) i2 >>> 10) := by
      simp only [nextW, sg0, sg1, hsl, h15, h2, h16', h7]
    rw [hnext] at hset
    generalize wAt (spW b i) i15 = x at *
    generalize wAt (spW b i) i2 = y at *
    generalize wAt (spW b i) i16 = u at *
    generalize wAt (spW b i) i7 = v at *
    refine AW.go ?_
    refine AW.sr mixed (by decide +kernel) ?_ (by simp only [go_sem, ↓reduceIte, a15, a2, b15, b2, g15, g2] <;> rfl)
    refine AW.go ?_
    refine AW.calmS ?_
    refine CK.reads [[], [], [45], [46], [47], []] ?_ (by simp only [go_sem, ↓reduceIte, a16, a7, b16, b7, g16, g7, w32_shr3, w32_shr10, w32_xor, w32_add, wP] <;> rfl)
    refine CK.call (ps := [_, _]) [49] (rot_fn x 7 7 rfl (by decide) (by decide)) ?_
    refine CK.reads [[]] ?_ (by simp only [go_sem, ↓reduceIte, a16, a7, b16, b7, g16, g7, w32_shr3, w32_shr10, w32_xor, w32_add, wP] <;> rfl)
    refine CK.call (ps := [_, _]) [51] (rot_fn x 18 18 rfl (by decide) (by decide)) ?_
    refine CK.reads [[50, 52], [], [54], [53, 55], [48, 56], [], [58], [59], [60], [57, 61], []] ?_ (by simp only [go_sem, ↓reduceIte, a16, a7, b16, b7, g16, g7, w32_shr3, w32_shr10, w32_xor, w32_add, wP] <;> rfl)
    refine CK.call (ps := [_, _]) [63] (rot_fn y 17 17 rfl (by decide) (by decide)) ?_
    refine CK.reads [[]] ?_ (by simp only [go_sem, ↓reduceIte, a16, a7, b16, b7, g16, g7, w32_shr3, w32_shr10, w32_xor, w32_add, wP] <;> rfl)
    refine CK.call (ps := [_, _]) [65] (rot_fn y 19 19 rfl (by decide) (by decide)) ?_
    refine CK.reads [[64, 66], [], [68], [67, 69], [62, 70]] ?_ (by simp only [go_sem, ↓reduceIte, a16, a7, b16, b7, g16, g7, w32_shr3, w32_shr10, w32_xor, w32_add, wP] <;> rfl)
    refine CK.done (M := 28) 2 mixed ?_
    refine AW.seqs (fuel := 0) (listed' := Array.replicate 30 true) [28, 29] ?_ (by decide +kernel)
    -- 28: t72 := indexAddr T151 t3 [t44]
    -- 29: store T116 [t72] <- t71
    refine AW.gg ?_ (by simp only [go_sem, ↓reduceIte, bi, hal, l1, hset] <;> rfl)
    refine AW.anyDone (by decide +kernel) ?_
    have e6 : IntKind.i64.wrap ((i : Int) + 1) = ((i + 1 : Nat) : Int) := wrap_i64_succ (by omega)
    refine AW.go ?_ (by simp only [go_sem, ↓reduceIte, e6] <;> rfl)
    exact AW.again hK (i + 1) (by omega) (by omega)
end Go.Ck

set_option linter.unusedVariables false
set_option maxRecDepth 100000
set_option maxHeartbeats 400000
namespace Go.Ck
open Go.Proofs
theorem bytesW_fn (s : S8) : Fn Tryz.prog 104 [] [.pv (stP s)] (fun rs H' => rs = [.own 5 (bytes (by8 s))] ∧ H' = []) := by
  refine Fn.of_body (fn := Tryz.f104) (n := 27) (res := [.tmp 2]) (by kernel_rfl) rfl rfl rfl rfl rfl (fun C => ?_)
  have hr : room = 140737488355328 := rfl
  have hsl : s.l.length = 8 := rfl
  have hby : by8 s = s.l.flatMap byW := rfl
  rw [hby]
  have hstP : stP s = .agg [.int .u32 s.a.toNat, .int .u32 s.b.toNat, .int .u32 s.c.toNat, .int .u32 s.d.toNat, .int .u32 s.e.toNat, .int .u32 s.f.toNat, .int .u32 s.g.toNat, .int .u32 s.h.toNat] := rfl
  have hl : ([.int .u32 s.a.toNat, .int .u32 s.b.toNat, .int .u32 s.c.toNat, .int .u32 s.d.toNat, .int .u32 s.e.toNat, .int .u32 s.f.toNat, .int .u32 s.g.toNat, .int .u32 s.h.toNat] : List PV) = s.l.map wP := rfl
  rw [hstP]
  refine AW.go ?_
  refine AW.loopS (fun i : Nat => ⟨27, [(8, .pv (.int .i64 i)), (3, .own 5 (bytes ((s.l.take i).flatMap byW))), (7, .pv (.agg (s.l.map wP)))], []⟩) (fun i => i ≤ 8) (fun i => 8 - i) [8, 3, 7] [] 0 (by omega) ?_
  generalize s.l = l at *
  rintro i hi K hK
  refine AW.go ?_
  refine AW.cond rfl (fun hc => ?_) (fun hc => ?_)
  rotate_left
  · have hge : i = 8 := by have := of_decide_eq_false hc; omega
    subst hge
    rw [List.take_of_length_le (by omega)]
    refine AW.go ?_
    refine AW.finE (.move rfl .nil) rfl
  have hlt : i < 8 := by have := of_decide_eq_true hc; omega
  have hst := by_step l i (by omega)
  have hx : (l.map wP)[i]? = some (.int .u32 ((wAt l i).toNat : Int)) := by rw [wAt_get (by omega)]; simp [wP, hsl, hlt]
  have hfl : ((l.take i).flatMap byW).length = 4 * i := by rw [flat_byW_len]; simp; omega
  generalize (l.take i).flatMap byW = acc at *
  generalize wAt l i = x at *
  refine AW.go ?_
  refine AW.indexArr (ho := rfl) (n := i) (q := .int .u32 (x.toNat : Int)) rfl rfl tk_120 hlt tsh_101 ?_ ?_
  · rw [Nat.mul_one]; exact hx
  have e6 : IntKind.i64.wrap ((i : Int) + 1) = ((i + 1 : Nat) : Int) := wrap_i64_succ (by omega)
  have r1 : (acc.length + 4) ≤ room := by omega
  have m4 : (4 ≤ maxLen) = True := eq_true (le_maxLen 4)
  refine AW.go ?_ (by simp only [go_sem, ↓reduceIte, w32_shr24, w32_shr16, w32_shr8, w32_low, bytes_byW, r1, m4, e6, Nat.mul_one, List.length_cons, List.length_nil, Nat.reduceAdd] <;> rfl)
  exact AW.again hK (i + 1) (by omega) (by omega) (hs := by simp only [go_sem, ↓reduceIte, hst] <;> rfl)
theorem through_fn (s : S8) (b : List Nat) (hb : b.length = 64) : Fn Tryz.prog 103 [] [.pv (stP s), .pv (.sl 1 (bytes b))] (fun rs H' => rs = [.pv (stP (thr s b))] ∧ H' = []) := by
  refine Fn.of_body (fn := Tryz.f103) (n := 123) (res := [.cell 4 120]) (by kernel_rfl) rfl rfl rfl rfl rfl (fun C => ?_)
  have hsl : (sched b).length = 64 := sched_len b
  have hstP : stP s = .agg [.int .u32 s.a.toNat, .int .u32 s.b.toNat, .int .u32 s.c.toNat, .int .u32 s.d.toNat, .int .u32 s.e.toNat, .int .u32 s.f.toNat, .int .u32 s.g.toNat, .int .u32 s.h.toNat] := rfl
  have hthr : thr s b = add8 s (rnds ktab (sched b) s) := rfl
  rw [hstP, hthr]
  refine AW.go ?_
  refine AW.callE (fun _ => 0) (schedule_fn b hb) (.pv _ .nil) ?_
  refine AW.go ?_
  refine AW.callE (fun _ => 0) table_fn .nil ?_
  refine AW.goN 2 ?_
  refine AW.storeP (off := 0) (ps := (sched b).map wP) rfl rfl rfl ?_ ?_ (hT := by rw [List.length_map, hsl]; exact tsh_147) (h1 := by simp [wP, PV.one])
  · rw [List.length_map, hsl]; decide
  rw [setCells_all _ _ (by rw [List.length_map, List.length_map, hsl]; rfl)]
  refine AW.storeP (off := 0) (ps := ktab.map wP) rfl rfl rfl ?_ ?_ (hT := tsh_147) (h1 := by simp [wP, PV.one])
  · rw [List.length_map, ktab_len]; decide
  rw [setCells_all _ _ (by rw [List.length_map, List.length_map, ktab_len]; rfl)]
  have hw : ((sched b).map wP).map SV.pv = wcs (sched b) := rfl
  have hk : (ktab.map wP).map SV.pv = wcs ktab := rfl
  rw [hw, hk]
  generalize sched b = ws at *
  have hkl := ktab_len
  generalize ktab = ks at *
  refine AW.keepB [1, 2, 4, 5, 6] [2, 4, 5, 6] (by simp only [go_sem, ↓reduceIte]) (by simp only [go_sem, ↓reduceIte] <;> rfl) ?_
  refine AW.go ?_
  refine AW.sr mixed (by decide +kernel) ?_ (by simp only [go_sem, ↓reduceIte] <;> rfl)
  refine AW.go ?_
  refine AW.loopS (fun t : Nat => ⟨123, [(39, .pv (.int .i64 t)), (2, .ptr 2 0), (4, .ptr 4 0), (5, .ptr 5 0), (6, .ptr 6 0), (7, .pv (wP (rnds (ks.take t) (ws.take t) s).a)), (8, .pv (wP (rnds (ks.take t) (ws.take t) s).b)), (9, .pv (wP (rnds (ks.take t) (ws.take t) s).c)), (10, .pv (wP (rnds (ks.take t) (ws.take t) s).d)), (11, .pv (wP (rnds (ks.take t) (ws.take t) s).e)), (12, .pv (wP (rnds (ks.take t) (ws.take t) s).f)), (13, .pv (wP (rnds (ks.take t) (ws.take t) s).g)), (14, .pv (wP (rnds (ks.take t) (ws.take t) s).h))], [(2, .cells 120 [.pv (wP s.a), .pv (wP s.b), .pv (wP s.c), .pv (wP s.d), .pv (wP s.e), .pv (wP s.f), .pv (wP s.g), .pv (wP s.h)]), (4, .cells 120 [.pv (wP 0), .pv (wP 0), .pv (wP 0), .pv (wP 0), .pv (wP 0), .pv (wP 0), .pv (wP 0), .pv (wP 0)]), (5, .cells 147 (wcs ws)), (6, .cells 147 (wcs ks))]⟩) (fun t => t ≤ 64) (fun t => 64 - t) [39, 2, 4, 5, 6, 7, 8, 9, 10, 11, 12, 13, 14] [2, 4, 5, 6] 0 (by omega) ?_
  rintro t ht K hK
  refine AW.go ?_
  refine AW.cond rfl (fun hc => ?_) (fun hc => ?_)
  · have hlt : t < 64 := by have := of_decide_eq_true hc; omega
    have l1 : (t < 64) = True := eq_true hlt
    have hkg : (wcs ks)[t]? = some (.pv (.int .u32 ((wAt ks t).toNat : Int))) := wcs_get (by omega)
    have hwg : (wcs ws)[t]? = some (.pv (.int .u32 ((wAt ws t).toNat : Int))) := wcs_get (by omega)
    have hstep := rnds_step ks ws s t (by omega) (by omega)
    generalize wAt ks t = kt at *
    generalize wAt ws t = wt at *
    generalize rnds (ks.take t) (ws.take t) s = r at *
    obtain ⟨a, b, c, d, e, f, g, h⟩ := r
    simp only
    refine AW.go ?_
    refine AW.calmS ?_
    refine CK.reads [[], []] ?_ (by simp only [go_sem, ↓reduceIte, l1, hkg, hwg, w32_xor, w32_and, w32_notI, w32_add, wP] <;> rfl)
    refine CK.call (ps := [_, _]) [43] (rot_fn e 6 6 rfl (by decide) (by decide)) ?_
    refine CK.reads [[]] ?_ (by simp only [go_sem, ↓reduceIte, l1, hkg, hwg, w32_xor, w32_and, w32_notI, w32_add, wP] <;> rfl)
    refine CK.call (ps := [_, _]) [45] (rot_fn e 11 11 rfl (by decide) (by decide)) ?_
    refine CK.reads [[44, 46], []] ?_ (by simp only [go_sem, ↓reduceIte, l1, hkg, hwg, w32_xor, w32_and, w32_notI, w32_add, wP] <;> rfl)
    refine CK.call (ps := [_, _]) [48] (rot_fn e 25 25 rfl (by decide) (by decide)) ?_
    refine CK.reads [[47, 49], [42, 50], [], [], [52, 53], [], [55], [], [56, 57], [54, 58], [51, 59], [], [61], [62], [60, 63], [], [65], [66], [64, 67]] ?_ (by simp only [go_sem, ↓reduceIte, l1, hkg, hwg, w32_xor, w32_and, w32_notI, w32_add, wP] <;> rfl)
    refine CK.done (M := 27) 1 mixed ?_
    refine AW.seqs (fuel := 0) (listed' := Array.replicate 28 true) [27] ?_ (by decide +kernel)
    -- 27: t16 := = t68
    refine AW.gg ?_
    refine AW.anyDone (by decide +kernel) ?_
    refine AW.go ?_
    refine AW.callE (fun _ => 0) (rot_fn a 2 2 rfl (by decide) (by decide)) (.pv _ (.pv _ .nil)) ?_
    refine AW.go ?_
    refine AW.callE (fun _ => 0) (rot_fn a 13 13 rfl (by decide) (by decide)) (.pv _ (.pv _ .nil)) ?_
    refine AW.go ?_ (by simp only [go_sem, ↓reduceIte, wP, w32_xor] <;> rfl)
    refine AW.callE (fun _ => 0) (rot_fn a 22 22 rfl (by decide) (by decide)) (.pv _ (.pv _ .nil)) ?_
    have e6 : IntKind.i64.wrap ((t : Int) + 1) = ((t + 1 : Nat) : Int) := wrap_i64_succ (by omega)
    refine AW.go ?_ (by simp only [go_sem, ↓reduceIte, wP, w32_xor, w32_and, w32_add, e6] <;> rfl)
    exact AW.again hK (t + 1) (by omega) (by omega) (hs := by simp only [go_sem, ↓reduceIte, hstep, rnd, t1W, t2W] <;> rfl)
  have hge : t = 64 := by have := of_decide_eq_false hc; omega
  subst hge
  rw [List.take_of_length_le (by omega), List.take_of_length_le (by omega)]
  generalize rnds ks ws s = r at *
  obtain ⟨a, b, c, d, e, f, g, h⟩ := r
  obtain ⟨a0, b0, c0, d0, e0, f0, g0, h0⟩ := s
  simp only [wP]
  refine AW.go ?_
  refine AW.loopS (fun i : Nat => ⟨123, [(111, .pv (.int .i64 i)), (2, .ptr 2 0), (4, .ptr 4 0), (110, .pv (.agg [wP a, wP b, wP c, wP d, wP e, wP f, wP g, wP h]))], [(2, .cells 120 [.pv (wP (if 0 < i then a0 + a else a0)), .pv (wP (if 1 < i then b0 + b else b0)), .pv (wP (if 2 < i then c0 + c else c0)), .pv (wP (if 3 < i then d0 + d else d0)), .pv (wP (if 4 < i then e0 + e else e0)), .pv (wP (if 5 < i then f0 + f else f0)), .pv (wP (if 6 < i then g0 + g else g0)), .pv (wP (if 7 < i then h0 + h else h0))]), (4, .cells 120 [.pv (wP 0), .pv (wP 0), .pv (wP 0), .pv (wP 0), .pv (wP 0), .pv (wP 0), .pv (wP 0), .pv (wP 0)])]⟩) (fun i => i ≤ 8) (fun i => 8 - i) [111, 2, 4, 110] [2, 4] 0 (by omega) ?_
  rintro i hi K hK
  have hcase : i = 8 ∨ i = 0 ∨ i = 1 ∨ i = 2 ∨ i = 3 ∨ i = 4 ∨ i = 5 ∨ i = 6 ∨ i = 7 := by omega
  rcases hcase with rfl | hcase
  · refine AW.go ?_
    refine AW.condF rfl ?_
    refine AW.go ?_ (by simp only [go_sem, ↓reduceIte, Nat.reduceLT] <;> rfl)
    refine AW.finE (.pv _ .nil) rfl
  rcases hcase with rfl | rfl | rfl | rfl | rfl | rfl | rfl | rfl
  all_goals
    refine AW.go ?_
    refine AW.condT rfl ?_
    refine AW.go ?_ (by simp only [go_sem, ↓reduceIte, Nat.reduceLT] <;> rfl)
    refine AW.indexArr (ho := rfl) rfl rfl tk_119 (by decide) tsh_101 rfl ?_
    refine AW.go ?_ (by simp only [go_sem, ↓reduceIte, wP, w32_add, Nat.reduceLT, nc0, nc1, nc2, nc3, nc4, nc5, nc6, nc7, Int.reduceAdd, wr1, wr2, wr3, wr4, wr5, wr6, wr7, wr8] <;> rfl)
    first
      | exact AW.again hK 1 (by decide) (by decide)
      | exact AW.again hK 2 (by decide) (by decide)
      | exact AW.again hK 3 (by decide) (by decide)
      | exact AW.again hK 4 (by decide) (by decide)
      | exact AW.again hK 5 (by decide) (by decide)
      | exact AW.again hK 6 (by decide) (by decide)
      | exact AW.again hK 7 (by decide) (by decide)
      | exact AW.again hK 8 (by decide) (by decide)
end Go.Ck

set_option linter.unusedVariables false
namespace Go.Ck
open Go.RowKit
section
variable {P : Program} {R : Option Nat} {Φ : Exit → Cx → St → Prop} {k : List It} {C : Cx} {s : St} {all : Array Oper}
theorem Does.sliceO {o : Oper} {d t : Nat} {x : Operand} {lo hi : Option Operand} {vl vh : Option SV} {q off l h m e : Nat} {ea : Bool} {m1 m2 : Option Int} (hg : o.guard = none) (hd : o.dst = some d) (ho : o.op = .slice t x lo hi none) (hx : ev s x = some (.ptr q off)) (hlo : evo s lo = some vl) (hhi : evo s hi = some vh) (h1 : optInt vl = some m1) (h2 : optInt vh = some m2) (el : m1.getD 0 = (l : Int)) (eh : m2.getD (m : Int) = (h : Int)) (hlh : l ≤ h) (hhm : h ≤ m) (hlm : l < m) (ho' : ∃ y, look q s.hp = some y) (hT : tk P t = .arr m e 1 ea) : Does P o d s (.os q (off + l) (h - l)) := fun R Φ k C all r t' hle hl hn hk =>
  AW.sliceO (hle.ev hx) (hle.evo hlo) (hle.evo hhi) h1 h2 el eh hlh hhm hlm (by rw [← hle.hp]; exact ho') (by rw [put_fresh hl hn rfl]; exact hk) hT hg hd ho
theorem CK.sliceO {id i d t : Nat} {usl : List (List Nat)} {T : List (Nat × SV)} {o : Oper} {x : Operand} {lo hi : Option Operand} {vl vh : Option SV} {q off m e : Nat} {ea : Bool} {m1 m2 : Option Int} (us : List Nat) (l hh : Nat) (hT : tk P t = .arr m e 1 ea) (hlh : l ≤ hh) (hhm : hh ≤ m) (hlm : l < m) (h : CK P R Φ k C id all s (i + 1) (usl ++ [us]) (T ++ [(d, .os q (off + l) (hh - l))]))
    (ho : all[i]? = some o := by rfl) (hg : o.guard = none := by rfl) (hd : o.dst = some d := by rfl) (hop : o.op = .slice t x lo hi none := by rfl) (hx : ev (subSt T us s) x = some (.ptr q off) := by simp only [go_sem, ↓reduceIte] <;> rfl) (hlo : evo (subSt T us s) lo = some vl := by simp only [go_sem, ↓reduceIte] <;> rfl) (hhi : evo (subSt T us s) hi = some vh := by simp only [go_sem, ↓reduceIte] <;> rfl) (h1 : optInt vl = some m1 := by rfl) (h2 : optInt vh = some m2 := by rfl) (el : m1.getD 0 = (l : Int) := by rfl) (eh : m2.getD (m : Int) = (hh : Int) := by rfl) (ho' : ∃ y, look q s.hp = some y := by exact ⟨_, rfl⟩) : CK P R Φ k C id all s i usl T := fun hi' hR =>
  h (by simp [hi']) (hR.add (by rw [hi']; exact ho) hg hd (.sliceO hg hd hop hx hlo hhi h1 h2 el eh hlh hhm hlm ho' hT))
end
end Go.Ck
namespace Go.Ck
open Go.RowKit
section
variable {P : Program} {R : Option Nat} {Φ : Exit → Cx → St → Prop} {k : List It} {C : Cx} {s : St} {all : Array Oper}
theorem Le.lk {s t : St} (h : Le s t) {o : Nat} {y : HO} (hy : look o s.hp = some y) : look o t.hp = some y := by rw [← h.hp]; exact hy
theorem Does.callP {o : Oper} {d : Nat} {f : FuncId} {svs args : List SV} {L : List Place} {p : PV} (hg : o.guard = none) (hd : o.dst = some d) (hc : Ck.callOp s o.op = some (f, svs)) (hF : Fn P f [] args (fun rs H => rs = [.pv p] ∧ H = [])) (hP : ∀ t, Le s t → Pass P t id svs args L none) (hB : okB id [] args L none = true) (hclo : p.clo = true) : Does P o d s (.pv p) := fun R Φ k C all r t hle hl hn h => by
  have hA : okA t id [] L [SV.pv p] [] = true := by
    simp [okA, resOK, nodupB, namesOf, freshO, SV.clo, hclo]
  refine AW.callE id hF (hP t hle) ?_ hg hd (hle.callOp hc) trivial hB hA rfl
  have : behind t id none [] d [SV.pv p] [] = put d (.pv p) t := rfl
  rw [this, put_fresh hl hn rfl]; exact h
/-- A call that may be lent lists. -/
theorem CK.callP {id i f d : Nat} {usl : List (List Nat)} {T : List (Nat × SV)} {o : Oper} {svs args : List SV} {L : List Place} {p : PV} (us : List Nat) (hF : Fn P f [] args (fun rs H => rs = [.pv p] ∧ H = [])) (hP : ∀ t, Le (subSt T us s) t → Pass P t _root_.id svs args L none) (h : CK P R Φ k C id all s (i + 1) (usl ++ [us]) (T ++ [(d, .pv p)]))
    (ho : all[i]? = some o := by rfl) (hg : o.guard = none := by rfl) (hd : o.dst = some d := by rfl) (hc : callOp (subSt T us s) o.op = some (f, svs) := by simp only [go_sem, ↓reduceIte] <;> rfl) (hB : okB _root_.id [] args L none = true := by simp only [go_sem, ↓reduceIte]) (hclo : p.clo = true := by rfl) : CK P R Φ k C id all s i usl T := fun hi hR =>
  h (by simp [hi]) (hR.add (by rw [hi]; exact ho) hg hd (.callP hg hd hc hF hP hB hclo))
end
end Go.Ck
namespace Go.Ck
section
variable {P : Program} {R : Option Nat} {Φ : Exit → Cx → St → Prop} {k : List It} {C : Cx} {s : St}
/-- The next m steps, no more. -/
theorem AW.goM (m : Nat) {e e' : Exit} {k k' : List It} {s s' : St} (h : AW P R Φ e' k' C s') (hn : nrm P false m e k s = ⟨e', k', s'⟩ := by simp only [go_sem, ↓reduceIte] <;> rfl) : AW P R Φ e k C s := by
  refine nrm_sound (fl := false) m ?_
  rw [hn]
  exact h
end
end Go.Ck
namespace Go.Ck
open Go.RowKit
/-- A list's elements, all pure. -/
def fillPK (z : Nat) (i : Nat) (xs : List PV) : Option SV → Option (List PV)
  | some (.pv p) => if p.cells.length = z ∧ i < xs.length then some (xs.set i p) else none
  | _ => none
def fillPV (z : Nat) (s : St) : List (Nat × Operand) → Option (List PV) → Option (List PV)
  | [], xs => xs
  | (i, x) :: r, some xs => fillPV z s r (fillPK z i xs (ev s x))
  | _ :: _, none => none
theorem fillPV_none (z : Nat) (s : St) (l : List (Nat × Operand)) : fillPV z s l none = none := by cases l <;> rfl
theorem fillPV_sound {P : Program} {z : Nat} {s t : St} (h : Le s t) : ∀ {l : List (Nat × Operand)} {xs ys : List PV}, fillPV z s l (some xs) = some ys → fillElems P z l xs t = some (ys, t)
  | [], xs, ys, hf => by cases hf; rfl
  | (i, x) :: r, xs, ys, hf => by
    simp only [fillPV] at hf
    cases hx : ev s x with
    | none => rw [hx] at hf; simp [fillPK, fillPV_none] at hf
    | some v =>
      rw [hx] at hf
      cases v with
      | pv p =>
        simp only [fillPK] at hf
        split at hf
        · rename_i hc
          simp only [fillElems, h.ev hx, freeze]
          rw [if_pos hc]
          exact fillPV_sound h hf
        · rw [fillPV_none] at hf; cases hf
      | _ => simp [fillPK, fillPV_none] at hf
section
variable {P : Program} {R : Option Nat} {Φ : Exit → Cx → St → Prop} {k : List It} {C : Cx} {s : St} {all : Array Oper}
theorem Does.list {o : Oper} {d ty n e ez eb : Nat} {ea : Bool} {ps : Array (Nat × Operand)} {z : PV} {xs : List PV} (hg : o.guard = none) (hd : o.dst = some d) (ho : o.op = .buildSlice ty n ps) (hT : tk P ty = .sl e ez eb ea) (hz : zeroElem P e = some z) (h1 : n * ez ≤ 16777216) (h2 : 0 < ez) (h3 : n ≤ maxLen) (hf : fillPV ez s ps.toList (some (List.replicate n z)) = some xs) : Does P o d s (.own e xs) := fun R Φ k C all r t hle hl hn h => by
  refine AW.step (s' := put d (.own e xs) t) hg ?_ ?_
  · unfold astep
    simp only [hd, ho, reads, Bool.false_eq_true, if_false, orElse, aeff, hT, hz]
    rw [if_pos ⟨h1, h2, h3⟩, fillPV_sound hle hf]
  · rw [put_fresh hl hn rfl]; exact h
theorem CK.list {id i d ty n e ez eb : Nat} {ea : Bool} {usl : List (List Nat)} {T : List (Nat × SV)} {o : Oper} {ps : Array (Nat × Operand)} {z : PV} {xs : List PV} (us : List Nat) (h : CK P R Φ k C id all s (i + 1) (usl ++ [us]) (T ++ [(d, .own e xs)]))
    (ho : all[i]? = some o := by rfl) (hg : o.guard = none := by rfl) (hd : o.dst = some d := by rfl) (hop : o.op = .buildSlice ty n ps := by rfl) (hT : tk P ty = .sl e ez eb ea := by simp only [go_sem] <;> rfl) (hz : zeroElem P e = some z := by simp only [go_sem] <;> rfl) (hf : fillPV ez (subSt T us s) ps.toList (some (List.replicate n z)) = some xs := by simp only [go_sem, ↓reduceIte] <;> rfl) (h1 : n * ez ≤ 16777216 := by decide) (h2 : 0 < ez := by decide) (h3 : n ≤ maxLen := by exact le_maxLen _) : CK P R Φ k C id all s i usl T := fun hi hR =>
  h (by simp [hi]) (hR.add (by rw [hi]; exact ho) hg hd (.list hg hd hop hT hz h1 h2 h3 hf))
end
theorem fillPV_nil (z : Nat) (s : St) (xs : List PV) : fillPV z s [] (some xs) = some xs := rfl
theorem fillPV_cons (z : Nat) (s : St) (i : Nat) (x : Operand) (r : List (Nat × Operand)) (xs : List PV) : fillPV z s ((i, x) :: r) (some xs) = fillPV z s r (fillPK z i xs (ev s x)) := rfl
attribute [go_sem] fillPV_nil fillPV_cons fillPK
end Go.Ck
namespace Go.Ck
open Go.RowKit
section
variable {P : Program} {R : Option Nat} {Φ : Exit → Cx → St → Prop} {k : List It} {C : Cx} {s : St} {all : Array Oper}
theorem AW.pure {e : Exit} {Q : Prop} (hq : ∀ B a w, AS P R C B s a w → Q) (h : Q → AW P R Φ e k C s) : AW P R Φ e k C s := fun B a w ha => h (hq B a w ha) B a w ha
/-- Nothing hangs on a slot that is not told. -/
theorem AS.noHang {B : Bs} {a : Act} {w : World} (ha : AS P R C B s a w) {d : Nat} (hd : look d s.sl = none) : ∀ d' v, look d' s.sl = some v → v.on (.slot d) = false := by
  obtain ⟨_, E, hE⟩ := ha
  intro d' v hl
  cases hon : v.on (.slot d) with
  | false => rfl
  | true =>
    obtain ⟨_, ⟨e, xs, h2⟩, _⟩ := hE.na (.slot d') v (.slot d) hl hon
    simp only [St.at] at h2
    rw [hd] at h2; cases h2
theorem look_killL' (p : Place) (d : Nat) : ∀ l : List (Nat × SV), (∀ v, look d l = some v → v.on p = false) → look d (killL p l) = look d l
  | [], _ => rfl
  | (k, v) :: r, h => by
    simp only [killL, look]
    by_cases hk : k = d
    · rw [if_pos hk, if_pos hk, h v (by simp [look, hk])]; rfl
    · rw [if_neg hk, if_neg hk]
      exact look_killL' p d r (fun u hu => h u (by simp only [look, if_neg hk]; exact hu))
/-- A fresh list, as a value. -/
theorem AW.fresh {e0 : Exit} {d e z : Nat} {xs : List PV} (hd : look d s.sl = none) (hh : ∀ d' v, look d' s.sl = some v → v.on (.slot d) = false) (hz : P.cellsOf e = z) (h : AW P R Φ e0 k C (setSlot d (.pv (.sl z xs)) s)) : AW P R Φ e0 k C (setSlot d (.own e xs) s) :=
  AW.weak (fun B a w ha => by
    obtain ⟨hc, E, hE⟩ := ha
    have hat : (setSlot d (.own e xs) s).at (.slot d) = some (.own e xs) := by simp [St.at, setSlot, look]
    have hf : Ck.freeze P (setSlot d (.own e xs) s) (.al (.slot d)) = some (.sl (P.cellsOf e) xs, setAt (.slot d) (.pv (.sl (P.cellsOf e) xs)) (del (.slot d) (setSlot d (.own e xs) s))) := by
      simp only [Ck.freeze, hat, freezeO]
    obtain ⟨E', _, hE', _⟩ := freeze_sound hE hf (.al _)
    refine ⟨B, hc, E', Rel.same ?_ ?_ (fun d' => ?_) hE'⟩
    · rfl
    · rfl
    · simp only [setAt, del, setSlot, kill, look, killL, hz]
      by_cases hk : d = d'
      · simp only [if_pos hk]
      · simp only [if_neg hk]
        exact look_killL' _ _ _ (fun v hv => hh d' v hv)) h
theorem Does.listZ {o : Oper} {d ty n e ez eb : Nat} {ea : Bool} {ps : Array (Nat × Operand)} {z : PV} {xs : List PV} (hg : o.guard = none) (hd : o.dst = some d) (ho : o.op = .buildSlice ty n ps) (hT : tk P ty = .sl e ez eb ea) (hz : zeroElem P e = some z) (h1 : n * ez ≤ 16777216) (h2 : 0 < ez) (h3 : n ≤ maxLen) (hf : fillPV ez s ps.toList (some (List.replicate n z)) = some xs) (hce : P.cellsOf e = ez) : Does P o d s (.pv (.sl ez xs)) := fun R Φ k C all r t hle hl hn h => by
  refine AW.pure (fun B a w ha => ha.noHang hl) (fun hh => ?_)
  exact Does.list hg hd ho hT hz h1 h2 h3 hf R Φ k C all r t hle hl hn (AW.fresh hl hh hce h)
theorem CK.listZ {id i d ty n e ez eb : Nat} {ea : Bool} {usl : List (List Nat)} {T : List (Nat × SV)} {o : Oper} {ps : Array (Nat × Operand)} {z : PV} {xs : List PV} (us : List Nat) (h : CK P R Φ k C id all s (i + 1) (usl ++ [us]) (T ++ [(d, .pv (.sl ez xs))]))
    (ho : all[i]? = some o := by rfl) (hg : o.guard = none := by rfl) (hd : o.dst = some d := by rfl) (hop : o.op = .buildSlice ty n ps := by rfl) (hT : tk P ty = .sl e ez eb ea := by simp only [go_sem] <;> rfl) (hz : zeroElem P e = some z := by simp only [go_sem] <;> rfl) (hf : fillPV ez (subSt T us s) ps.toList (some (List.replicate n z)) = some xs := by simp only [go_sem, ↓reduceIte] <;> rfl) (h1 : n * ez ≤ 16777216 := by decide) (h2 : 0 < ez := by decide) (h3 : n ≤ maxLen := by exact le_maxLen _) (hce : P.cellsOf e = ez := by simp only [go_sem]) : CK P R Φ k C id all s i usl T := fun hi hR =>
  h (by simp [hi]) (hR.add (by rw [hi]; exact ho) hg hd (.listZ hg hd hop hT hz h1 h2 h3 hf hce))
end
end Go.Ck
