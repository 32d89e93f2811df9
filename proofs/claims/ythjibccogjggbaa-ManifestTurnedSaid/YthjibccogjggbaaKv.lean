/- What is proved here: parts of the proofs of this seat's statements (a verified evaluator for calls over pure values, its laws, and contracts of functions). No condition. -/
import Derived.Test.YthjibccogjggbaaKr
import Derived.Sort.Grow
import Derived.Sort.EncStr
import Derived.Test.YthjibccogjggbaaKu
import Derived.Shelf.Sort.Plain
import Derived.Test.YthjibccogjggbaaKn
import Derived.Test.YthjibccogjggbaaKt
set_option linter.all false
set_option linter.unusedVariables false
namespace Go.Ck
open Go.RowKit
/-- Strings, as elements. -/
def strs (ss : List (List UInt8)) : List PV := ss.map .str
def sortS (ss : List (List UInt8)) : List (List UInt8) := ss.mergeSort fun x y => decide (x ≤ y)
theorem sortS_len (ss : List (List UInt8)) : (sortS ss).length = ss.length := by simp [sortS]
/-- The library's sort, as it is laid. -/
def SortOK (P : Program) (f : FuncId) : Prop := ∀ (blk off cap : Nat) (ss : List (List UInt8)) (w : World), Go.Sort.Holds Go.Proofs.encStr w blk off ss.toArray → blk < w.heap.size → ss.length < 4611686018427387904 →
    Calls P f #[.slice (some ⟨blk, off, none⟩) ss.length cap] w fun e w' => e = .returned (.tuple #[]) ∧ ∃ n os, w' = Go.Sort.grow (Go.Sort.putRow Go.Proofs.encStr (Go.Sort.ahead w n) blk off (ss.mergeSort fun x y => decide (x ≤ y)).toArray) os

theorem strs_len (ss : List (List UInt8)) : (strs ss).length = ss.length := by simp [strs]
theorem strs_one (ss : List (List UInt8)) : (strs ss).all PV.one = true := by
  simp only [strs, List.all_map, List.all_eq_true]
  intro x _; rfl
theorem flat_strs (ss : List (List UInt8)) : flat (strs ss) = strs ss := flat_one (strs_one ss)
theorem ROs_strs {A : Nat → Prop} {w : World} {ss : List (List UInt8)} {cs : List Value} (h : ROs A w (strs ss) cs) : cs = ss.map Go.Proofs.encStr := by
  refine List.ext_getElem? (fun i => ?_)
  rw [List.getElem?_map]
  cases hs : ss[i]? with
  | none =>
    have : ss.length ≤ i := List.getElem?_eq_none_iff.1 hs
    have hl := h.1
    rw [strs_len] at hl
    rw [List.getElem?_eq_none (by omega)]; rfl
  | some l =>
    have hg : (strs ss)[i]? = some (.str l) := by unfold strs; rw [List.getElem?_map, hs]; rfl
    obtain ⟨v, h1, h2⟩ := h.at hg
    cases h2
    rw [h1]; rfl
theorem ROs_ofStrs (A : Nat → Prop) (w : World) (ss : List (List UInt8)) : ROs A w (strs ss) (ss.map Go.Proofs.encStr) := by
  refine ⟨by simp [strs_len], fun c hc => List.all_eq_true.1 (strs_one ss) c hc, fun i c v hc hv => ?_⟩
  unfold strs at hc
  rw [List.getElem?_map, Option.map_eq_some_iff] at hc hv
  obtain ⟨l, hl, rfl⟩ := hc
  obtain ⟨l', hl', rfl⟩ := hv
  rw [hl] at hl'; cases hl'
  exact .str l
section
variable {P : Program} {R : Option Nat} {Φ : Exit → Cx → St → Prop} {k : List It} {C : Cx} {s : St}
theorem AW.sortOwn {all : Array Oper} {o : Oper} {r : List Oper} {c : Call} {f : FuncId} {x : Operand} {p : Place} {e d : Nat} {ss : List (List UInt8)} (hS : SortOK P f) (hfn : ∃ fn, P.funcs[f]? = some fn ∧ (fn.name == "runtime.NumGoroutine") = false ∧ fn.body.isNone = false)
    (hx : ev s x = some (.al p)) (hp : s.at p = some (.own e (strs ss))) (hne : ss ≠ []) (hl : ss.length < 2 ^ 40) (hce : P.cellsOf e = 1)
    (hk : AW P R Φ .normal (.ops all r :: k) C (putTupS d [] (setAt p (.own e (strs (sortS ss))) s)))
    (hg : o.guard = none := by rfl) (hd : o.dst = some d := by rfl) (ho : o.op = .call c := by rfl) (hc : c.callee = .value (.func f) := by rfl) (hca : c.args = #[x] := by rfl) : AW P R Φ .normal (.ops all (o :: r) :: k) C s := fun B a w ha => by
  simp only [den]
  refine wpListIn_want (by simp [Region.wanted, hg]) (fun c' hc' => by rw [ho] at hc'; cases hc') ?_
  obtain ⟨fn, hfn, hname, hbody⟩ := hfn
  obtain ⟨hdf, E, h⟩ := ha
  have hv := ev_rs h hx
  generalize hxe : a.eval x = v1 at hv
  cases hv with | al => ?_
  obtain ⟨x0, hx0, hpe, ⟨cs, ⟨hcl, hrow⟩, hro, hz, hml⟩, hom⟩ := h.place p _ hp
  rw [flat_strs] at hro
  have hcs := ROs_strs hro
  subst hcs
  rw [hce, strs_len] at hcl hrow
  have hpos : 0 < ss.length := List.length_pos_iff.2 hne
  rcases hrow with ⟨_, h0⟩ | ⟨g, cap, cur, hh, _, hg1, hle, hmx, hsz, htk⟩
  · omega
  rw [Nat.mul_one] at htk hsz
  have hrun : (execOp a.eval o).run P w = .ok (.enter f #[.slice (some ⟨g, 0, none⟩) ss.length cap]) w := by
    have hbody' : ∃ b, fn.body = some b := by cases hb : fn.body with | none => simp [hb] at hbody | some b => exact ⟨b, rfl⟩
    obtain ⟨b, hb⟩ := hbody'
    have hname' : ¬ fn.name = "runtime.NumGoroutine" := by simpa using hname
    have e1 : a.eval (.func f) = .func (.func f) #[] #[] := rfl
    have e2 : E.hdr p = .slice (some ⟨g, 0, none⟩) ss.length cap := by rw [hh]
    simp [execOp, ho, resolve, hc, hca, e1, Deferred.ofValue, invoke, callFunc, hfn, hname', hb, hxe, e2]
  rw [hrun, Oper.uponIn_enter]
  refine ⟨fun h => by simp [fence, Fence.wide] at h, callsIn_fence ?_⟩
  have hgw : g < w.heap.size := (Array.getElem?_eq_some_iff.1 hg1).1
  have hgetc : ∀ j, j < ss.length → cur[j]? = some (Go.Proofs.encStr (ss.toArray[j]!)) := by
    intro j hj
    have h1 : (cur.toList.take ss.length)[j]? = some (Go.Proofs.encStr (ss[j]'hj)) := by rw [htk, List.getElem?_map, List.getElem?_eq_getElem hj]; rfl
    rw [List.getElem?_take, if_pos hj] at h1
    rw [← Array.getElem?_toList, h1]
    congr 1
    simp [getElem!_pos, hj]
  have hH : Go.Sort.Holds Go.Proofs.encStr w g 0 ss.toArray := by
    intro j hj
    have hj' : j < ss.length := by simpa using hj
    refine ⟨?_, ?_⟩
    · rw [Nat.zero_add]
      simp only [World.cell?, hg1]
      exact hgetc j hj'
    · simp [World.frozen?, hg1]
  refine (hS g 0 cap ss w hH hgw (by omega)).mono (fun en w' he => ?_)
  obtain ⟨rfl, nd, os, rfl⟩ := he
  simp only
  -- the world has grown
  have hS2 : (sortS ss).length = ss.length := sortS_len ss
  let w1 := Go.Sort.grow (Go.Sort.ahead w nd) os
  have hw1s : w1.heap.size = w.heap.size + os.size := by simp [w1, Go.Sort.grow, Go.Sort.ahead]
  have hw1b : ∀ b, b < w.heap.size → w1.heap[b]? = w.heap[b]? := by
    intro b hb
    show (w.heap ++ os)[b]? = _
    rw [Array.getElem?_append_left hb]
  have hgr1 : Grow (fun _ => False) w w1 := ⟨rfl, rfl, rfl, by rw [hw1s]; omega, fun b hb _ => hw1b b hb⟩
  have hR1 := h.world hgr1 (by simp) (fun b => w.heap.size ≤ b ∧ b < w1.heap.size) (fun b hb => hb)
  -- the block
  let w2 := Go.Sort.grow (Go.Sort.putRow Go.Proofs.encStr (Go.Sort.ahead w nd) g 0 (sortS ss).toArray) os
  have hmod : ∀ b, (Go.Sort.putRow Go.Proofs.encStr (Go.Sort.ahead w nd) g 0 (sortS ss).toArray).heap[b]? = if g = b then some (.cells (Go.Sort.putCells Go.Proofs.encStr 0 (sortS ss).toArray cur) e (0, 0)) else w.heap[b]? := by
    intro b
    show ((Go.Sort.ahead w nd).heap.modify g _)[b]? = _
    rw [Array.getElem?_modify]
    by_cases hgb : g = b
    · subst hgb
      rw [if_pos rfl, if_pos rfl]
      show (w.heap[g]?).map _ = _
      rw [hg1]; rfl
    · rw [if_neg hgb, if_neg hgb]; rfl
  have hms : (Go.Sort.putRow Go.Proofs.encStr (Go.Sort.ahead w nd) g 0 (sortS ss).toArray).heap.size = w.heap.size := by
    show ((Go.Sort.ahead w nd).heap.modify g _).size = _
    rw [Array.size_modify]; rfl
  have hw2s : w2.heap.size = w1.heap.size := by
    show ((Go.Sort.putRow Go.Proofs.encStr (Go.Sort.ahead w nd) g 0 (sortS ss).toArray).heap ++ os).size = _
    rw [Array.size_append, hms, hw1s]
  have hw2b : ∀ b, b < w.heap.size → w2.heap[b]? = if g = b then some (.cells (Go.Sort.putCells Go.Proofs.encStr 0 (sortS ss).toArray cur) e (0, 0)) else w.heap[b]? := by
    intro b hb
    show ((Go.Sort.putRow Go.Proofs.encStr (Go.Sort.ahead w nd) g 0 (sortS ss).toArray).heap ++ os)[b]? = _
    rw [Array.getElem?_append_left (by rw [hms]; exact hb), hmod]
  have hgr2 : Grow (fun b => b = g) w1 w2 := by
    refine ⟨rfl, rfl, rfl, by rw [hw2s]; exact Nat.le_refl _, fun b hb hn => ?_⟩
    by_cases hbw : b < w.heap.size
    · rw [hw2b b hbw, if_neg (fun h => hn h.symm), hw1b b hbw]
    · show ((Go.Sort.putRow Go.Proofs.encStr (Go.Sort.ahead w nd) g 0 (sortS ss).toArray).heap ++ os)[b]? = (w.heap ++ os)[b]?
      rw [Array.getElem?_append_right (by rw [hms]; omega), Array.getElem?_append_right (by omega), hms]
  have hob : (E.hdr p).ownBlock = some g := by rw [hh]; rfl
  have hcur2 : ((Go.Sort.putCells Go.Proofs.encStr 0 (sortS ss).toArray cur).toList.take ss.length) = (sortS ss).map Go.Proofs.encStr := by
    refine List.ext_getElem? (fun j => ?_)
    rw [List.getElem?_take, List.getElem?_map]
    by_cases hj : j < ss.length
    · rw [if_pos hj, Array.getElem?_toList]
      unfold Go.Sort.putCells
      rw [Array.getElem?_mapIdx, hgetc j hj]
      have hj2 : j < (sortS ss).length := by omega
      simp [hj2, getElem!_pos]
    · rw [if_neg hj, List.getElem?_eq_none (by omega)]; rfl
  have hown : OwnL P (fun b => (E.addOm (fun b => w.heap.size ≤ b ∧ b < w1.heap.size)).om b ∨ B.F b) w2 e ((E.addOm (fun b => w.heap.size ≤ b ∧ b < w1.heap.size)).hdr p) (strs (sortS ss)) := by
    refine ⟨(sortS ss).map Go.Proofs.encStr, ⟨?_, .inr ⟨g, cap, Go.Sort.putCells Go.Proofs.encStr 0 (sortS ss).toArray cur, ?_, Nat.zero_le _, ?_, ?_, hmx, ?_, ?_⟩⟩, ?_, ?_, ?_⟩
    · rw [hce, strs_len]; simp
    · rw [strs_len, hS2]; exact hh
    · rw [hw2b g hgw, if_pos rfl]
    · rw [strs_len, hS2]; exact hle
    · rw [hce, Nat.mul_one]
      unfold Go.Sort.putCells
      rw [Array.size_mapIdx]; exact hsz
    · rw [hce, strs_len, hS2, Nat.mul_one]; exact hcur2
    · rw [flat_strs]; exact ROs_ofStrs _ _ _
    · intro x hx
      rw [hce]
      unfold strs at hx
      obtain ⟨l, _, rfl⟩ := List.mem_map.1 hx
      rfl
    · rw [strs_len, hS2]
      rw [strs_len] at hml; exact hml
  have hR2 := hR1.writeOwn hp hob hgr2 hw2s hown
  -- the result
  obtain ⟨hcl2, hfr⟩ := hR2.clear d
  rw [hd]
  unfold putTupS at hk
  split at hk
  · rename_i hdn
    obtain ⟨E', hE'⟩ := hcl2.putTup (us := []) (vs := []) (by rw [clear_n]; exact hdn) hfr rfl (by simp) (by simp)
    exact hk B _ _ ⟨by rw [put_defers]; exact hdf, E', hE'⟩
  · rename_i hdn
    have hbig : a.put (some d) (.tuple #[]) = a := by
      show (⟨a.tmps.setIfInBounds d (.tuple #[]), a.defers⟩ : Act) = a
      rw [Array.setIfInBounds_eq_of_size_le (by rw [← hR2.size]; omega)]
    rw [hbig]
    exact hk B _ _ ⟨hdf, _, hR2⟩
end
end Go.Ck
namespace Go.Ck
section
variable {P : Program} {R : Option Nat} {Φ : Exit → Cx → St → Prop} {k : List It} {C : Cx} {s : St}
/-- A constant that nobody reads. -/
theorem AW.unread {all : Array Oper} {o : Oper} {r : List Oper} {d : Nat} {v : Value} (hk : AW P R Φ .normal (.ops all r :: k) C (put d .dead s)) (hg : o.guard = none := by rfl) (hd : o.dst = some d := by rfl) (ho : o.op = .assign (.const v) := by rfl) : AW P R Φ .normal (.ops all (o :: r) :: k) C s := fun B a w ha => by
  simp only [den]
  refine wpListIn_want (by simp [Region.wanted, hg]) (fun c hc => by rw [ho] at hc; cases hc) ?_
  obtain ⟨hdf, E, hE⟩ := ha
  have hrun : (execOp a.eval o).run P w = .ok (.value v) w := by
    simp only [execOp, ho, Sem.run_pure]
    rfl
  rw [hrun, Oper.uponIn_value, hd]
  refine hk B _ w ⟨by rw [put_defers]; exact hdf, E, ?_⟩
  unfold put
  split
  · rename_i hdn
    obtain ⟨hc, hf⟩ := hE.clear d
    have : (if SV.dead.on (.slot d) = true then SV.dead else SV.dead) = SV.dead := by split <;> rfl
    rw [this]
    exact hc.setDead v (by rw [clear_n]; exact hdn) hf
  · rename_i hdn
    show Rel P B.O B.w B.F s E (a.tmps.setIfInBounds d v) w
    rw [Array.setIfInBounds_eq_of_size_le (by rw [← hE.size]; omega)]
    exact hE
end
end Go.Ck
namespace Go.Ck
open Go.RowKit
section
variable {P : Program} {R : Option Nat} {Φ : Exit → Cx → St → Prop} {k : List It} {C : Cx} {s : St}
/-- A map out of a tuple. -/
theorem AW.extractM {all : Array Oper} {o : Oper} {r : List Oper} {d t i q : Nat} (hp : s.at (.part t i) = some (.mp q)) (hq : ∃ y, look q s.hp = some y) (hk : AW P R Φ .normal (.ops all r :: k) C (put d (.mp q) s)) (hg : o.guard = none := by rfl) (hd : o.dst = some d := by rfl) (ho : o.op = .extract (.tmp t) i := by rfl) : AW P R Φ .normal (.ops all (o :: r) :: k) C s := by
  refine AW.opSV hg hd (fun c hc => by rw [ho] at hc; cases hc) ⟨rfl, by simp [SV.on], fun o hpt => ?_⟩ (fun B E a w _ hE => ?_) hk
  · have : q = o := by simpa [SV.pts] using hpt
    subst this; exact hq
  · obtain ⟨x, ⟨vs, h1, h2⟩, hv⟩ := hE.place _ _ hp
    have e1 : a.eval (.tmp t) = .tuple vs := by
      show a.tmps.getD t undef = _
      simp [Array.getD_eq_getD_getElem?, h1]
    refine ⟨x, ?_, hv⟩
    simp [execOp, ho, e1, Instr.extract, h2]
end
end Go.Ck

set_option linter.unusedVariables false
namespace Go.Ck
def szB (k : Nat) : Nat := 64 * 4 ^ k
theorem szB_succ (k : Nat) : szB (k + 1) = szB k * 4 := by simp [szB, Nat.pow_succ, Nat.mul_assoc]
theorem szB_le : ∀ k, k ≤ 9 → szB k ≤ 16777216 := by decide
theorem szB_in : ∀ k, k ≤ 9 → (szB k ≤ 4194304 ↔ k ≤ 8) := by decide
theorem szB_pos (k : Nat) : 0 < szB k := by simp [szB]; exact Nat.pow_pos (by decide)
def szs (i : Nat) : Option (List PV) := if i < 9 then some [.int .i64 (i : Int), .int .i64 (szB i : Int)] else none
/-- The bucket's size. -/
def padSz (k : Int) : Nat := if 0 ≤ k ∧ k ≤ 8 then szB k.toNat else 0
def padAcc (k : Int) (i : Nat) : Nat := if 0 ≤ k ∧ k < i then szB k.toNat else 0
theorem padAcc_0 (k : Int) : padAcc k 0 = 0 := by unfold padAcc; rw [if_neg (by omega)]
theorem padAcc_9 (k : Int) : padAcc k 9 = padSz k := by unfold padAcc padSz; congr 1; simp; omega
theorem padAcc_eq (i : Nat) : padAcc (i : Int) (i + 1) = szB i := by unfold padAcc; rw [if_pos (by omega)]; simp
theorem padAcc_ne (k : Int) (i : Nat) (h : (i : Int) ≠ k) : padAcc k (i + 1) = padAcc k i := by unfold padAcc; congr 1; simp; omega
theorem padSz_zero (k : Int) : padSz k = 0 ↔ ¬ (0 ≤ k ∧ k ≤ 8) := by
  unfold padSz
  split
  · rename_i h; have := szB_pos k.toNat; constructor
    · intro h0; omega
    · intro hn; exact absurd h hn
  · rename_i h; exact ⟨fun _ => h, fun _ => rfl⟩
abbrev Ent := List UInt8 × Int
def entP (e : Ent) : PV := .agg [.str e.1, .int .i64 e.2]
def entsP (es : List Ent) : List PV := es.map entP
theorem entsP_len (es : List Ent) : (entsP es).length = es.length := by simp [entsP]
attribute [go_sem] entsP_len
theorem entsP_get {es : List Ent} {i : Nat} {e : Ent} (h : es[i]? = some e) : (entsP es)[i]? = some (.agg [.str e.1, .int .i64 e.2]) := by
  unfold entsP; rw [List.getElem?_map, h]; rfl
structure Man where
  v : Nat
  prev : List Nat
  es : List Ent
  root : List Nat
def manP (m : Man) : PV := .agg [.int .u64 (m.v : Int), .sl 1 (bytes m.prev), .sl 2 (entsP m.es), .sl 1 (bytes m.root)]
def badB (e : Ent) : Bool := padSz e.2 == 0
def longB (e : Ent) : Bool := decide (64 < e.1.length)
def wrongM (m : Man) : Nat :=
  if m.v = 18446744073709551615 ∨ m.prev.length ≠ 32 ∨ m.root.length ≠ 32 then 1
  else if m.es.any badB = true then 1
  else if 1048576 < m.es.length ∨ m.es.any longB = true then 4 else 0
end Go.Ck

set_option linter.unusedVariables false
set_option maxRecDepth 100000
set_option maxHeartbeats 400000
namespace Go.Ck
open Go.Proofs
theorem sizes_fn : Fn Try.prog 74 [] [] (fun rs H' => rs = [.fn 87 []] ∧ H' = []) := by
  refine Fn.of_body (fn := Try.f74) (n := 1) (res := [.tmp 0]) (by kernel_rfl) rfl rfl rfl rfl rfl (fun C => ?_)
  refine AW.go ?_
  refine AW.finE (.fn rfl .nil) rfl
theorem sizes_iter : Iter Try.prog 87 [] [] szs := by
  refine Iter.of_body (fn := Try.f87) (n := 15) (by kernel_rfl) rfl rfl rfl rfl (fun l X X0 N hY hN => ?_)
  refine AW.go ?_
  refine AW.loopC (n := 9) (fun m C s => ∃ i, m = 9 - i ∧ i ≤ 9 ∧ i ≤ N ∧ C = plain (X i) ∧ keepB [0, 2, 3] [] s = ⟨15, [(0, .yl l), (2, .pv (.int .i64 i)), (3, .pv (.int .i64 (szB i : Int)))], []⟩ ∧ keptB none [0, 2, 3] [] s = true) ⟨0, rfl, by omega, Nat.zero_le _, rfl, by simp only [go_sem, ↓reduceIte] <;> rfl, by simp only [go_sem, ↓reduceIte]⟩ ?_
  rintro m C s ⟨i, rfl, hi, hiN, rfl, hs, hk⟩
  refine AW.keepB [0, 2, 3] [] hk hs ?_
  have hin := szB_in i hi
  have hle := szB_le i hi
  have hsu := szB_succ i
  refine AW.go ?_
  refine AW.cond rfl (fun hc => ?_) (fun hc => ?_)
  · have h8 : i ≤ 8 := hin.1 (by have := of_decide_eq_true hc; omega)
    have hxi : szs i = some [.int .i64 (i : Int), .int .i64 (szB i : Int)] := by unfold szs; rw [if_pos (by omega)]
    by_cases hn : i = N
    · rcases hN with h | h
      · rw [← hn, hxi] at h; cases h
      · rw [hn]; exact AW.absurdC h
    obtain ⟨p, hp, hY1⟩ := hY _ (by omega : i < N)
    rw [hxi] at hp
    cases hp
    have e1 : IntKind.i64.wrap ((i : Int) + 1) = ((i + 1 : Nat) : Int) := wrap_i64_succ (by omega)
    have e2 : IntKind.i64.wrap ((szB i : Int) * 4) = (szB (i + 1) : Int) := by rw [wrap_i64_of (by omega) (by omega), hsu]; omega
    refine AW.go ?_
    refine AW.yield hY1 rfl rfl ?_ ?_
    · refine AW.go ?_
      refine AW.condF rfl ?_
      refine AW.go ?_ (by simp only [go_sem, ↓reduceIte, e1, e2] <;> rfl)
      refine AW.stop ⟨9 - (i + 1), by omega, i + 1, rfl, by omega, by omega, rfl, by simp only [go_sem, ↓reduceIte] <;> rfl, by simp only [go_sem, ↓reduceIte]⟩
    · refine AW.go ?_
      refine AW.condT rfl ?_
      refine AW.go ?_
      exact AW.nil ⟨.inr rfl, .inr rfl⟩
  · have h9 : i = 9 := by
      have := of_decide_eq_false hc
      apply Classical.byContradiction; intro h
      have := hin.2 (by omega); omega
    subst h9
    have hend : szs 9 = none := rfl
    have hNe : 9 = N := by
      apply Classical.byContradiction
      intro hne
      obtain ⟨p, hp, _⟩ := hY _ (by omega : 9 < N)
      rw [hend] at hp; cases hp
    rw [hNe] at hend
    rw [hNe]
    refine AW.go ?_
    exact AW.nil ⟨.inl rfl, .inl ⟨hend, rfl⟩⟩
theorem size_fn (k : Int) : Fn Try.prog 53 [] [.pv (.int .i64 k)] (fun rs H' => rs = [.pv (.int .i64 (padSz k : Nat))] ∧ H' = []) := by
  refine Fn.of_bodyR (fn := Try.f53) (n := 14) (res := [.tmp 2]) (by kernel_rfl) rfl rfl rfl rfl rfl (fun C => ?_)
  rw [← padAcc_9]
  refine AW.go ?_
  refine AW.callE (fun _ => 0) sizes_fn .nil ?_
  refine AW.go ?_
  refine AW.rangeFunc [1, 3] [1, 3] (fun i hp => hp = [(1, .cells 3 [.pv (.int .i64 k)]), (3, .cells 3 [.pv (.int .i64 (padAcc k i : Nat))])]) (fun _ _ => False) 9 sizes_iter rfl (by simp only [go_sem, ↓reduceIte]) (by simp only [go_sem, ↓reduceIte]) (by simp only [go_sem, ↓reduceIte]) (by simp only [go_sem, ↓reduceIte] <;> rfl) rfl rfl rfl rfl (by rw [padAcc_0]; rfl) ?_ ?_ (.inl rfl) ?_ ?_ ?_
  · intro i p hp
    unfold szs at hp
    split at hp
    · cases hp; rfl
    · cases hp
  · intro i hi
    exact ⟨_, by unfold szs; rw [if_pos hi]⟩
  · intro i p hi hp
    unfold szs at hp
    rw [if_pos hi] at hp
    cases hp
    rintro _ rfl l C1
    refine AW.go ?_
    refine AW.nil ⟨rfl, rfl, fun C2 => ?_⟩
    by_cases hik : (i : Int) = k
    · have d1 : ((i : Int) == k) = true := by simpa using hik
      have hsu : padAcc k (i + 1) = szB i := by rw [← hik]; exact padAcc_eq i
      refine AW.go ?_ (by simp only [go_sem, ↓reduceIte, d1] <;> rfl)
      refine AW.condT rfl ?_
      refine AW.go ?_
      refine AW.nil ⟨rfl, by simp only [go_sem, ↓reduceIte], by simp only [go_sem, ↓reduceIte], .inl ⟨rfl, ?_⟩⟩
      simp only [go_sem, ↓reduceIte, hsu]
    · have d1 : ((i : Int) == k) = false := by simpa using hik
      have hsu := padAcc_ne k i hik
      refine AW.go ?_ (by simp only [go_sem, ↓reduceIte, d1] <;> rfl)
      refine AW.condF rfl ?_
      refine AW.go ?_
      refine AW.nil ⟨rfl, by simp only [go_sem, ↓reduceIte], by simp only [go_sem, ↓reduceIte], .inl ⟨rfl, ?_⟩⟩
      simp only [go_sem, ↓reduceIte, hsu]
  · rintro hp _ rfl
    refine AW.go ?_
    refine AW.finR (.inr rfl) (.inr rfl) (by simp only [go_sem, ↓reduceIte, retsV] <;> rfl) (.pv _ .nil) (H' := []) (by simp only [go_sem, ↓reduceIte]) (by simp only [go_sem, ↓reduceIte]) (by simp only [go_sem, ↓reduceIte]) ⟨rfl, rfl⟩
  · rintro j hp h; exact h.elim

theorem longE_fn (e : Ent) : Fn Try.prog 55 [] [.pv (.agg [.str e.1, .int .i64 e.2])] (fun rs H' => rs = [.pv (.bool (longB e))] ∧ H' = []) := by
  refine Fn.of_body (fn := Try.f55) (n := 7) (res := [.tmp 2]) (by kernel_rfl) rfl rfl rfl rfl rfl (fun C => ?_)
  have d1 : decide ((e.1.length : Int) > 64) = longB e := by unfold longB; rw [Bool.eq_iff_iff]; simp; omega
  refine AW.go ?_ (by simp only [go_sem, ↓reduceIte, d1] <;> rfl)
  refine AW.finE (.pv _ .nil) rfl
theorem indexLong_fn (es : List Ent) (hl : es.length < 2 ^ 40) : Fn Try.prog 75 [] [.pv (.sl 2 (entsP es)), .fn 55 []] (fun rs H' => ∃ n : Int, rs = [.pv (.int .i64 n)] ∧ decide (n ≥ 0) = es.any longB ∧ H' = []) := by
  refine Fn.of_body (fn := Try.f75) (n := 19) (res := [.tmp 4]) (by kernel_rfl) rfl rfl rfl rfl rfl (fun C => ?_)
  refine AW.go ?_
  refine AW.loopS (fun i : Nat => ⟨19, [(8, .pv (.int .i64 i)), (0, .pv (.sl 2 (entsP es))), (1, .fn 55 []), (7, .pv (.int .i64 es.length))], []⟩) (fun i => i ≤ es.length ∧ (es.take i).any longB = false) (fun i => es.length - i) [8, 0, 1, 7] [] 0 ⟨Nat.zero_le _, rfl⟩ ?_
  rintro i ⟨hi, hn⟩ K hK
  refine AW.go ?_
  refine AW.cond rfl (fun hc => ?_) (fun hc => ?_)
  · have hlt : i < es.length := by have := of_decide_eq_true hc; omega
    obtain ⟨e, he⟩ : ∃ e, es[i]? = some e := ⟨es[i], List.getElem?_eq_getElem hlt⟩
    have hg := entsP_get he
    have hst : (es.take (i + 1)).any longB = longB e := by rw [List.take_add_one, he, List.any_append, hn]; simp
    have e1 : IntKind.i64.wrap ((i : Int) + 1) = ((i + 1 : Nat) : Int) := wrap_i64_succ (by omega)
    refine AW.go ?_ (by simp only [go_sem, ↓reduceIte, hg] <;> rfl)
    refine AW.callE (fun _ => 0) (longE_fn e) (.pv _ .nil) ?_
    refine AW.go ?_
    refine AW.cond rfl (fun hc2 => ?_) (fun hc2 => ?_)
    · refine AW.go ?_
      refine AW.fin (.inr rfl) (by simp only [go_sem, ↓reduceIte] <;> rfl) (.pv _ .nil) (H' := []) (by simp only [go_sem, ↓reduceIte]) (by simp only [go_sem, ↓reduceIte]) (by simp only [go_sem, ↓reduceIte]) ⟨i, rfl, ?_, rfl⟩
      rw [decide_eq_true (by omega)]
      symm
      rw [List.any_eq_true]
      exact ⟨e, List.mem_of_getElem? he, hc2⟩
    · refine AW.go ?_ (by simp only [go_sem, ↓reduceIte, e1] <;> rfl)
      exact AW.again hK (i + 1) (by exact ⟨by omega, by rw [hst]; exact hc2⟩) (by omega)
  · have hge : i = es.length := by have := of_decide_eq_false hc; omega
    subst hge
    rw [List.take_length] at hn
    refine AW.go ?_
    refine AW.fin (.inr rfl) (by simp only [go_sem, ↓reduceIte] <;> rfl) (.pv _ .nil) (H' := []) (by simp only [go_sem, ↓reduceIte]) (by simp only [go_sem, ↓reduceIte]) (by simp only [go_sem, ↓reduceIte]) ⟨-1, rfl, ?_, rfl⟩
    rw [hn]; rfl
theorem containsLong_fn (es : List Ent) (hl : es.length < 2 ^ 40) : Fn Try.prog 54 [] [.pv (.sl 2 (entsP es)), .fn 55 []] (fun rs H' => rs = [.pv (.bool (es.any longB))] ∧ H' = []) := by
  refine Fn.of_body (fn := Try.f54) (n := 9) (res := [.tmp 4]) (by kernel_rfl) rfl rfl rfl rfl rfl (fun C => ?_)
  refine AW.go ?_
  refine AW.callX id rfl rfl (by simp only [go_sem, ↓reduceIte] <;> rfl) (indexLong_fn es hl) (.pv _ (.fn rfl .nil)) (by simp only [go_sem, ↓reduceIte]) (by simp only [go_sem, ↓reduceIte]) ?_
  rintro rs H' ⟨n, rfl, hn, rfl⟩
  refine ⟨by simp only [go_sem, ↓reduceIte], ?_⟩
  rw [← hn]
  refine AW.go ?_
  refine AW.finE (.pv _ .nil) rfl

theorem wrongMan_fn (m : Man) (hl : m.es.length < 2 ^ 40) : Fn Try.prog 21 [] [.pv (manP m)] (fun rs H' => rs = [.pv (.int .i64 (wrongM m : Nat))] ∧ H' = []) := by
  refine Fn.of_body (fn := Try.f21) (n := 41) (res := [.tmp 2]) (by kernel_rfl) rfl rfl rfl rfl rfl (fun C => ?_)
  obtain ⟨v, prev, es, root⟩ := m
  simp only at hl
  have hm : manP ⟨v, prev, es, root⟩ = .agg [.int .u64 (v : Int), .sl 1 (bytes prev), .sl 2 (entsP es), .sl 1 (bytes root)] := rfl
  rw [hm]
  unfold wrongM
  simp only
  obtain ⟨b1, hb1⟩ : ∃ b, b = decide (v = 18446744073709551615) := ⟨_, rfl⟩
  obtain ⟨b2, hb2⟩ : ∃ b, b = decide (prev.length ≠ 32) := ⟨_, rfl⟩
  obtain ⟨b3, hb3⟩ : ∃ b, b = decide (root.length ≠ 32) := ⟨_, rfl⟩
  have d1 : ((v : Int) == 18446744073709551615) = b1 := by rw [hb1, Bool.eq_iff_iff]; simp; try omega
  have d2 : ((prev.length : Int) != 32) = b2 := by rw [hb2, Bool.eq_iff_iff]; simp; omega
  have d3 : ((root.length : Int) != 32) = b3 := by rw [hb3, Bool.eq_iff_iff]; simp; omega
  have d2' : (prev.length != 32) = b2 := by rw [hb2, Bool.eq_iff_iff]; simp
  have d3' : (root.length != 32) = b3 := by rw [hb3, Bool.eq_iff_iff]; simp
  have hcond : (v = 18446744073709551615 ∨ prev.length ≠ 32 ∨ root.length ≠ 32) ↔ (b1 || (b2 || b3)) = true := by
    rw [hb1, hb2, hb3]; simp
  · cases b1 with
    | true =>
      rw [if_pos (hcond.2 rfl)]
      refine AW.gg ?_ (by simp only [go_sem, ↓reduceIte, d1, d2, d3, d2', d3'] <;> rfl)
      refine AW.condT rfl ?_
      refine AW.go ?_
      exact AW.finE (.pv _ .nil) rfl
    | false =>
      cases b2 with
      | true =>
        rw [if_pos (hcond.2 rfl)]
        refine AW.gg ?_ (by simp only [go_sem, ↓reduceIte, d1, d2, d3, d2', d3'] <;> rfl)
        refine AW.condT rfl ?_
        refine AW.go ?_
        exact AW.finE (.pv _ .nil) rfl
      | false =>
        cases b3 with
        | true =>
          rw [if_pos (hcond.2 rfl)]
          refine AW.gg ?_ (by simp only [go_sem, ↓reduceIte, d1, d2, d3, d2', d3'] <;> rfl)
          refine AW.condT rfl ?_
          refine AW.go ?_
          exact AW.finE (.pv _ .nil) rfl
        | false =>
          rw [if_neg (fun h => by have := hcond.1 h; cases this)]
          refine AW.gg ?_ (by simp only [go_sem, ↓reduceIte, d1, d2, d3, d2', d3'] <;> rfl)
          refine AW.condF rfl ?_
          refine AW.go ?_
          refine AW.loopS (fun i : Nat => ⟨41, [(23, .pv (.int .i64 i)), (1, .ptr 1 0), (21, .pv (.sl 2 (entsP es))), (22, .pv (.int .i64 es.length))], [(1, .cells 26 [.pv (.int .u64 (v : Int)), .pv (.sl 1 (bytes prev)), .pv (.sl 2 (entsP es)), .pv (.sl 1 (bytes root))])]⟩) (fun i => i ≤ es.length ∧ (es.take i).any badB = false) (fun i => es.length - i) [23, 1, 21, 22] [1] 0 ⟨Nat.zero_le _, rfl⟩ ?_
          rintro i ⟨hi, hn⟩ K hK
          refine AW.go ?_
          refine AW.cond rfl (fun hc => ?_) (fun hc => ?_)
          · have hlt : i < es.length := by have := of_decide_eq_true hc; omega
            obtain ⟨e, he⟩ : ∃ e, es[i]? = some e := ⟨es[i], List.getElem?_eq_getElem hlt⟩
            have hg := entsP_get he
            have hst : (es.take (i + 1)).any badB = badB e := by rw [List.take_add_one, he, List.any_append, hn]; simp
            have e1 : IntKind.i64.wrap ((i : Int) + 1) = ((i + 1 : Nat) : Int) := wrap_i64_succ (by omega)
            have d5 : ((padSz e.2 : Int) == 0) = badB e := by unfold badB; rw [Bool.eq_iff_iff]; simp
            refine AW.go ?_ (by simp only [go_sem, ↓reduceIte, hg] <;> rfl)
            refine AW.callE (fun _ => 0) (size_fn e.2) (.pv _ .nil) ?_
            refine AW.go ?_ (by simp only [go_sem, ↓reduceIte, d5] <;> rfl)
            refine AW.cond rfl (fun hc2 => ?_) (fun hc2 => ?_)
            · rw [if_pos (List.any_eq_true.2 ⟨e, List.mem_of_getElem? he, hc2⟩)]
              refine AW.go ?_
              exact AW.finE (.pv _ .nil) rfl
            · refine AW.go ?_ (by simp only [go_sem, ↓reduceIte, e1] <;> rfl)
              exact AW.again hK (i + 1) (by exact ⟨by omega, by rw [hst]; exact hc2⟩) (by omega)
          · have hge : i = es.length := by have := of_decide_eq_false hc; omega
            subst hge
            rw [List.take_length] at hn
            rw [if_neg (by rw [hn]; simp)]
            by_cases hL : 1048576 < es.length
            · have d6 : decide ((es.length : Int) > 1048576) = true := decide_eq_true (by omega)
              have d6' : decide (1048576 < es.length) = true := decide_eq_true hL
              rw [if_pos (.inl hL)]
              refine AW.gg ?_ (by simp only [go_sem, ↓reduceIte, d6, d6'] <;> rfl)
              refine AW.condT rfl ?_
              refine AW.go ?_
              exact AW.finE (.pv _ .nil) rfl
            · have d6 : decide ((es.length : Int) > 1048576) = false := decide_eq_false (by omega)
              have d6' : decide (1048576 < es.length) = false := decide_eq_false hL
              refine AW.gg ?_ (by simp only [go_sem, ↓reduceIte, d6, d6'] <;> rfl)
              refine AW.guardT rfl rfl ?_
              refine AW.callE (fun _ => 0) (containsLong_fn es hl) (.pv _ (.fn rfl .nil)) ?_
              refine AW.gg ?_
              cases hlg : es.any longB with
              | true =>
                rw [if_pos (.inr rfl)]
                refine AW.condT rfl ?_
                refine AW.go ?_
                exact AW.finE (.pv _ .nil) rfl
              | false =>
                rw [if_neg (by simp [hL])]
                refine AW.condF rfl ?_
                refine AW.go ?_
                exact AW.finE (.pv _ .nil) rfl
end Go.Ck

set_option linter.unusedVariables false
set_option maxRecDepth 10000
namespace Go.Ck
open Go.Proofs
/-- What Len64's string tells. -/
theorem len64_fn (v : Nat) (hv : v < 2 ^ 64) : Fn Try.prog 98 [] [.pv (.int .u64 v)] (fun rs H' => rs = [.pv (.int .i64 (blen v : Nat))] ∧ H' = []) := by
  refine Fn.of_body (fn := Try.f98) (n := 25) (res := [.tmp 2]) (by kernel_rfl) rfl rfl rfl rfl rfl (fun C => ?_)
  have s32 : ∀ v : Nat, shrI .u64 (v : Int) 32 = ((v / 2 ^ 32 : Nat) : Int) := fun v => shrI_nat .u64 v 32 (by decide)
  have s16 : ∀ v : Nat, shrI .u64 (v : Int) 16 = ((v / 2 ^ 16 : Nat) : Int) := fun v => shrI_nat .u64 v 16 (by decide)
  have s8 : ∀ v : Nat, shrI .u64 (v : Int) 8 = ((v / 2 ^ 8 : Nat) : Int) := fun v => shrI_nat .u64 v 8 (by decide)
  refine AW.go ?_
  refine AW.joinS (fun a : Nat × Nat => ⟨25, [(0, .pv (.int .u64 a.1)), (2, .pv (.int .i64 a.2))], []⟩) (fun a => a.1 < 2 ^ 32 ∧ blen v = a.2 + blen a.1 ∧ a.2 ≤ 32) [0, 2] [] ?_ ?_
  · intro K hK
    refine AW.cond rfl (fun hc => ?_) (fun hc => ?_)
    · refine AW.go ?_
      refine AW.meet hK (v / 2 ^ 32, 32) ⟨by simp only; omega, ?_, by simp⟩ (by simp only [go_sem, ↓reduceIte]) (by simp only [go_sem, ↓reduceIte, s32] <;> rfl)
      exact blen_shift 32 (by simp at hc; omega)
    · refine AW.go ?_
      refine AW.meet hK (v, 0) ⟨by simp at hc; simp only; omega, by simp, by simp⟩
  rintro ⟨u, m⟩ ⟨hu, hm, hm2⟩
  simp only at hu hm hm2
  refine AW.go ?_
  refine AW.joinS (fun a : Nat × Nat => ⟨25, [(0, .pv (.int .u64 a.1)), (2, .pv (.int .i64 a.2))], []⟩) (fun a => a.1 < 2 ^ 16 ∧ blen v = a.2 + blen a.1 ∧ a.2 ≤ 48) [0, 2] [] ?_ ?_
  · intro K hK
    refine AW.cond rfl (fun hc => ?_) (fun hc => ?_)
    · have e : IntKind.i64.wrap ((m : Int) + 16) = ((m + 16 : Nat) : Int) := by rw [wrap_i64_of (by omega) (by omega)]; omega
      refine AW.go ?_
      refine AW.meet hK (u / 2 ^ 16, m + 16) ⟨by simp only; omega, ?_, by simp only; omega⟩ (by simp only [go_sem, ↓reduceIte]) (by simp only [go_sem, ↓reduceIte, s16, e] <;> rfl)
      have := blen_shift 16 (v := u) (by simp at hc; omega)
      simp only; omega
    · refine AW.go ?_
      refine AW.meet hK (u, m) ⟨by simp at hc; simp only; omega, hm, by simp only; omega⟩
  clear hu hm hm2
  rintro ⟨u, m⟩ ⟨hu, hm, hm2⟩
  simp only at hu hm hm2
  refine AW.go ?_
  refine AW.joinS (fun a : Nat × Nat => ⟨25, [(0, .pv (.int .u64 a.1)), (2, .pv (.int .i64 a.2))], []⟩) (fun a => a.1 < 2 ^ 8 ∧ blen v = a.2 + blen a.1 ∧ a.2 ≤ 56) [0, 2] [] ?_ ?_
  · intro K hK
    refine AW.cond rfl (fun hc => ?_) (fun hc => ?_)
    · have e : IntKind.i64.wrap ((m : Int) + 8) = ((m + 8 : Nat) : Int) := by rw [wrap_i64_of (by omega) (by omega)]; omega
      refine AW.go ?_
      refine AW.meet hK (u / 2 ^ 8, m + 8) ⟨by simp only; omega, ?_, by simp only; omega⟩ (by simp only [go_sem, ↓reduceIte]) (by simp only [go_sem, ↓reduceIte, s8, e] <;> rfl)
      have := blen_shift 8 (v := u) (by simp at hc; omega)
      simp only; omega
    · refine AW.go ?_
      refine AW.meet hK (u, m) ⟨by simp at hc; simp only; omega, hm, by simp only; omega⟩
  clear hu hm hm2
  rintro ⟨u, m⟩ ⟨hu, hm, hm2⟩
  simp only at hu hm hm2
  have e8 : IntKind.u8.wrap (u : Int) = (u : Int) := wrap_u8_lt hu
  refine AW.go ?_ (by simp only [go_sem, ↓reduceIte, e8] <;> rfl)
  refine AW.indexStr (UInt8.ofNat (bl8 u)) (ho := rfl) rfl rfl ?_ ?_
  · clear e8 hm
    revert u
    decide +kernel
  · have h8 := bl8_le u
    have ec : ((UInt8.ofNat (bl8 u)).toNat : Int) = (blen u : Nat) := by
      rw [UInt8.toNat_ofNat', Nat.mod_eq_of_lt (by omega), blen_bl8 hu]
    have hb8 := blen_le.2 hu
    have e1 : IntKind.i64.wrap ((blen u : Nat) : Int) = (blen u : Nat) := wrap_i64_nat (by omega)
    have e2 : IntKind.i64.wrap ((m : Int) + (blen u : Nat)) = ((blen v : Nat) : Int) := by rw [hm]; exact wrap_i64_nat (n := m + blen u) (by omega)
    refine AW.go ?_ (by simp only [go_sem, ↓reduceIte, ec, e1, e2] <;> rfl)
    refine AW.finE (.pv _ .nil) rfl
end Go.Ck

namespace Go.Proofs
open Go.Shelf
def Try.lays190_ren : Go.Shelf.Ren := ⟨fun | 190 => 56 | 125 => 77 | 258 => 76 | 128 => 97 | 129 => 98 | 302 => 88 | 303 => 89 | 304 => 90 | 305 => 91 | 306 => 92 | 307 => 93 | 308 => 94 | 309 => 95 | 310 => 96 | 333 => 104 | 329 => 105 | 330 => 106 | 334 => 107 | 335 => 108 | 336 => 109 | 344 => 114 | n => n, fun | 31 => 46 | 9 => 9 | 3 => 3 | 46 => 82 | 0 => 0 | 51 => 116 | 53 => 22 | 4 => 4 | 183 => 120 | 182 => 119 | 131 => 80 | 5 => 5 | 218 => 140 | 222 => 143 | 228 => 148 | 229 => 149 | n => n, fun | n => n⟩
theorem Try.lays190 : Go.Proofs.Lays.n190 Try.prog Try.lays190_ren := {
  mixed := by kernel_rfl
  f125 := Try.func77.trans (congrArg some (by kernel_rfl))
  f128 := Try.func97.trans (congrArg some (by kernel_rfl))
  f129 := Try.func98.trans (congrArg some (by kernel_rfl))
  f190 := Try.func56.trans (congrArg some (by kernel_rfl))
  f258 := Try.func76.trans (congrArg some (by kernel_rfl))
  f302 := Try.func88.trans (congrArg some (by kernel_rfl))
  f303 := Try.func89.trans (congrArg some (by kernel_rfl))
  f304 := Try.func90.trans (congrArg some (by kernel_rfl))
  f305 := Try.func91.trans (congrArg some (by kernel_rfl))
  f306 := Try.func92.trans (congrArg some (by kernel_rfl))
  f307 := Try.func93.trans (congrArg some (by kernel_rfl))
  f308 := Try.func94.trans (congrArg some (by kernel_rfl))
  f309 := Try.func95.trans (congrArg some (by kernel_rfl))
  f310 := Try.func96.trans (congrArg some (by kernel_rfl))
  f329 := Try.func105.trans (congrArg some (by kernel_rfl))
  f330 := Try.func106.trans (congrArg some (by kernel_rfl))
  f333 := Try.func104.trans (congrArg some (by kernel_rfl))
  f334 := Try.func107.trans (congrArg some (by kernel_rfl))
  f335 := Try.func108.trans (congrArg some (by kernel_rfl))
  f336 := Try.func109.trans (congrArg some (by kernel_rfl))
  f344 := Try.func114.trans (congrArg some (by kernel_rfl))
  t0 := Try.underlying0
  a0 := Try.isAgg0
  z0 := Try.sizeOf0
  v0 := Try.zeroValue0
  t3 := Try.underlying3
  a3 := Try.isAgg3
  z3 := Try.sizeOf3
  v3 := Try.zeroValue3
  t4 := Try.underlying4
  a4 := Try.isAgg4
  z4 := Try.sizeOf4
  v4 := Try.zeroValue4
  t5 := Try.underlying5
  a5 := Try.isAgg5
  z5 := Try.sizeOf5
  v5 := Try.zeroValue5
  t9 := Try.underlying9
  a9 := Try.isAgg9
  z9 := Try.sizeOf9
  v9 := Try.zeroValue9
  t31 := Try.underlying46
  a31 := Try.isAgg46
  z31 := Try.sizeOf46
  v31 := Try.zeroValue46
  t46 := Try.underlying82
  a46 := Try.isAgg82
  z46 := Try.sizeOf82
  v46 := Try.zeroValue82
  t51 := Try.underlying116
  a51 := Try.isAgg116
  z51 := Try.sizeOf116
  v51 := Try.zeroValue116
  t53 := Try.underlying22
  a53 := Try.isAgg22
  z53 := Try.sizeOf22
  v53 := Try.zeroValue22
  t131 := Try.underlying80
  a131 := Try.isAgg80
  z131 := Try.sizeOf80
  v131 := Try.zeroValue80
  t182 := Try.underlying119
  a182 := Try.isAgg119
  z182 := Try.sizeOf119
  v182 := Try.zeroValue119
  t183 := Try.underlying120
  a183 := Try.isAgg120
  z183 := Try.sizeOf120
  v183 := Try.zeroValue120
  t218 := Try.underlying140
  a218 := Try.isAgg140
  z218 := Try.sizeOf140
  v218 := Try.zeroValue140
  t222 := Try.underlying143
  a222 := Try.isAgg143
  z222 := Try.sizeOf143
  v222 := Try.zeroValue143
  t228 := Try.underlying148
  a228 := Try.isAgg148
  z228 := Try.sizeOf148
  v228 := Try.zeroValue148
  t229 := Try.underlying149
  a229 := Try.isAgg149
  z229 := Try.sizeOf149
  v229 := Try.zeroValue149 }
end Go.Proofs
namespace Go.Ck
open Go.Proofs
theorem sort_ok : SortOK Try.prog 56 := fun blk off cap ss w h1 h2 h3 => Any.slices_Sort_string Try.lays190 blk off cap ss w h1 h2 h3
theorem sort_is : ∃ fn, (Try.prog).funcs[56]? = some fn ∧ (fn.name == "runtime.NumGoroutine") = false ∧ fn.body.isNone = false := ⟨Try.f56, by kernel_rfl, rfl, rfl⟩
end Go.Ck

set_option linter.unusedVariables false
namespace Go.Ck
def nmStep (acc : List (List UInt8)) (e : Ent) : List (List UInt8) := if e.1 ∈ acc then acc else acc ++ [e.1]
/-- The tenants, as they first stand. -/
def nmS (es : List Ent) : List (List UInt8) := es.foldl nmStep []
theorem nmS_succ {es : List Ent} {i : Nat} {e : Ent} (h : es[i]? = some e) : nmS (es.take (i + 1)) = nmStep (nmS (es.take i)) e := by
  unfold nmS; rw [List.take_add_one, h]; simp
theorem nmStep_nodup {acc : List (List UInt8)} {e : Ent} (h : acc.Nodup) : (nmStep acc e).Nodup := by
  unfold nmStep; split
  · exact h
  · rename_i hn
    rw [List.nodup_append]
    refine ⟨h, by simp, ?_⟩
    intro a ha b hb
    simp at hb; subst hb
    intro e2; subst e2; exact hn ha
theorem nmF_nodup : ∀ (es : List Ent) (acc : List (List UInt8)), acc.Nodup → (es.foldl nmStep acc).Nodup
  | [], acc, h => h
  | e :: r, acc, h => nmF_nodup r _ (nmStep_nodup h)
theorem nmS_nodup (es : List Ent) : (nmS es).Nodup := nmF_nodup es [] (by simp)
theorem nmF_len : ∀ (es : List Ent) (acc : List (List UInt8)), (es.foldl nmStep acc).length ≤ acc.length + es.length
  | [], acc => by simp
  | e :: r, acc => by
    have := nmF_len r (nmStep acc e)
    have h2 : (nmStep acc e).length ≤ acc.length + 1 := by unfold nmStep; split <;> simp
    simp only [List.foldl_cons, List.length_cons]; omega
theorem nmS_len (es : List Ent) : (nmS es).length ≤ es.length := by have := nmF_len es []; simpa [nmS] using this
theorem nmF_mem : ∀ (es : List Ent) (acc : List (List UInt8)) (s : List UInt8), s ∈ es.foldl nmStep acc ↔ s ∈ acc ∨ ∃ e ∈ es, e.1 = s
  | [], acc, s => by simp
  | e :: r, acc, s => by
    simp only [List.foldl_cons]
    rw [nmF_mem r]
    have h1 : s ∈ nmStep acc e ↔ s ∈ acc ∨ e.1 = s := by
      unfold nmStep
      split
      · rename_i h
        constructor
        · exact .inl
        · rintro (h1 | rfl)
          · exact h1
          · exact h
      · simp [eq_comm]
    rw [h1]
    simp only [List.mem_cons, exists_eq_or_imp]
    exact or_assoc
theorem nmS_mem (es : List Ent) (s : List UInt8) : s ∈ nmS es ↔ ∃ e ∈ es, e.1 = s := by
  unfold nmS; rw [nmF_mem]; simp
def dirS (es : List Ent) : List (List UInt8) := sortS (nmS es)
theorem sortS_perm (ss : List (List UInt8)) : (sortS ss).Perm ss := List.mergeSort_perm ss _
theorem dirS_nodup (es : List Ent) : (dirS es).Nodup := (sortS_perm _).nodup_iff.2 (nmS_nodup es)
theorem dirS_len (es : List Ent) : (dirS es).length = (nmS es).length := sortS_len _
theorem dirS_mem (es : List Ent) (s : List UInt8) : s ∈ dirS es ↔ ∃ e ∈ es, e.1 = s := by
  unfold dirS; rw [(sortS_perm _).mem_iff, nmS_mem]

def mpS (f : List UInt8 → Nat) (ds : List (List UInt8)) : List (PV × PV) := ds.map fun s => (.str s, .int .i64 (f s : Int))
theorem mlook_mpS (f : List UInt8 → Nat) (t : List UInt8) : ∀ ds, mlook (.str t) (mpS f ds) = some (if t ∈ ds then some (.int .i64 (f t : Int)) else none)
  | [] => rfl
  | s :: r => by
    have hc : mpS f (s :: r) = (.str s, .int .i64 (f s : Int)) :: mpS f r := rfl
    rw [hc]
    simp only [mlook, keyEq]
    by_cases h : t = s
    · subst h; simp
    · have h1 : (t == s) = false := by simpa using h
      rw [h1, mlook_mpS f t r]
      simp [h]
theorem mset_new (f : List UInt8 → Nat) (t : List UInt8) (v : PV) : ∀ ds, t ∉ ds → mset (.str t) v (mpS f ds) = some (mpS f ds ++ [(.str t, v)])
  | [], _ => rfl
  | s :: r, h => by
    have hc : mpS f (s :: r) = (.str s, .int .i64 (f s : Int)) :: mpS f r := rfl
    have h1 : (t == s) = false := by simp at h ⊢; exact h.1
    rw [hc]
    simp only [mset, keyEq, h1]
    rw [mset_new f t v r (by simp at h; exact h.2)]
    rfl
theorem mset_add (f : List UInt8 → Nat) (t : List UInt8) (ds : List (List UInt8)) (h : t ∉ ds) : mset (.str t) (.int .i64 (f t : Int)) (mpS f ds) = some (mpS f (ds ++ [t])) := by
  rw [mset_new f t _ ds h]; simp [mpS]
theorem mpS_congr {f g : List UInt8 → Nat} {ds : List (List UInt8)} (h : ∀ s ∈ ds, f s = g s) : mpS f ds = mpS g ds := by
  unfold mpS
  refine List.map_congr_left (fun s hs => by rw [h s hs])
theorem mset_old (f : List UInt8 → Nat) (t : List UInt8) (v : Nat) : ∀ ds, t ∈ ds → ds.Nodup → mset (.str t) (.int .i64 (v : Int)) (mpS f ds) = some (mpS (fun s => if s = t then v else f s) ds)
  | [], h, _ => by cases h
  | s :: r, h, hn => by
    have hc : ∀ g : List UInt8 → Nat, mpS g (s :: r) = (.str s, .int .i64 (g s : Int)) :: mpS g r := fun _ => rfl
    rw [List.nodup_cons] at hn
    rw [hc, hc]
    simp only [mset, keyEq]
    by_cases hts : t = s
    · subst hts
      have h1 : (t == t) = true := by simp
      rw [h1]
      simp only [if_true]
      have h4 : mpS (fun s => if s = t then v else f s) r = mpS f r := mpS_congr (fun x hx => by
        have hne : ¬ x = t := fun e => hn.1 (by rw [← e]; exact hx)
        simp only [if_neg hne])
      rw [h4]
    · have h1 : (t == s) = false := by simpa using hts
      have h2 : t ∈ r := by
        rcases List.mem_cons.1 h with h | h
        · exact absurd h hts
        · exact h
      rw [h1]
      simp only
      rw [mset_old f t v r h2 hn.2]
      have h3 : (if s = t then v else f s) = f s := if_neg (fun e => hts e.symm)
      simp only [msetO, h3]
/-- Where the first k names stand. -/
def posK (l : List (List UInt8)) (k : Nat) (s : List UInt8) : Nat := if l.idxOf s < k then l.idxOf s else 0
theorem posK_0 (l : List (List UInt8)) : posK l 0 = fun _ => 0 := by funext s; simp [posK]
theorem posK_succ {l : List (List UInt8)} (hn : l.Nodup) {k : Nat} {t : List UInt8} (h : l[k]? = some t) : (fun s => if s = t then k else posK l k s) = posK l (k + 1) := by
  have hk : k < l.length := (List.getElem?_eq_some_iff.1 h).1
  have ht : l[k] = t := (List.getElem?_eq_some_iff.1 h).2
  funext s
  show (if s = t then k else posK l k s) = posK l (k + 1) s
  unfold posK
  by_cases hs : s = t
  · have hi : l.idxOf s = k := by rw [hs, ← ht]; exact List.Nodup.idxOf_getElem hn k hk
    rw [if_pos hs, hi, if_pos (by omega)]
  · rw [if_neg hs]
    have hne : l.idxOf s ≠ k := by
      intro e
      have hlt : l.idxOf s < l.length := by omega
      have := List.getElem_idxOf hlt
      apply hs
      rw [← ht, ← this]
      congr 1
    by_cases hlt : l.idxOf s < k
    · rw [if_pos hlt, if_pos (by omega)]
    · rw [if_neg hlt, if_neg (by omega)]
theorem posK_all (l : List (List UInt8)) (s : List UInt8) (h : s ∈ l) : posK l l.length s = l.idxOf s := by
  unfold posK
  rw [if_pos (List.idxOf_lt_length_of_mem h)]
end Go.Ck
namespace Go.Ck
theorem strs_get {ss : List (List UInt8)} {i : Nat} {t : List UInt8} (h : ss[i]? = some t) : (strs ss)[i]? = some (.str t) := by
  unfold strs; rw [List.getElem?_map, h]; rfl
theorem strs_snoc (ss : List (List UInt8)) (t : List UInt8) : strs ss ++ [.str t] = strs (ss ++ [t]) := by simp [strs]
theorem cloL_strs (ss : List (List UInt8)) : cloL (strs ss) = true := by
  induction ss with
  | nil => rfl
  | cons a l ih => simpa [strs, cloL, PV.clo] using ih
attribute [go_sem] strs_len cloL_strs
end Go.Ck

set_option linter.unusedVariables false
set_option maxRecDepth 100000
set_option maxHeartbeats 400000
namespace Go.Ck
open Go.Proofs
theorem len_fn (v : Nat) (hv : v < 2 ^ 64) : Fn Try.prog 77 [] [.pv (.int .u64 v)] (fun rs H' => rs = [.pv (.int .i64 (blen v : Nat))] ∧ H' = []) := by
  refine Fn.of_body (fn := Try.f77) (n := 8) (res := [.tmp 2]) (by kernel_rfl) rfl rfl rfl rfl rfl (fun C => ?_)
  refine AW.go ?_
  refine AW.condF rfl ?_
  refine AW.go ?_
  refine AW.callE (fun _ => 0) (len64_fn v hv) (.pv _ .nil) ?_
  refine AW.go ?_
  refine AW.finE (.pv _ .nil) rfl
theorem isort0_fn : Fn Try.prog 88 [] [.pv (.sl 1 []), .pv (.int .i64 0), .pv (.int .i64 0)] (fun rs H' => rs = [] ∧ H' = []) := by
  refine Fn.of_body (fn := Try.f88) (n := 49) (res := []) (by kernel_rfl) rfl rfl rfl rfl rfl (fun C => ?_)
  have e1 : IntKind.i64.wrap (0 + 1) = 1 := by decide
  refine AW.go ?_
  refine AW.loopS (fun _ : Unit => ⟨49, [(6, .pv (.int .i64 1)), (2, .pv (.int .i64 0))], []⟩) (fun _ => True) (fun _ => 0) [6, 2] [] () trivial ?_
  rintro _ - K hK
  refine AW.go ?_
  refine AW.condF rfl ?_
  refine AW.go ?_
  refine AW.finE .nil rfl
theorem pdq0_fn (k : Int) : Fn Try.prog 76 [] [.pv (.sl 1 []), .pv (.int .i64 0), .pv (.int .i64 0), .pv (.int .i64 k)] (fun rs H' => rs = [] ∧ H' = []) := by
  refine Fn.of_body (fn := Try.f76) (n := 134) (res := []) (by kernel_rfl) rfl rfl rfl rfl rfl (fun C => ?_)
  refine AW.go ?_
  refine AW.loopS (fun _ : Unit => ⟨134, [(0, .pv (.sl 1 [])), (1, .pv (.int .i64 0)), (2, .pv (.int .i64 0))], []⟩) (fun _ => True) (fun _ => 0) [0, 1, 2] [] () trivial ?_
  rintro _ - K hK
  refine AW.go ?_
  refine AW.condT rfl ?_
  refine AW.go ?_
  refine AW.callE (fun _ => 0) isort0_fn (.pv _ (.pv _ (.pv _ .nil))) ?_
  refine AW.go ?_
  refine AW.finE .nil rfl
theorem sort0_fn : Fn Try.prog 56 [] [.pv (.sl 1 [])] (fun rs H' => rs = [] ∧ H' = []) := by
  refine Fn.of_body (fn := Try.f56) (n := 11) (res := []) (by kernel_rfl) rfl rfl rfl rfl rfl (fun C => ?_)
  have e1 : IntKind.u64.wrap 0 = 0 := by decide
  refine AW.go ?_ (by simp only [go_sem, ↓reduceIte, e1] <;> rfl)
  refine AW.callE (fun _ => 0) (len_fn 0 (by decide)) (.pv _ .nil) ?_
  refine AW.go ?_
  refine AW.callE (fun _ => 0) (pdq0_fn _) (.pv _ (.pv _ (.pv _ (.pv _ .nil)))) ?_
  refine AW.go ?_
  refine AW.finE .nil rfl

theorem directory_fn (es : List Ent) (hl : es.length < 2 ^ 30) : Fn Try.prog 22 [] [.pv (.sl 2 (entsP es))] (fun rs H' => rs = [.own 9 (strs (dirS es)), .mp 12] ∧ H' = [(12, .mp (mpS (posK (dirS es) (dirS es).length) (nmS es)))]) := by
  refine Fn.of_body (fn := Try.f22) (n := 52) (res := [.tmp 2, .tmp 3]) (by kernel_rfl) rfl rfl rfl rfl rfl (fun C => ?_)
  have hroom : room = 140737488355328 := rfl
  refine AW.go ?_
  refine AW.unread ?_
  refine AW.go ?_
  refine AW.loopS (fun i : Nat => ⟨52, [(15, .pv (.int .i64 i)), (13, .pv (.sl 2 (entsP es))), (14, .pv (.int .i64 es.length)), (4, .mp 12), (5, .own 9 (strs (nmS (es.take i))))], [(12, .mp (mpS (fun _ => 0) (nmS (es.take i))))]⟩) (fun i => i ≤ es.length) (fun i => es.length - i) [15, 13, 14, 4, 5] [12] 0 (Nat.zero_le _) ?_
  rintro i hi K hK
  have hnl := nmS_len (es.take i)
  rw [List.length_take] at hnl
  refine AW.go ?_
  refine AW.cond rfl (fun hc => ?_) (fun hc => ?_)
  · have hlt : i < es.length := by have := of_decide_eq_true hc; omega
    obtain ⟨e, he⟩ : ∃ e, es[i]? = some e := ⟨es[i], List.getElem?_eq_getElem hlt⟩
    have hg := entsP_get he
    have hsu := nmS_succ he
    have e1 : IntKind.i64.wrap ((i : Int) + 1) = ((i + 1 : Nat) : Int) := wrap_i64_succ (by omega)
    have hml := mlook_mpS (fun _ => 0) e.1 (nmS (es.take i))
    generalize nmS (es.take i) = ns at *
    refine AW.go ?_ (by simp only [go_sem, ↓reduceIte, hg] <;> rfl)
    refine AW.lookup2 rfl rfl rfl hml tk_47 (by simp only [go_sem] <;> rfl) ze_3 ?_
    by_cases h : e.1 ∈ ns
    · simp only [if_pos h]
      rw [nmStep, if_pos h] at hsu
      refine AW.go ?_ (by simp only [go_sem, ↓reduceIte, mval] <;> rfl)
      refine AW.condF rfl ?_
      refine AW.go ?_ (by simp only [go_sem, ↓reduceIte, e1] <;> rfl)
      exact AW.again hK (i + 1) (by omega) (by omega) (hs := by simp only [go_sem, ↓reduceIte, hsu] <;> rfl)
    · simp only [if_neg h]
      rw [nmStep, if_neg h] at hsu
      have hms := mset_add (fun _ => 0) e.1 ns h
      have r1 : ((ns.length + 1) * 16 ≤ room) = True := eq_true (by omega)
      have r2 : (ns.length + 1 ≤ room) = True := eq_true (by omega)
      refine AW.go ?_ (by simp only [go_sem, ↓reduceIte, mval] <;> rfl)
      refine AW.condT rfl ?_
      refine AW.go ?_
      refine AW.mapSet rfl rfl rfl rfl hms tk_47 (by simp only [go_sem] <;> rfl) ?_
      refine AW.go ?_ (by simp only [go_sem, ↓reduceIte, e1, r1, r2, strs_snoc, List.length_cons, List.length_nil, Nat.zero_add] <;> rfl)
      exact AW.again hK (i + 1) (by omega) (by omega) (hs := by simp only [go_sem, ↓reduceIte, hsu] <;> rfl)
  have hge : i = es.length := by have := of_decide_eq_false hc; omega
  subst hge
  have hnn := nmS_nodup es
  have hsp := sortS_perm (nmS es)
  have hsn : (sortS (nmS es)).Nodup := hsp.nodup_iff.2 hnn
  have hnl2 := nmS_len es
  have hsl := sortS_len (nmS es)
  rw [List.take_length]
  unfold dirS
  generalize nmS es = ns at *
  refine AW.go ?_
  refine via (T := ?Tsort) (fun hT => ?_) ?_; rotate_left
  · by_cases hne : ns = []
    · have hs0 : sortS ns = ns := by rw [hne]; simp [sortS]
      have f0 : Fn Try.prog 56 [] [.pv (.sl 1 (strs ns))] (fun rs H' => rs = [] ∧ H' = []) := by rw [hne]; exact sort0_fn
      refine AW.callE (fun _ => 0) f0 (.lend rfl co_9 .nil) ?_
      refine AW.keepB [4, 5] [12] (s' := ⟨52, [(4, .mp 12), (5, .own 9 (strs (sortS ns)))], [(12, .mp (mpS (fun _ => 0) ns))]⟩) (by simp only [go_sem, ↓reduceIte]) (by simp only [go_sem, ↓reduceIte, hs0] <;> rfl) ?_
      exact hT ()
    · refine AW.sortOwn sort_ok sort_is rfl rfl hne (by omega) co_9 ?_
      refine AW.keepB [4, 5] [12] (by simp only [go_sem, ↓reduceIte]) (by simp only [go_sem, ↓reduceIte] <;> rfl) ?_
      exact hT ()
  generalize sortS ns = ls at *
  refine AW.go ?_
  refine AW.loopS (fun k : Nat => ⟨52, [(41, .pv (.int .i64 k)), (39, .al (.slot 5)), (40, .pv (.int .i64 ls.length)), (4, .mp 12), (5, .own 9 (strs ls))], [(12, .mp (mpS (posK ls k) ns))]⟩) (fun k => k ≤ ls.length) (fun k => ls.length - k) [41, 39, 40, 4, 5] [12] 0 (Nat.zero_le _) ?_ (hs := by simp only [go_sem, ↓reduceIte, posK_0] <;> rfl)
  rintro k hk K hK
  refine AW.go ?_
  refine AW.cond rfl (fun hc => ?_) (fun hc => ?_)
  · have hlt : k < ls.length := by have := of_decide_eq_true hc; omega
    obtain ⟨t, ht⟩ : ∃ t, ls[k]? = some t := ⟨ls[k], List.getElem?_eq_getElem hlt⟩
    have hg := strs_get ht
    have htn : t ∈ ns := hsp.mem_iff.1 (List.mem_of_getElem? ht)
    have hms := mset_old (posK ls k) t k ns htn hnn
    rw [posK_succ hsn ht] at hms
    have e1 : IntKind.i64.wrap ((k : Int) + 1) = ((k + 1 : Nat) : Int) := wrap_i64_succ (by omega)
    have l1 : (k < ls.length) = True := eq_true hlt
    refine AW.go ?_ (by simp only [go_sem, ↓reduceIte, hg, l1] <;> rfl)
    refine AW.mapSet rfl rfl rfl rfl hms tk_47 (by simp only [go_sem] <;> rfl) ?_
    refine AW.go ?_ (by simp only [go_sem, ↓reduceIte, e1] <;> rfl)
    exact AW.again hK (k + 1) (by omega) (by omega)
  have hge : k = ls.length := by have := of_decide_eq_false hc; omega
  subst hge
  refine AW.go ?_
  refine AW.finE (.move rfl (.mp rfl .nil)) rfl
end Go.Ck

set_option linter.unusedVariables false
namespace Go.Ck
def headM (m : Man) : List Nat := [67, 83, 75, 49] ++ beB m.v 8 ++ m.prev
def blkS (s : List UInt8) : List Nat := leb s.length ++ nb s
def entB (ns : List (List UInt8)) (e : Ent) : List Nat := leb (ns.idxOf e.1) ++ [e.2.toNat]
def bodyM (m : Man) : List Nat := headM m ++ leb (dirS m.es).length ++ (dirS m.es).flatMap blkS ++ leb m.es.length ++ m.es.flatMap (entB (dirS m.es)) ++ m.root
def encM (m : Man) : List Nat × Nat := if wrongM m ≠ 0 then ([], wrongM m) else (bodyM m, 0)
theorem wrongM_zero {m : Man} (h : wrongM m = 0) : m.v ≠ 18446744073709551615 ∧ m.prev.length = 32 ∧ m.root.length = 32 ∧ (∀ e ∈ m.es, 0 ≤ e.2 ∧ e.2 ≤ 8) ∧ m.es.length ≤ 1048576 ∧ ∀ e ∈ m.es, e.1.length ≤ 64 := by
  unfold wrongM at h
  split at h
  · cases h
  · rename_i h1
    split at h
    · cases h
    · rename_i h2
      split at h
      · cases h
      · rename_i h3
        refine ⟨by omega, by omega, by omega, fun e he => ?_, by omega, fun e he => ?_⟩
        · have : badB e = false := by
            cases hb : badB e with
            | false => rfl
            | true => exact absurd (List.any_eq_true.2 ⟨e, he, hb⟩) h2
          unfold badB at this
          have h5 : padSz e.2 ≠ 0 := by simpa using this
          rw [Ne, padSz_zero] at h5
          omega
        · have : longB e = false := by
            cases hb : longB e with
            | false => rfl
            | true => exact absurd (.inr (List.any_eq_true.2 ⟨e, he, hb⟩)) h3
          unfold longB at this
          have := of_decide_eq_false this
          omega
theorem flatMap_le {α : Type} (f : α → List Nat) (c : Nat) : ∀ (l : List α), (∀ x ∈ l, (f x).length ≤ c) → (l.flatMap f).length ≤ c * l.length
  | [], _ => by simp
  | x :: r, h => by
    have h1 := h x (by simp)
    have h2 := flatMap_le f c r (fun y hy => h y (by simp [hy]))
    simp only [List.flatMap_cons, List.length_append, List.length_cons, Nat.mul_succ]
    omega
theorem flatMap_take {α : Type} (f : α → List Nat) {l : List α} {i : Nat} {x : α} (h : l[i]? = some x) : (l.take (i + 1)).flatMap f = (l.take i).flatMap f ++ f x := by
  rw [List.take_add_one, h, List.flatMap_append]; simp
theorem blkS_len (s : List UInt8) (h : s.length ≤ 64) : (blkS s).length ≤ 74 := by
  have := leb_len10 (v := s.length) (by omega)
  simp only [blkS, List.length_append, nb_len]; omega
theorem idx_le (ns : List (List UInt8)) (s : List UInt8) : ns.idxOf s ≤ ns.length := List.idxOf_le_length
theorem entB_len (ns : List (List UInt8)) (e : Ent) (h : ns.length < 2 ^ 63) : (entB ns e).length ≤ 11 := by
  have h1 := idx_le ns e.1
  have := leb_len10 (v := ns.idxOf e.1) (by omega)
  simp only [entB, List.length_append, List.length_singleton]; omega
end Go.Ck
