/- What is proved here: parts of the proofs of this seat's statements (a verified evaluator for calls over pure values, its laws, and contracts of functions). No condition. -/
import Derived.Test.YthjibccogjggbaaGreatKs
import Derived.Sort.Grow
import Derived.Sort.EncStr
import Derived.Test.YthjibccogjggbaaGreatKt
import Derived.Test.YthjibccogjggbaaGreatKo
import Derived.Sort.Walk0
set_option linter.all false
set_option linter.unusedVariables false
namespace Go.Ck
open Go.RowKit
/-- Strings, as elements. -/
def strs (ss : List (List UInt8)) : List PV := ss.map .str
def sortS (ss : List (List UInt8)) : List (List UInt8) := ss.mergeSort fun x y => decide (x ≤ y)
theorem sortS_len (ss : List (List UInt8)) : (sortS ss).length = ss.length := by simp [sortS]
/-- The library's sort, as it is laid. -/
def SortOK (P : Program) (f : FuncId) : Prop := ∀ (blk off cap : Nat) (ss : List (List UInt8)) (w : World), Go.Sort.Holds Go.Proofs.encStr w blk off ss.toArray → blk < w.heap.size → ss.length < 4611686018427387904 →
    Calls P f #[.slice (some ⟨blk, off, none⟩) ss.length cap] w fun e w' => e = .returned (.tuple #[]) ∧ ∃ n os, w' = Go.Sort.grow (Go.Sort.putRow Go.Proofs.encStr (Go.Sort.ahead w n) blk off (ss.mergeSort fun x y => decide (x ≤ y)).toArray) os

theorem strs_len (ss : List (List UInt8)) : (strs ss).length = ss.length := by simp [strs]
theorem strs_one (ss : List (List UInt8)) : (strs ss).all PV.one = true := by
  simp only [strs, List.all_map, List.all_eq_true]
  intro x _; rfl
theorem flat_strs (ss : List (List UInt8)) : flat (strs ss) = strs ss := flat_one (strs_one ss)
theorem ROs_strs {A : Nat → Prop} {w : World} {ss : List (List UInt8)} {cs : List Value} (h : ROs A w (strs ss) cs) : cs = ss.map Go.Proofs.encStr := by
  refine List.ext_getElem? (fun i => ?_)
  rw [List.getElem?_map]
  cases hs : ss[i]? with
  | none =>
    have : ss.length ≤ i := List.getElem?_eq_none_iff.1 hs
    have hl := h.1
    rw [strs_len] at hl
    rw [List.getElem?_eq_none (by omega)]; rfl
  | some l =>
    have hg : (strs ss)[i]? = some (.str l) := by unfold strs; rw [List.getElem?_map, hs]; rfl
    obtain ⟨v, h1, h2⟩ := h.at hg
    cases h2
    rw [h1]; rfl
theorem ROs_ofStrs (A : Nat → Prop) (w : World) (ss : List (List UInt8)) : ROs A w (strs ss) (ss.map Go.Proofs.encStr) := by
  refine ⟨by simp [strs_len], fun c hc => List.all_eq_true.1 (strs_one ss) c hc, fun i c v hc hv => ?_⟩
  unfold strs at hc
  rw [List.getElem?_map, Option.map_eq_some_iff] at hc hv
  obtain ⟨l, hl, rfl⟩ := hc
  obtain ⟨l', hl', rfl⟩ := hv
  rw [hl] at hl'; cases hl'
  exact .str l
section
variable {P : Program} {R : Option Nat} {Φ : Exit → Cx → St → Prop} {k : List It} {C : Cx} {s : St}
theorem AW.sortOwn {all : Array Oper} {o : Oper} {r : List Oper} {c : Call} {f : FuncId} {x : Operand} {p : Place} {e d : Nat} {ss : List (List UInt8)} (hS : SortOK P f) (hfn : ∃ fn, P.funcs[f]? = some fn ∧ (fn.name == "runtime.NumGoroutine") = false ∧ fn.body.isNone = false)
    (hx : ev s x = some (.al p)) (hp : s.at p = some (.own e (strs ss))) (hne : ss ≠ []) (hl : ss.length < 2 ^ 40) (hce : P.cellsOf e = 1)
    (hk : AW P R Φ .normal (.ops all r :: k) C (putTupS d [] (setAt p (.own e (strs (sortS ss))) s)))
    (hg : o.guard = none := by rfl) (hd : o.dst = some d := by rfl) (ho : o.op = .call c := by rfl) (hc : c.callee = .value (.func f) := by rfl) (hca : c.args = #[x] := by rfl) : AW P R Φ .normal (.ops all (o :: r) :: k) C s := fun B a w ha => by
  simp only [den]
  refine wpListIn_want (by simp [Region.wanted, hg]) (fun c' hc' => by rw [ho] at hc'; cases hc') ?_
  obtain ⟨fn, hfn, hname, hbody⟩ := hfn
  obtain ⟨hdf, E, h⟩ := ha
  have hv := ev_rs h hx
  generalize hxe : a.eval x = v1 at hv
  cases hv with | al => ?_
  obtain ⟨x0, hx0, hpe, ⟨cs, ⟨hcl, hrow⟩, hro, hz, hml⟩, hom⟩ := h.place p _ hp
  rw [flat_strs] at hro
  have hcs := ROs_strs hro
  subst hcs
  rw [hce, strs_len] at hcl hrow
  have hpos : 0 < ss.length := List.length_pos_iff.2 hne
  rcases hrow with ⟨_, h0⟩ | ⟨g, cap, cur, hh, _, hg1, hle, hmx, hsz, htk⟩
  · omega
  rw [Nat.mul_one] at htk hsz
  have hrun : (execOp a.eval o).run P w = .ok (.enter f #[.slice (some ⟨g, 0, none⟩) ss.length cap]) w := by
    have hbody' : ∃ b, fn.body = some b := by cases hb : fn.body with | none => simp [hb] at hbody | some b => exact ⟨b, rfl⟩
    obtain ⟨b, hb⟩ := hbody'
    have hname' : ¬ fn.name = "runtime.NumGoroutine" := by simpa using hname
    have e1 : a.eval (.func f) = .func (.func f) #[] #[] := rfl
    have e2 : E.hdr p = .slice (some ⟨g, 0, none⟩) ss.length cap := by rw [hh]
    simp [execOp, ho, resolve, hc, hca, e1, Deferred.ofValue, invoke, callFunc, hfn, hname', hb, hxe, e2]
  rw [hrun, Oper.uponIn_enter]
  refine ⟨fun h => by simp [fence, Fence.wide] at h, callsIn_fence ?_⟩
  have hgw : g < w.heap.size := (Array.getElem?_eq_some_iff.1 hg1).1
  have hgetc : ∀ j, j < ss.length → cur[j]? = some (Go.Proofs.encStr (ss.toArray[j]!)) := by
    intro j hj
    have h1 : (cur.toList.take ss.length)[j]? = some (Go.Proofs.encStr (ss[j]'hj)) := by rw [htk, List.getElem?_map, List.getElem?_eq_getElem hj]; rfl
    rw [List.getElem?_take, if_pos hj] at h1
    rw [← Array.getElem?_toList, h1]
    congr 1
    simp [getElem!_pos, hj]
  have hH : Go.Sort.Holds Go.Proofs.encStr w g 0 ss.toArray := by
    intro j hj
    have hj' : j < ss.length := by simpa using hj
    refine ⟨?_, ?_⟩
    · rw [Nat.zero_add]
      simp only [World.cell?, hg1]
      exact hgetc j hj'
    · simp [World.frozen?, hg1]
  refine (hS g 0 cap ss w hH hgw (by omega)).mono (fun en w' he => ?_)
  obtain ⟨rfl, nd, os, rfl⟩ := he
  simp only
  -- the world has grown
  have hS2 : (sortS ss).length = ss.length := sortS_len ss
  let w1 := Go.Sort.grow (Go.Sort.ahead w nd) os
  have hw1s : w1.heap.size = w.heap.size + os.size := by simp [w1, Go.Sort.grow, Go.Sort.ahead]
  have hw1b : ∀ b, b < w.heap.size → w1.heap[b]? = w.heap[b]? := by
    intro b hb
    show (w.heap ++ os)[b]? = _
    rw [Array.getElem?_append_left hb]
  have hgr1 : Grow (fun _ => False) w w1 := ⟨rfl, rfl, rfl, by rw [hw1s]; omega, fun b hb _ => hw1b b hb⟩
  have hR1 := h.world hgr1 (by simp) (fun b => w.heap.size ≤ b ∧ b < w1.heap.size) (fun b hb => hb)
  -- the block
  let w2 := Go.Sort.grow (Go.Sort.putRow Go.Proofs.encStr (Go.Sort.ahead w nd) g 0 (sortS ss).toArray) os
  have hmod : ∀ b, (Go.Sort.putRow Go.Proofs.encStr (Go.Sort.ahead w nd) g 0 (sortS ss).toArray).heap[b]? = if g = b then some (.cells (Go.Sort.putCells Go.Proofs.encStr 0 (sortS ss).toArray cur) e (0, 0)) else w.heap[b]? := by
    intro b
    show ((Go.Sort.ahead w nd).heap.modify g _)[b]? = _
    rw [Array.getElem?_modify]
    by_cases hgb : g = b
    · subst hgb
      rw [if_pos rfl, if_pos rfl]
      show (w.heap[g]?).map _ = _
      rw [hg1]; rfl
    · rw [if_neg hgb, if_neg hgb]; rfl
  have hms : (Go.Sort.putRow Go.Proofs.encStr (Go.Sort.ahead w nd) g 0 (sortS ss).toArray).heap.size = w.heap.size := by
    show ((Go.Sort.ahead w nd).heap.modify g _).size = _
    rw [Array.size_modify]; rfl
  have hw2s : w2.heap.size = w1.heap.size := by
    show ((Go.Sort.putRow Go.Proofs.encStr (Go.Sort.ahead w nd) g 0 (sortS ss).toArray).heap ++ os).size = _
    rw [Array.size_append, hms, hw1s]
  have hw2b : ∀ b, b < w.heap.size → w2.heap[b]? = if g = b then some (.cells (Go.Sort.putCells Go.Proofs.encStr 0 (sortS ss).toArray cur) e (0, 0)) else w.heap[b]? := by
    intro b hb
    show ((Go.Sort.putRow Go.Proofs.encStr (Go.Sort.ahead w nd) g 0 (sortS ss).toArray).heap ++ os)[b]? = _
    rw [Array.getElem?_append_left (by rw [hms]; exact hb), hmod]
  have hgr2 : Grow (fun b => b = g) w1 w2 := by
    refine ⟨rfl, rfl, rfl, by rw [hw2s]; exact Nat.le_refl _, fun b hb hn => ?_⟩
    by_cases hbw : b < w.heap.size
    · rw [hw2b b hbw, if_neg (fun h => hn h.symm), hw1b b hbw]
    · show ((Go.Sort.putRow Go.Proofs.encStr (Go.Sort.ahead w nd) g 0 (sortS ss).toArray).heap ++ os)[b]? = (w.heap ++ os)[b]?
      rw [Array.getElem?_append_right (by rw [hms]; omega), Array.getElem?_append_right (by omega), hms]
  have hob : (E.hdr p).ownBlock = some g := by rw [hh]; rfl
  have hcur2 : ((Go.Sort.putCells Go.Proofs.encStr 0 (sortS ss).toArray cur).toList.take ss.length) = (sortS ss).map Go.Proofs.encStr := by
    refine List.ext_getElem? (fun j => ?_)
    rw [List.getElem?_take, List.getElem?_map]
    by_cases hj : j < ss.length
    · rw [if_pos hj, Array.getElem?_toList]
      unfold Go.Sort.putCells
      rw [Array.getElem?_mapIdx, hgetc j hj]
      have hj2 : j < (sortS ss).length := by omega
      simp [hj2, getElem!_pos]
    · rw [if_neg hj, List.getElem?_eq_none (by omega)]; rfl
  have hown : OwnL P (fun b => (E.addOm (fun b => w.heap.size ≤ b ∧ b < w1.heap.size)).om b ∨ B.F b) w2 e ((E.addOm (fun b => w.heap.size ≤ b ∧ b < w1.heap.size)).hdr p) (strs (sortS ss)) := by
    refine ⟨(sortS ss).map Go.Proofs.encStr, ⟨?_, .inr ⟨g, cap, Go.Sort.putCells Go.Proofs.encStr 0 (sortS ss).toArray cur, ?_, Nat.zero_le _, ?_, ?_, hmx, ?_, ?_⟩⟩, ?_, ?_, ?_⟩
    · rw [hce, strs_len]; simp
    · rw [strs_len, hS2]; exact hh
    · rw [hw2b g hgw, if_pos rfl]
    · rw [strs_len, hS2]; exact hle
    · rw [hce, Nat.mul_one]
      unfold Go.Sort.putCells
      rw [Array.size_mapIdx]; exact hsz
    · rw [hce, strs_len, hS2, Nat.mul_one]; exact hcur2
    · rw [flat_strs]; exact ROs_ofStrs _ _ _
    · intro x hx
      rw [hce]
      unfold strs at hx
      obtain ⟨l, _, rfl⟩ := List.mem_map.1 hx
      rfl
    · rw [strs_len, hS2]
      rw [strs_len] at hml; exact hml
  have hR2 := hR1.writeOwn hp hob hgr2 hw2s hown
  -- the result
  obtain ⟨hcl2, hfr⟩ := hR2.clear d
  rw [hd]
  unfold putTupS at hk
  split at hk
  · rename_i hdn
    obtain ⟨E', hE'⟩ := hcl2.putTup (us := []) (vs := []) (by rw [clear_n]; exact hdn) hfr rfl (by simp) (by simp)
    exact hk B _ _ ⟨by rw [put_defers]; exact hdf, E', hE'⟩
  · rename_i hdn
    have hbig : a.put (some d) (.tuple #[]) = a := by
      show (⟨a.tmps.setIfInBounds d (.tuple #[]), a.defers⟩ : Act) = a
      rw [Array.setIfInBounds_eq_of_size_le (by rw [← hR2.size]; omega)]
    rw [hbig]
    exact hk B _ _ ⟨hdf, _, hR2⟩
end
end Go.Ck
namespace Go.Ck
section
variable {P : Program} {R : Option Nat} {Φ : Exit → Cx → St → Prop} {k : List It} {C : Cx} {s : St}
/-- A constant that nobody reads. -/
theorem AW.unread {all : Array Oper} {o : Oper} {r : List Oper} {d : Nat} {v : Value} (hk : AW P R Φ .normal (.ops all r :: k) C (put d .dead s)) (hg : o.guard = none := by rfl) (hd : o.dst = some d := by rfl) (ho : o.op = .assign (.const v) := by rfl) : AW P R Φ .normal (.ops all (o :: r) :: k) C s := fun B a w ha => by
  simp only [den]
  refine wpListIn_want (by simp [Region.wanted, hg]) (fun c hc => by rw [ho] at hc; cases hc) ?_
  obtain ⟨hdf, E, hE⟩ := ha
  have hrun : (execOp a.eval o).run P w = .ok (.value v) w := by
    simp only [execOp, ho, Sem.run_pure]
    rfl
  rw [hrun, Oper.uponIn_value, hd]
  refine hk B _ w ⟨by rw [put_defers]; exact hdf, E, ?_⟩
  unfold put
  split
  · rename_i hdn
    obtain ⟨hc, hf⟩ := hE.clear d
    have : (if SV.dead.on (.slot d) = true then SV.dead else SV.dead) = SV.dead := by split <;> rfl
    rw [this]
    exact hc.setDead v (by rw [clear_n]; exact hdn) hf
  · rename_i hdn
    show Rel P B.O B.w B.F s E (a.tmps.setIfInBounds d v) w
    rw [Array.setIfInBounds_eq_of_size_le (by rw [← hE.size]; omega)]
    exact hE
end
end Go.Ck
namespace Go.Ck
open Go.RowKit
section
variable {P : Program} {R : Option Nat} {Φ : Exit → Cx → St → Prop} {k : List It} {C : Cx} {s : St}
/-- A map out of a tuple. -/
theorem AW.extractM {all : Array Oper} {o : Oper} {r : List Oper} {d t i q : Nat} (hp : s.at (.part t i) = some (.mp q)) (hq : ∃ y, look q s.hp = some y) (hk : AW P R Φ .normal (.ops all r :: k) C (put d (.mp q) s)) (hg : o.guard = none := by rfl) (hd : o.dst = some d := by rfl) (ho : o.op = .extract (.tmp t) i := by rfl) : AW P R Φ .normal (.ops all (o :: r) :: k) C s := by
  refine AW.opSV hg hd (fun c hc => by rw [ho] at hc; cases hc) ⟨rfl, by simp [SV.on], fun o hpt => ?_⟩ (fun B E a w _ hE => ?_) hk
  · have : q = o := by simpa [SV.pts] using hpt
    subst this; exact hq
  · obtain ⟨x, ⟨vs, h1, h2⟩, hv⟩ := hE.place _ _ hp
    have e1 : a.eval (.tmp t) = .tuple vs := by
      show a.tmps.getD t undef = _
      simp [Array.getD_eq_getD_getElem?, h1]
    refine ⟨x, ?_, hv⟩
    simp [execOp, ho, e1, Instr.extract, h2]
end
end Go.Ck

set_option linter.unusedVariables false
namespace Go.Ck
def szB (k : Nat) : Nat := 64 * 4 ^ k
theorem szB_succ (k : Nat) : szB (k + 1) = szB k * 4 := by simp [szB, Nat.pow_succ, Nat.mul_assoc]
theorem szB_le : ∀ k, k ≤ 9 → szB k ≤ 16777216 := by decide
theorem szB_in : ∀ k, k ≤ 9 → (szB k ≤ 4194304 ↔ k ≤ 8) := by decide
theorem szB_pos (k : Nat) : 0 < szB k := by simp [szB]; exact Nat.pow_pos (by decide)
def szs (i : Nat) : Option (List PV) := if i < 9 then some [.int .i64 (i : Int), .int .i64 (szB i : Int)] else none
/-- The bucket's size. -/
def padSz (k : Int) : Nat := if 0 ≤ k ∧ k ≤ 8 then szB k.toNat else 0
def padAcc (k : Int) (i : Nat) : Nat := if 0 ≤ k ∧ k < i then szB k.toNat else 0
theorem padAcc_0 (k : Int) : padAcc k 0 = 0 := by unfold padAcc; rw [if_neg (by omega)]
theorem padAcc_9 (k : Int) : padAcc k 9 = padSz k := by unfold padAcc padSz; congr 1; simp; omega
theorem padAcc_eq (i : Nat) : padAcc (i : Int) (i + 1) = szB i := by unfold padAcc; rw [if_pos (by omega)]; simp
theorem padAcc_ne (k : Int) (i : Nat) (h : (i : Int) ≠ k) : padAcc k (i + 1) = padAcc k i := by unfold padAcc; congr 1; simp; omega
theorem padSz_zero (k : Int) : padSz k = 0 ↔ ¬ (0 ≤ k ∧ k ≤ 8) := by
  unfold padSz
  split
  · rename_i h; have := szB_pos k.toNat; constructor
    · intro h0; omega
    · intro hn; exact absurd h hn
  · rename_i h; exact ⟨fun _ => h, fun _ => rfl⟩
abbrev Ent := List UInt8 × Int
def entP (e : Ent) : PV := .agg [.str e.1, .int .i64 e.2]
def entsP (es : List Ent) : List PV := es.map entP
theorem entsP_len (es : List Ent) : (entsP es).length = es.length := by simp [entsP]
attribute [go_sem] entsP_len
theorem entsP_get {es : List Ent} {i : Nat} {e : Ent} (h : es[i]? = some e) : (entsP es)[i]? = some (.agg [.str e.1, .int .i64 e.2]) := by
  unfold entsP; rw [List.getElem?_map, h]; rfl
structure Man where
  v : Nat
  prev : List Nat
  es : List Ent
  root : List Nat
def manP (m : Man) : PV := .agg [.int .u64 (m.v : Int), .sl 1 (bytes m.prev), .sl 2 (entsP m.es), .sl 1 (bytes m.root)]
def badB (e : Ent) : Bool := padSz e.2 == 0
def longB (e : Ent) : Bool := decide (64 < e.1.length)
def wrongM (m : Man) : Nat :=
  if m.v = 18446744073709551615 ∨ m.prev.length ≠ 32 ∨ m.root.length ≠ 32 then 1
  else if m.es.any badB = true then 1
  else if 1048576 < m.es.length ∨ m.es.any longB = true then 4 else 0
end Go.Ck

set_option linter.unusedVariables false
namespace Go.Ck
def nmStep (acc : List (List UInt8)) (e : Ent) : List (List UInt8) := if e.1 ∈ acc then acc else acc ++ [e.1]
/-- The tenants, as they first stand. -/
def nmS (es : List Ent) : List (List UInt8) := es.foldl nmStep []
theorem nmS_succ {es : List Ent} {i : Nat} {e : Ent} (h : es[i]? = some e) : nmS (es.take (i + 1)) = nmStep (nmS (es.take i)) e := by
  unfold nmS; rw [List.take_add_one, h]; simp
theorem nmStep_nodup {acc : List (List UInt8)} {e : Ent} (h : acc.Nodup) : (nmStep acc e).Nodup := by
  unfold nmStep; split
  · exact h
  · rename_i hn
    rw [List.nodup_append]
    refine ⟨h, by simp, ?_⟩
    intro a ha b hb
    simp at hb; subst hb
    intro e2; subst e2; exact hn ha
theorem nmF_nodup : ∀ (es : List Ent) (acc : List (List UInt8)), acc.Nodup → (es.foldl nmStep acc).Nodup
  | [], acc, h => h
  | e :: r, acc, h => nmF_nodup r _ (nmStep_nodup h)
theorem nmS_nodup (es : List Ent) : (nmS es).Nodup := nmF_nodup es [] (by simp)
theorem nmF_len : ∀ (es : List Ent) (acc : List (List UInt8)), (es.foldl nmStep acc).length ≤ acc.length + es.length
  | [], acc => by simp
  | e :: r, acc => by
    have := nmF_len r (nmStep acc e)
    have h2 : (nmStep acc e).length ≤ acc.length + 1 := by unfold nmStep; split <;> simp
    simp only [List.foldl_cons, List.length_cons]; omega
theorem nmS_len (es : List Ent) : (nmS es).length ≤ es.length := by have := nmF_len es []; simpa [nmS] using this
theorem nmF_mem : ∀ (es : List Ent) (acc : List (List UInt8)) (s : List UInt8), s ∈ es.foldl nmStep acc ↔ s ∈ acc ∨ ∃ e ∈ es, e.1 = s
  | [], acc, s => by simp
  | e :: r, acc, s => by
    simp only [List.foldl_cons]
    rw [nmF_mem r]
    have h1 : s ∈ nmStep acc e ↔ s ∈ acc ∨ e.1 = s := by
      unfold nmStep
      split
      · rename_i h
        constructor
        · exact .inl
        · rintro (h1 | rfl)
          · exact h1
          · exact h
      · simp [eq_comm]
    rw [h1]
    simp only [List.mem_cons, exists_eq_or_imp]
    exact or_assoc
theorem nmS_mem (es : List Ent) (s : List UInt8) : s ∈ nmS es ↔ ∃ e ∈ es, e.1 = s := by
  unfold nmS; rw [nmF_mem]; simp
def dirS (es : List Ent) : List (List UInt8) := sortS (nmS es)
theorem sortS_perm (ss : List (List UInt8)) : (sortS ss).Perm ss := List.mergeSort_perm ss _
theorem dirS_nodup (es : List Ent) : (dirS es).Nodup := (sortS_perm _).nodup_iff.2 (nmS_nodup es)
theorem dirS_len (es : List Ent) : (dirS es).length = (nmS es).length := sortS_len _
theorem dirS_mem (es : List Ent) (s : List UInt8) : s ∈ dirS es ↔ ∃ e ∈ es, e.1 = s := by
  unfold dirS; rw [(sortS_perm _).mem_iff, nmS_mem]

def mpS (f : List UInt8 → Nat) (ds : List (List UInt8)) : List (PV × PV) := ds.map fun s => (.str s, .int .i64 (f s : Int))
theorem mlook_mpS (f : List UInt8 → Nat) (t : List UInt8) : ∀ ds, mlook (.str t) (mpS f ds) = some (if t ∈ ds then some (.int .i64 (f t : Int)) else none)
  | [] => rfl
  | s :: r => by
    have hc : mpS f (s :: r) = (.str s, .int .i64 (f s : Int)) :: mpS f r := rfl
    rw [hc]
    simp only [mlook, keyEq]
    by_cases h : t = s
    · subst h; simp
    · have h1 : (t == s) = false := by simpa using h
      rw [h1, mlook_mpS f t r]
      simp [h]
theorem mset_new (f : List UInt8 → Nat) (t : List UInt8) (v : PV) : ∀ ds, t ∉ ds → mset (.str t) v (mpS f ds) = some (mpS f ds ++ [(.str t, v)])
  | [], _ => rfl
  | s :: r, h => by
    have hc : mpS f (s :: r) = (.str s, .int .i64 (f s : Int)) :: mpS f r := rfl
    have h1 : (t == s) = false := by simp at h ⊢; exact h.1
    rw [hc]
    simp only [mset, keyEq, h1]
    rw [mset_new f t v r (by simp at h; exact h.2)]
    rfl
theorem mset_add (f : List UInt8 → Nat) (t : List UInt8) (ds : List (List UInt8)) (h : t ∉ ds) : mset (.str t) (.int .i64 (f t : Int)) (mpS f ds) = some (mpS f (ds ++ [t])) := by
  rw [mset_new f t _ ds h]; simp [mpS]
theorem mpS_congr {f g : List UInt8 → Nat} {ds : List (List UInt8)} (h : ∀ s ∈ ds, f s = g s) : mpS f ds = mpS g ds := by
  unfold mpS
  refine List.map_congr_left (fun s hs => by rw [h s hs])
theorem mset_old (f : List UInt8 → Nat) (t : List UInt8) (v : Nat) : ∀ ds, t ∈ ds → ds.Nodup → mset (.str t) (.int .i64 (v : Int)) (mpS f ds) = some (mpS (fun s => if s = t then v else f s) ds)
  | [], h, _ => by cases h
  | s :: r, h, hn => by
    have hc : ∀ g : List UInt8 → Nat, mpS g (s :: r) = (.str s, .int .i64 (g s : Int)) :: mpS g r := fun _ => rfl
    rw [List.nodup_cons] at hn
    rw [hc, hc]
    simp only [mset, keyEq]
    by_cases hts : t = s
    · subst hts
      have h1 : (t == t) = true := by simp
      rw [h1]
      simp only [if_true]
      have h4 : mpS (fun s => if s = t then v else f s) r = mpS f r := mpS_congr (fun x hx => by
        have hne : ¬ x = t := fun e => hn.1 (by rw [← e]; exact hx)
        simp only [if_neg hne])
      rw [h4]
    · have h1 : (t == s) = false := by simpa using hts
      have h2 : t ∈ r := by
        rcases List.mem_cons.1 h with h | h
        · exact absurd h hts
        · exact h
      rw [h1]
      simp only
      rw [mset_old f t v r h2 hn.2]
      have h3 : (if s = t then v else f s) = f s := if_neg (fun e => hts e.symm)
      simp only [msetO, h3]
/-- Where the first k names stand. -/
def posK (l : List (List UInt8)) (k : Nat) (s : List UInt8) : Nat := if l.idxOf s < k then l.idxOf s else 0
theorem posK_0 (l : List (List UInt8)) : posK l 0 = fun _ => 0 := by funext s; simp [posK]
theorem posK_succ {l : List (List UInt8)} (hn : l.Nodup) {k : Nat} {t : List UInt8} (h : l[k]? = some t) : (fun s => if s = t then k else posK l k s) = posK l (k + 1) := by
  have hk : k < l.length := (List.getElem?_eq_some_iff.1 h).1
  have ht : l[k] = t := (List.getElem?_eq_some_iff.1 h).2
  funext s
  show (if s = t then k else posK l k s) = posK l (k + 1) s
  unfold posK
  by_cases hs : s = t
  · have hi : l.idxOf s = k := by rw [hs, ← ht]; exact List.Nodup.idxOf_getElem hn k hk
    rw [if_pos hs, hi, if_pos (by omega)]
  · rw [if_neg hs]
    have hne : l.idxOf s ≠ k := by
      intro e
      have hlt : l.idxOf s < l.length := by omega
      have := List.getElem_idxOf hlt
      apply hs
      rw [← ht, ← this]
      congr 1
    by_cases hlt : l.idxOf s < k
    · rw [if_pos hlt, if_pos (by omega)]
    · rw [if_neg hlt, if_neg (by omega)]
theorem posK_all (l : List (List UInt8)) (s : List UInt8) (h : s ∈ l) : posK l l.length s = l.idxOf s := by
  unfold posK
  rw [if_pos (List.idxOf_lt_length_of_mem h)]
end Go.Ck
namespace Go.Ck
theorem strs_get {ss : List (List UInt8)} {i : Nat} {t : List UInt8} (h : ss[i]? = some t) : (strs ss)[i]? = some (.str t) := by
  unfold strs; rw [List.getElem?_map, h]; rfl
theorem strs_snoc (ss : List (List UInt8)) (t : List UInt8) : strs ss ++ [.str t] = strs (ss ++ [t]) := by simp [strs]
theorem cloL_strs (ss : List (List UInt8)) : cloL (strs ss) = true := by
  induction ss with
  | nil => rfl
  | cons a l ih => simpa [strs, cloL, PV.clo] using ih
attribute [go_sem] strs_len cloL_strs
end Go.Ck

set_option linter.unusedVariables false
namespace Go.Ck
def headM (m : Man) : List Nat := [67, 83, 75, 49] ++ beB m.v 8 ++ m.prev
def blkS (s : List UInt8) : List Nat := leb s.length ++ nb s
def entB (ns : List (List UInt8)) (e : Ent) : List Nat := leb (ns.idxOf e.1) ++ [e.2.toNat]
def bodyM (m : Man) : List Nat := headM m ++ leb (dirS m.es).length ++ (dirS m.es).flatMap blkS ++ leb m.es.length ++ m.es.flatMap (entB (dirS m.es)) ++ m.root
def encM (m : Man) : List Nat × Nat := if wrongM m ≠ 0 then ([], wrongM m) else (bodyM m, 0)
theorem wrongM_zero {m : Man} (h : wrongM m = 0) : m.v ≠ 18446744073709551615 ∧ m.prev.length = 32 ∧ m.root.length = 32 ∧ (∀ e ∈ m.es, 0 ≤ e.2 ∧ e.2 ≤ 8) ∧ m.es.length ≤ 1048576 ∧ ∀ e ∈ m.es, e.1.length ≤ 64 := by
  unfold wrongM at h
  split at h
  · cases h
  · rename_i h1
    split at h
    · cases h
    · rename_i h2
      split at h
      · cases h
      · rename_i h3
        refine ⟨by omega, by omega, by omega, fun e he => ?_, by omega, fun e he => ?_⟩
        · have : badB e = false := by
            cases hb : badB e with
            | false => rfl
            | true => exact absurd (List.any_eq_true.2 ⟨e, he, hb⟩) h2
          unfold badB at this
          have h5 : padSz e.2 ≠ 0 := by simpa using this
          rw [Ne, padSz_zero] at h5
          omega
        · have : longB e = false := by
            cases hb : longB e with
            | false => rfl
            | true => exact absurd (.inr (List.any_eq_true.2 ⟨e, he, hb⟩)) h3
          unfold longB at this
          have := of_decide_eq_false this
          omega
theorem flatMap_le {α : Type} (f : α → List Nat) (c : Nat) : ∀ (l : List α), (∀ x ∈ l, (f x).length ≤ c) → (l.flatMap f).length ≤ c * l.length
  | [], _ => by simp
  | x :: r, h => by
    have h1 := h x (by simp)
    have h2 := flatMap_le f c r (fun y hy => h y (by simp [hy]))
    simp only [List.flatMap_cons, List.length_append, List.length_cons, Nat.mul_succ]
    omega
theorem flatMap_take {α : Type} (f : α → List Nat) {l : List α} {i : Nat} {x : α} (h : l[i]? = some x) : (l.take (i + 1)).flatMap f = (l.take i).flatMap f ++ f x := by
  rw [List.take_add_one, h, List.flatMap_append]; simp
theorem blkS_len (s : List UInt8) (h : s.length ≤ 64) : (blkS s).length ≤ 74 := by
  have := leb_len10 (v := s.length) (by omega)
  simp only [blkS, List.length_append, nb_len]; omega
theorem idx_le (ns : List (List UInt8)) (s : List UInt8) : ns.idxOf s ≤ ns.length := List.idxOf_le_length
theorem entB_len (ns : List (List UInt8)) (e : Ent) (h : ns.length < 2 ^ 63) : (entB ns e).length ≤ 11 := by
  have h1 := idx_le ns e.1
  have := leb_len10 (v := ns.idxOf e.1) (by omega)
  simp only [entB, List.length_append, List.length_singleton]; omega
end Go.Ck

set_option linter.unusedVariables false
namespace Go.Ck
def insS (s : List UInt8) : List (List UInt8) → List (List UInt8)
  | [] => [s]
  | a :: r => if a < s then a :: insS s r else if a = s then a :: r else s :: a :: r
def tnS (es : List Ent) : List (List UInt8) := es.foldl (fun acc e => insS e.1 acc) []
theorem tnS_succ {es : List Ent} {i : Nat} {e : Ent} (h : es[i]? = some e) : tnS (es.take (i + 1)) = insS e.1 (tnS (es.take i)) := by
  unfold tnS; rw [List.take_add_one, h]; simp
theorem insS_mem (s t : List UInt8) : ∀ ls, t ∈ insS s ls ↔ t = s ∨ t ∈ ls
  | [] => by simp [insS]
  | a :: r => by
    unfold insS
    split
    · rw [List.mem_cons, insS_mem s t r, List.mem_cons]
      constructor
      · rintro (h | h | h)
        · exact .inr (.inl h)
        · exact .inl h
        · exact .inr (.inr h)
      · rintro (h | h | h)
        · exact .inr (.inl h)
        · exact .inl h
        · exact .inr (.inr h)
    · split
      · rename_i h1 h2
        subst h2
        simp
      · simp
theorem insS_len (s : List UInt8) : ∀ ls, (insS s ls).length ≤ ls.length + 1
  | [] => by simp [insS]
  | a :: r => by
    have := insS_len s r
    unfold insS
    split
    · simp only [List.length_cons]; omega
    · split <;> simp
theorem lt_of_le_ne {a b : List UInt8} (h : a ≤ b) (hn : a ≠ b) : a < b := by
  refine Classical.byContradiction (fun h2 => hn ?_)
  exact List.le_antisymm h (List.not_lt.1 h2)
theorem insS_sorted (s : List UInt8) : ∀ ls, ls.Pairwise (· < ·) → (insS s ls).Pairwise (· < ·)
  | [], _ => by simp [insS]
  | a :: r, h => by
    rw [List.pairwise_cons] at h
    unfold insS
    split
    · rename_i h1
      rw [List.pairwise_cons]
      refine ⟨fun b hb => ?_, insS_sorted s r h.2⟩
      rcases (insS_mem s b r).1 hb with rfl | hb
      · exact h1
      · exact h.1 b hb
    · split
      · exact List.pairwise_cons.2 h
      · rename_i h1 h2
        have hs : s < a := lt_of_le_ne (List.not_lt.1 h1) (fun e => h2 e.symm)
        rw [List.pairwise_cons]
        refine ⟨fun b hb => ?_, List.pairwise_cons.2 h⟩
        rcases List.mem_cons.1 hb with rfl | hb
        · exact hs
        · exact List.lt_trans hs (h.1 b hb)
theorem insS_at (s : List UInt8) : ∀ (ls : List (List UInt8)) (j : Nat), j ≤ ls.length → (∀ a ∈ ls.take j, a < s) → (∀ a, ls[j]? = some a → ¬ a < s) → insS s ls = if ls[j]? = some s then ls else ls.take j ++ s :: ls.drop j
  | [], j, hj, h1, h2 => by
    have : j = 0 := by simpa using hj
    subst this; simp [insS]
  | a :: r, 0, hj, h1, h2 => by
    have := h2 a rfl
    unfold insS
    rw [if_neg this]
    simp
  | a :: r, j + 1, hj, h1, h2 => by
    have h3 : a < s := h1 a (by simp)
    unfold insS
    rw [if_pos h3, insS_at s r j (by simpa using hj) (fun b hb => h1 b (by simp [hb])) (fun b hb => h2 b (by simpa using hb))]
    simp only [List.getElem?_cons_succ, List.take_succ_cons, List.drop_succ_cons, List.cons_append]
    split <;> rfl
theorem tnF_sorted : ∀ (es : List Ent) (acc : List (List UInt8)), acc.Pairwise (· < ·) → (es.foldl (fun acc e => insS e.1 acc) acc).Pairwise (· < ·)
  | [], _, h => h
  | e :: r, _, h => tnF_sorted r _ (insS_sorted e.1 _ h)
theorem tnS_sorted (es : List Ent) : (tnS es).Pairwise (· < ·) := tnF_sorted es [] (by simp)
theorem tnF_mem (s : List UInt8) : ∀ (es : List Ent) (acc : List (List UInt8)), s ∈ es.foldl (fun acc e => insS e.1 acc) acc ↔ s ∈ acc ∨ ∃ e ∈ es, e.1 = s
  | [], acc => by simp
  | e :: r, acc => by
    simp only [List.foldl_cons]
    rw [tnF_mem s r, insS_mem]
    simp only [List.mem_cons, exists_eq_or_imp]
    constructor
    · rintro ((h | h) | h)
      · exact .inr (.inl h.symm)
      · exact .inl h
      · exact .inr (.inr h)
    · rintro (h | h | h)
      · exact .inl (.inr h)
      · exact .inl (.inl h.symm)
      · exact .inr h
theorem tnS_mem (es : List Ent) (s : List UInt8) : s ∈ tnS es ↔ ∃ e ∈ es, e.1 = s := by
  unfold tnS; rw [tnF_mem]; simp
theorem tnF_len : ∀ (es : List Ent) (acc : List (List UInt8)), (es.foldl (fun acc e => insS e.1 acc) acc).length ≤ acc.length + es.length
  | [], acc => by simp
  | e :: r, acc => by
    have := tnF_len r (insS e.1 acc)
    have h2 := insS_len e.1 acc
    simp only [List.foldl_cons, List.length_cons]; omega
theorem tnS_len (es : List Ent) : (tnS es).length ≤ es.length := by have := tnF_len es []; simpa [tnS] using this
theorem sorted_ext {l m : List (List UInt8)} (hl : l.Pairwise (· < ·)) (hm : m.Pairwise (· < ·)) (h : ∀ x, x ∈ l ↔ x ∈ m) : l = m := by
  have n1 : l.Nodup := hl.imp (fun {a b} h e => by subst e; exact List.lt_irrefl a h)
  have n2 : m.Nodup := hm.imp (fun {a b} h e => by subst e; exact List.lt_irrefl a h)
  have hp : l.Perm m := (List.perm_ext_iff_of_nodup n1 n2).2 h
  exact List.Perm.eq_of_pairwise (fun a b _ _ h1 h2 => absurd (List.lt_trans h1 h2) (List.lt_irrefl a)) hl hm hp
theorem dirS_sorted (es : List Ent) : (dirS es).Pairwise (· < ·) := by
  have h1 : (dirS es).Pairwise (fun a b => decide (a ≤ b) = true) := List.pairwise_mergeSort (fun a b c h1 h2 => by simp only [decide_eq_true_eq] at *; exact List.le_trans h1 h2) (fun a b => by
    rcases List.le_total a b with h | h
    · simp [h]
    · simp [h]) _
  have h2 := dirS_nodup es
  have h3 := h1.and h2
  exact h3.imp (fun {a b} h => lt_of_le_ne (by simpa using h.1) h.2)
theorem tnS_dir (es : List Ent) : tnS es = dirS es := sorted_ext (tnS_sorted es) (dirS_sorted es) (fun x => by rw [tnS_mem, dirS_mem])
/-- Where a tenant stands. -/
theorem idx_at {ls : List (List UInt8)} {s : List UInt8} {i : Nat} (h : ls[i]? = some s) (hn : s ∉ ls.take i) : ls.idxOf s = i := by
  have hi : i < ls.length := (List.getElem?_eq_some_iff.1 h).1
  have e1 : ls = ls.take i ++ s :: ls.drop (i + 1) := by
    rw [← (List.getElem?_eq_some_iff.1 h).2, List.getElem_cons_drop, List.take_append_drop]
  rw [e1, List.idxOf_append, if_neg hn]
  simp
  omega
end Go.Ck

set_option linter.unusedVariables false
namespace Go.Ck
def cntD (q : List Nat) : Nat × Int × List Nat :=
  if (readV q).2.2 ≠ 0 then (0, (readV q).2.2, q.drop (readV q).2.1) else if 1048576 < (readV q).1 then (0, 4, q.drop (readV q).2.1) else ((readV q).1, 0, q.drop (readV q).2.1)
def okT (acc : List (List UInt8)) (t : List UInt8) : Bool := match acc.getLast? with
  | some l => decide (l < t)
  | none => true
def tnD : Nat → List (List UInt8) → List Nat → List (List UInt8) × Int × List Nat
  | 0, acc, q => (acc, 0, q)
  | n + 1, acc, q => if (blk q 64).2.1 ≠ 0 then ([], (blk q 64).2.1, (blk q 64).2.2) else if okT acc (ub (blk q 64).1) = true then tnD n (acc ++ [ub (blk q 64).1]) (blk q 64).2.2 else ([], 3, (blk q 64).2.2)
def tensD (q : List Nat) : List (List UInt8) × Int × List Nat := if (cntD q).2.1 ≠ 0 then ([], (cntD q).2) else tnD (cntD q).1 [] (cntD q).2.2
def entD (t : List UInt8) (x : Nat) : Ent := (t, (x : Int))
def enD (ts : List (List UInt8)) : Nat → List Ent → List Nat → List Ent × Int × List Nat
  | 0, acc, q => (acc, 0, q)
  | n + 1, acc, q => if (readV q).2.2 ≠ 0 then ([], (readV q).2.2, q.drop (readV q).2.1) else if ts.length ≤ (readV q).1 then ([], 3, q.drop (readV q).2.1)
    else if (q.drop (readV q).2.1).length < 1 then ([], 2, q.drop (readV q).2.1) else if 8 < (q.drop (readV q).2.1).headD 0 then ([], 3, (q.drop (readV q).2.1).drop 1)
    else enD ts n (acc ++ [entD (ts.getD (readV q).1 []) ((q.drop (readV q).2.1).headD 0)]) ((q.drop (readV q).2.1).drop 1)
def entsD (ts : List (List UInt8)) (q : List Nat) : List Ent × Int × List Nat := if (cntD q).2.1 ≠ 0 then ([], (cntD q).2) else enD ts (cntD q).1 [] (cntD q).2.2
def noM (e : Int) : Man × Int := (⟨0, [], [], []⟩, e)
def decM5 (v : Nat) (p : List Nat) (ts : List (List UInt8)) (es : List Ent) (q : List Nat) : Man × Int :=
  if q.length < 32 then noM 2 else if q.drop 32 ≠ [] then noM 3 else if (dirS es).length ≠ ts.length then noM 3 else (⟨v, p, es, q.take 32⟩, 0)
def decM4 (v : Nat) (p : List Nat) (ts : List (List UInt8)) (q : List Nat) : Man × Int := if (entsD ts q).2.1 ≠ 0 then noM (entsD ts q).2.1 else decM5 v p ts (entsD ts q).1 (entsD ts q).2.2
def decM3 (v : Nat) (p : List Nat) (q : List Nat) : Man × Int := if (tensD q).2.1 ≠ 0 then noM (tensD q).2.1 else decM4 v p (tensD q).1 (tensD q).2.2
def decM2 (v : Nat) (q : List Nat) : Man × Int := if q.length < 32 then noM 2 else decM3 v (q.take 32) (q.drop 32)
def decM1 (q : List Nat) : Man × Int := if q.length < 8 then noM 2 else if beN (q.take 8) = 18446744073709551615 then noM 3 else decM2 (beN (q.take 8)) (q.drop 8)
def decM (b : List Nat) : Man × Int := if b.length < 4 then noM 2 else if b.take 4 ≠ [67, 83, 75, 49] then noM 3 else decM1 (b.drop 4)

theorem cntD_byte {q : List Nat} (h : ∀ x ∈ q, x < 256) : ∀ x ∈ (cntD q).2.2, x < 256 := by
  have : (cntD q).2.2 = q.drop (readV q).2.1 := by unfold cntD; split; rfl; split <;> rfl
  rw [this]; exact fun x hx => h x (List.mem_of_mem_drop hx)
theorem cntD_len (q : List Nat) : (cntD q).2.2.length ≤ q.length := by
  have : (cntD q).2.2 = q.drop (readV q).2.1 := by unfold cntD; split; rfl; split <;> rfl
  rw [this, List.length_drop]; omega
theorem cntD_le (q : List Nat) : (cntD q).1 ≤ 1048576 := by
  unfold cntD; split
  · exact Nat.zero_le _
  · split
    · exact Nat.zero_le _
    · simp only; omega
theorem tnD_byte : ∀ (n : Nat) (acc : List (List UInt8)) (q : List Nat), (∀ x ∈ q, x < 256) → ∀ x ∈ (tnD n acc q).2.2, x < 256
  | 0, acc, q, h => h
  | n + 1, acc, q, h => by
    obtain ⟨h1, h2, h3, h4⟩ := blk_byte (m := 64) h
    unfold tnD
    split
    · exact h2
    · split
      · exact tnD_byte n _ _ h2
      · exact h2
theorem tnD_len : ∀ (n : Nat) (acc : List (List UInt8)) (q : List Nat), (∀ x ∈ q, x < 256) → (tnD n acc q).2.2.length ≤ q.length
  | 0, acc, q, h => Nat.le_refl _
  | n + 1, acc, q, h => by
    obtain ⟨h1, h2, h3, h4⟩ := blk_byte (m := 64) h
    unfold tnD
    split
    · simp only; omega
    · split
      · exact Nat.le_trans (tnD_len n _ _ h2) (by omega)
      · simp only; omega
theorem tnD_n : ∀ (n : Nat) (acc : List (List UInt8)) (q : List Nat), (tnD n acc q).1.length ≤ acc.length + n
  | 0, acc, q => by simp [tnD]
  | n + 1, acc, q => by
    unfold tnD
    split
    · simp
    · split
      · have := tnD_n n (acc ++ [ub (blk q 64).1]) (blk q 64).2.2
        simp at this; omega
      · simp
theorem tensD_byte {q : List Nat} (h : ∀ x ∈ q, x < 256) : ∀ x ∈ (tensD q).2.2, x < 256 := by
  unfold tensD; split
  · exact cntD_byte h
  · exact tnD_byte _ _ _ (cntD_byte h)
theorem tensD_len {q : List Nat} (h : ∀ x ∈ q, x < 256) : (tensD q).2.2.length ≤ q.length := by
  unfold tensD; split
  · exact cntD_len q
  · exact Nat.le_trans (tnD_len _ _ _ (cntD_byte h)) (cntD_len q)
theorem tensD_n (q : List Nat) : (tensD q).1.length ≤ 1048576 := by
  unfold tensD; split
  · simp
  · have := tnD_n (cntD q).1 [] (cntD q).2.2
    have := cntD_le q
    simp at *; omega
theorem enD_byte (ts : List (List UInt8)) : ∀ (n : Nat) (acc : List Ent) (q : List Nat), (∀ x ∈ q, x < 256) → ∀ x ∈ (enD ts n acc q).2.2, x < 256
  | 0, acc, q, h => h
  | n + 1, acc, q, h => by
    have h2 : ∀ x ∈ q.drop (readV q).2.1, x < 256 := fun x hx => h x (List.mem_of_mem_drop hx)
    have h3 : ∀ x ∈ (q.drop (readV q).2.1).drop 1, x < 256 := fun x hx => h2 x (List.mem_of_mem_drop hx)
    unfold enD
    split
    · exact h2
    · split
      · exact h2
      · split
        · exact h2
        · split
          · exact h3
          · exact enD_byte ts n _ _ h3
theorem enD_len (ts : List (List UInt8)) : ∀ (n : Nat) (acc : List Ent) (q : List Nat), (enD ts n acc q).2.2.length ≤ q.length
  | 0, acc, q => Nat.le_refl _
  | n + 1, acc, q => by
    have h2 : (q.drop (readV q).2.1).length ≤ q.length := by rw [List.length_drop]; omega
    have h3 : ((q.drop (readV q).2.1).drop 1).length ≤ q.length := by rw [List.length_drop]; omega
    unfold enD
    split
    · exact h2
    · split
      · exact h2
      · split
        · exact h2
        · split
          · exact h3
          · exact Nat.le_trans (enD_len ts n _ _) h3
theorem enD_n (ts : List (List UInt8)) : ∀ (n : Nat) (acc : List Ent) (q : List Nat), (enD ts n acc q).1.length ≤ acc.length + n
  | 0, acc, q => by simp [enD]
  | n + 1, acc, q => by
    unfold enD
    split
    · simp
    · split
      · simp
      · split
        · simp
        · split
          · simp
          · have := enD_n ts n (acc ++ [entD (ts.getD (readV q).1 []) ((q.drop (readV q).2.1).headD 0)]) ((q.drop (readV q).2.1).drop 1)
            rw [List.length_append, List.length_singleton] at this; omega
theorem entsD_byte (ts : List (List UInt8)) {q : List Nat} (h : ∀ x ∈ q, x < 256) : ∀ x ∈ (entsD ts q).2.2, x < 256 := by
  unfold entsD; split
  · exact cntD_byte h
  · exact enD_byte ts _ _ _ (cntD_byte h)
theorem entsD_len (ts : List (List UInt8)) (q : List Nat) : (entsD ts q).2.2.length ≤ q.length := by
  unfold entsD; split
  · exact cntD_len q
  · exact Nat.le_trans (enD_len _ _ _ _) (cntD_len q)
theorem entsD_n (ts : List (List UInt8)) (q : List Nat) : (entsD ts q).1.length ≤ 1048576 := by
  unfold entsD; split
  · simp
  · have := enD_n ts (cntD q).1 [] (cntD q).2.2
    have := cntD_le q
    simp at *; omega
theorem okT_last {acc : List (List UInt8)} {l : List UInt8} (t : List UInt8) (h : acc.getLast? = some l) : okT acc t = decide (l < t) := by unfold okT; rw [h]
end Go.Ck

set_option linter.unusedVariables false
namespace Go.Ck
def sameM (a b : Man) : Bool := decide (a.v = b.v ∧ a.prev = b.prev ∧ a.root = b.root ∧ a.es = b.es)
theorem sameM_eq (a b : Man) : sameM a b = true ↔ a = b := by
  obtain ⟨v, p, es, r⟩ := a
  obtain ⟨v2, p2, es2, r2⟩ := b
  simp only [sameM, decide_eq_true_eq, Man.mk.injEq]
  constructor
  · rintro ⟨h1, h2, h3, h4⟩; exact ⟨h1, h2, h4, h3⟩
  · rintro ⟨h1, h2, h4, h3⟩; exact ⟨h1, h2, h3, h4⟩
theorem sameM_self (a : Man) : sameM a a = true := (sameM_eq a a).2 rfl
end Go.Ck

set_option linter.unusedVariables false
namespace Go.Ck
def signM (key : List Nat) (m : Man) : List Nat × Int :=
  if (dk key 4 []).2 ≠ 0 then ([], ((dk key 4 []).2 : Int)) else if (encM m).2 ≠ 0 then ([], ((encM m).2 : Int)) else ((encM m).1 ++ hmac (dk key 4 []).1 (encM m).1, 0)
def checkM (key b : List Nat) : Man × Int :=
  if (dk key 4 []).2 ≠ 0 then noM ((dk key 4 []).2 : Int) else if b.length < 32 then noM 2 else if hmac (dk key 4 []).1 (b.take (b.length - 32)) ≠ b.drop (b.length - 32) then noM 5 else decM (b.take (b.length - 32))
theorem bodyM_len (m : Man) (h : wrongM m = 0) (hv : m.v < 2 ^ 64) : (bodyM m).length ≤ 2 ^ 28 ∧ 0 < (bodyM m).length := by
  obtain ⟨w1, w2, w3, w4, w5, w6⟩ := wrongM_zero h
  have hnl : (dirS m.es).length ≤ m.es.length := by rw [dirS_len]; exact nmS_len _
  have hn64 : ∀ s ∈ dirS m.es, s.length ≤ 64 := by
    intro s hs
    obtain ⟨e, he, rfl⟩ := (dirS_mem m.es s).1 hs
    exact w6 e he
  have h1 := flatMap_le blkS 74 (dirS m.es) (fun s hs => blkS_len s (hn64 s hs))
  have h2 := flatMap_le (entB (dirS m.es)) 11 m.es (fun s hs => entB_len _ s (by omega))
  have l1 := leb_len10 (v := (dirS m.es).length) (by omega)
  have l2 := leb_len10 (v := m.es.length) (by omega)
  have hb := beB_len m.v 8
  simp only [bodyM, headM, List.length_append, List.length_cons, List.length_nil]
  omega
theorem encM_len (m : Man) (hv : m.v < 2 ^ 64) : (encM m).1.length ≤ 2 ^ 28 := by
  unfold encM
  split
  · simp
  · rename_i h
    exact (bodyM_len m (by simpa using h) hv).1
theorem encM_pos (m : Man) (hv : m.v < 2 ^ 64) (h : (encM m).2 = 0) : 0 < (encM m).1.length := by
  unfold encM at h ⊢
  split at h
  · rename_i h1
    exact absurd h h1
  · rename_i h1
    rw [if_neg h1]
    exact (bodyM_len m (by simpa using h1) hv).2
end Go.Ck

set_option linter.unusedVariables false
namespace Go.Ck
def z32 : List Nat := List.replicate 32 0
theorem z32_byte : ∀ x ∈ z32, x < 256 := by decide
def awM : Man := ⟨1, z32, [], z32⟩
theorem dirS_nil : dirS [] = [] := by simp [dirS, nmS, sortS]
theorem awM_wrong : wrongM awM = 0 := by decide
theorem awM_body : bodyM awM = [67, 83, 75, 49] ++ beB 1 8 ++ z32 ++ [0] ++ [0] ++ z32 := by
  unfold bodyM headM awM
  have h0 : leb ([] : List Ent).length = [0] := by show leb 0 = [0]; rw [leb]; simp
  have h1 : leb ([] : List (List UInt8)).length = [0] := by show leb 0 = [0]; rw [leb]; simp
  simp only [dirS_nil]
  rw [h0, h1]
  rfl
theorem awM_enc : encM awM = ([67, 83, 75, 49] ++ beB 1 8 ++ z32 ++ [0] ++ [0] ++ z32, 0) := by
  unfold encM; rw [if_neg (by rw [awM_wrong]; simp), awM_body]
theorem awM_dec : decM ([67, 83, 75, 49] ++ beB 1 8 ++ z32 ++ [0] ++ [0] ++ z32) = (awM, 0) := by
  have e1 : decM ([67, 83, 75, 49] ++ beB 1 8 ++ z32 ++ [0] ++ [0] ++ z32) = decM1 (beB 1 8 ++ z32 ++ [0] ++ [0] ++ z32) := rfl
  have e2 : decM1 (beB 1 8 ++ z32 ++ [0] ++ [0] ++ z32) = decM2 1 (z32 ++ [0] ++ [0] ++ z32) := rfl
  have e3 : decM2 1 (z32 ++ [0] ++ [0] ++ z32) = decM3 1 z32 ([0] ++ [0] ++ z32) := rfl
  have e4 : decM3 1 z32 ([0] ++ [0] ++ z32) = decM4 1 z32 [] ([0] ++ z32) := rfl
  have e5 : decM4 1 z32 [] ([0] ++ z32) = decM5 1 z32 [] [] z32 := rfl
  rw [e1, e2, e3, e4, e5]
  unfold decM5
  rw [dirS_nil]
  rfl
theorem awM_sign : (signM z32 awM).2 = 0 ∧ (signM z32 awM).1.length = 110 := by
  have h : (dk z32 4 []).2 = 0 := rfl
  unfold signM
  rw [h, awM_enc]
  simp only [ne_eq, not_true_eq_false, if_false]
  refine ⟨trivial, ?_⟩
  rw [List.length_append, hmac_len]
  rfl
/-- What the laws look at. -/
def fewM (m : Man) : Bool := decide (m.es.length ≤ 100 ∧ m.prev.length ≤ 300 ∧ m.root.length ≤ 300 ∧ ∀ e ∈ m.es, e.1.length ≤ 200)
end Go.Ck

set_option linter.unusedVariables false
namespace Go.Ck
theorem beN_initM : ∀ (l : List Nat) (a : Nat), l.foldl (fun a x => a * 256 + x) a = a * 256 ^ l.length + beN l
  | [], a => by simp [beN]
  | x :: r, a => by
    have h1 := beN_initM r (a * 256 + x)
    have h2 := beN_initM r (0 * 256 + x)
    have e : beN (x :: r) = r.foldl (fun a x => a * 256 + x) (0 * 256 + x) := rfl
    rw [List.foldl_cons, h1, e, h2, List.length_cons, Nat.pow_succ, Nat.add_mul, Nat.zero_mul, Nat.zero_add, Nat.mul_assoc, Nat.mul_comm (256 ^ r.length) 256, Nat.add_assoc]
theorem beN_consM (x : Nat) (r : List Nat) : beN (x :: r) = x * 256 ^ r.length + beN r := by
  have := beN_initM r (0 * 256 + x)
  have e : beN (x :: r) = r.foldl (fun a x => a * 256 + x) (0 * 256 + x) := rfl
  rw [e, this, Nat.zero_mul, Nat.zero_add]
theorem beB_addM : ∀ (j n k v : Nat), j ≤ n → beB (k * 256 ^ n + v) j = beB v j
  | 0, n, k, v, h => rfl
  | j + 1, n, k, v, h => by
    rw [beB_succ, beB_succ, beB_addM j n k v (by omega)]
    congr 1
    obtain ⟨d, rfl⟩ : ∃ d, n = j + 1 + d := ⟨n - (j + 1), by omega⟩
    have e : k * 256 ^ (j + 1 + d) = 256 ^ j * (256 * (k * 256 ^ d)) := by
      rw [Nat.pow_add, Nat.pow_succ]
      ac_rfl
    rw [e, Nat.mul_add_div (Nat.pow_pos (by decide)), Nat.mul_add_mod]
theorem beB_beNM : ∀ (l : List Nat), (∀ x ∈ l, x < 256) → beB (beN l) l.length = l
  | [], _ => rfl
  | x :: r, h => by
    have hx := h x (by simp)
    have hr : ∀ y ∈ r, y < 256 := fun y hy => h y (by simp [hy])
    have hlt := beN_lt r hr
    rw [List.length_cons, beB_succ, beN_consM, beB_addM _ _ _ _ (Nat.le_refl _), beB_beNM r hr]
    congr 1
    rw [Nat.mul_comm, Nat.mul_add_div (Nat.pow_pos (by decide)), Nat.div_eq_of_lt hlt, Nat.add_zero, Nat.mod_eq_of_lt hx]
theorem okT_pair {acc : List (List UInt8)} {t : List UInt8} (h : acc.Pairwise (· < ·)) (ho : okT acc t = true) : (acc ++ [t]).Pairwise (· < ·) := by
  rw [List.pairwise_append]
  refine ⟨h, by simp, fun a ha b hb => ?_⟩
  have hbt : b = t := by simpa using hb
  subst hbt
  have hne : acc ≠ [] := by rintro rfl; cases ha
  have hl : acc.getLast? = some (acc.getLast hne) := List.getLast?_eq_some_getLast hne
  rw [okT_last b hl] at ho
  have ho := of_decide_eq_true ho
  have e := List.dropLast_concat_getLast hne
  rw [← e] at ha h
  rcases List.mem_append.1 ha with ha | ha
  · exact List.lt_trans ((List.pairwise_append.1 h).2.2 a ha _ (by simp)) ho
  · have : a = acc.getLast hne := by simpa using ha
    rw [this]; exact ho
theorem cntD_inv {q : List Nat} (hb : ∀ x ∈ q, x < 256) (h : (cntD q).2.1 = 0) : q = leb (cntD q).1 ++ (cntD q).2.2 := by
  unfold cntD at h ⊢
  split at h
  · rename_i h1; exact absurd h h1
  · rename_i h1
    rw [if_neg h1]
    split at h
    · cases h
    · rename_i h2
      rw [if_neg h2]
      exact (readV_canon2 hb (by simpa using h1)).1
theorem tnD_inv : ∀ (n : Nat) (acc : List (List UInt8)) (q : List Nat), (∀ x ∈ q, x < 256) → acc.Pairwise (· < ·) → (∀ s ∈ acc, s.length ≤ 64) → (tnD n acc q).2.1 = 0 →
    ∃ ss, (tnD n acc q).1 = acc ++ ss ∧ ss.length = n ∧ q = ss.flatMap blkS ++ (tnD n acc q).2.2 ∧ (acc ++ ss).Pairwise (· < ·) ∧ ∀ s ∈ acc ++ ss, s.length ≤ 64
  | 0, acc, q, hb, hp, hl, h => ⟨[], by simp [tnD], rfl, rfl, by simpa using hp, by simpa using hl⟩
  | n + 1, acc, q, hb, hp, hl, h => by
    obtain ⟨b1, b2, b3, b4⟩ := blk_byte (m := 64) hb
    rw [tnD] at h ⊢
    by_cases h1 : (blk q 64).2.1 = 0
    · rw [if_neg (by simpa using h1)] at h ⊢
      by_cases h2 : okT acc (ub (blk q 64).1) = true
      · rw [if_pos h2] at h ⊢
        obtain ⟨c1, c2⟩ := blk_canon hb h1
        have hul : (ub (blk q 64).1).length ≤ 64 := by rw [ub_len]; exact c2
        obtain ⟨ss, e1, e2, e3, e4, e5⟩ := tnD_inv n (acc ++ [ub (blk q 64).1]) (blk q 64).2.2 b2 (okT_pair hp h2) (fun s hs => by
          rcases List.mem_append.1 hs with hs | hs
          · exact hl s hs
          · have : s = ub (blk q 64).1 := by simpa using hs
            rw [this]; exact hul) h
        refine ⟨ub (blk q 64).1 :: ss, by rw [e1]; simp, by simp [e2], ?_, by simpa using e4, by simpa using e5⟩
        rw [List.flatMap_cons, List.append_assoc, ← e3, blkS, ub_len, nb_ub b1]
        exact c1
      · rw [if_neg h2] at h; cases h
    · rw [if_pos h1] at h; exact absurd h h1
theorem tensD_inv {q : List Nat} (hb : ∀ x ∈ q, x < 256) (h : (tensD q).2.1 = 0) : q = leb (tensD q).1.length ++ (tensD q).1.flatMap blkS ++ (tensD q).2.2 ∧ (tensD q).1.Pairwise (· < ·) ∧ ∀ s ∈ (tensD q).1, s.length ≤ 64 := by
  unfold tensD at h ⊢
  by_cases h1 : (cntD q).2.1 = 0
  · rw [if_neg (by simpa using h1)] at h ⊢
    have hc := cntD_inv hb h1
    obtain ⟨ss, e1, e2, e3, e4, e5⟩ := tnD_inv (cntD q).1 [] (cntD q).2.2 (cntD_byte hb) (by simp) (by simp) h
    rw [List.nil_append] at e1 e4 e5
    rw [e1, e2, List.append_assoc, ← e3]
    exact ⟨hc, e4, e5⟩
  · rw [if_pos h1] at h; exact absurd h h1
theorem enD_inv {ts : List (List UInt8)} (hn : ts.Nodup) : ∀ (n : Nat) (acc : List Ent) (q : List Nat), (∀ x ∈ q, x < 256) → (enD ts n acc q).2.1 = 0 →
    ∃ es, (enD ts n acc q).1 = acc ++ es ∧ es.length = n ∧ q = es.flatMap (entB ts) ++ (enD ts n acc q).2.2 ∧ ∀ e ∈ es, e.1 ∈ ts ∧ 0 ≤ e.2 ∧ e.2 ≤ 8
  | 0, acc, q, hb, h => ⟨[], by simp [enD], rfl, rfl, by simp⟩
  | n + 1, acc, q, hb, h => by
    have hb2 : ∀ x ∈ q.drop (readV q).2.1, x < 256 := fun x hx => hb x (List.mem_of_mem_drop hx)
    rw [enD] at h ⊢
    by_cases h1 : (readV q).2.2 = 0
    · rw [if_neg (by simpa using h1)] at h ⊢
      have hc := (readV_canon2 hb h1).1
      generalize q.drop (readV q).2.1 = q2 at *
      generalize (readV q).1 = v at *
      by_cases h2 : ts.length ≤ v
      · rw [if_pos h2] at h; cases h
      · rw [if_neg h2] at h ⊢
        by_cases h3 : q2.length < 1
        · rw [if_pos h3] at h; cases h
        · rw [if_neg h3] at h ⊢
          by_cases h4 : 8 < q2.headD 0
          · rw [if_pos h4] at h; cases h
          · rw [if_neg h4] at h ⊢
            obtain ⟨x, q3, rfl⟩ : ∃ x r, q2 = x :: r := by
              cases q2 with
              | nil => simp at h3
              | cons x r => exact ⟨x, r, rfl⟩
            have t2 : (x :: q3).drop 1 = q3 := rfl
            have t3 : (x :: q3).headD 0 = x := rfl
            rw [t2, t3] at h ⊢
            rw [t3] at h4
            obtain ⟨es, e1, e2, e3, e4⟩ := enD_inv hn n _ q3 (fun y hy => hb2 y (by simp [hy])) h
            have hvl : v < ts.length := by omega
            have hg : ts.getD v [] = ts[v] := by rw [List.getD_eq_getElem?_getD, List.getElem?_eq_getElem hvl]; rfl
            refine ⟨entD (ts.getD v []) x :: es, by rw [e1]; simp, by simp [e2], ?_, ?_⟩
            · rw [List.flatMap_cons, List.append_assoc, ← e3]
              have : entB ts (entD (ts.getD v []) x) = leb v ++ [x] := by
                unfold entB entD
                simp only [Int.toNat_natCast]
                rw [hg, List.Nodup.idxOf_getElem hn v hvl]
              rw [this, List.append_assoc]
              exact hc
            · intro e he
              rcases List.mem_cons.1 he with rfl | he
              · refine ⟨?_, by simp only [entD]; omega, by simp only [entD]; omega⟩
                simp only [entD]
                rw [hg]; exact List.getElem_mem hvl
              · exact e4 e he
    · rw [if_pos h1] at h; exact absurd h h1
theorem entsD_inv {ts : List (List UInt8)} (hn : ts.Nodup) {q : List Nat} (hb : ∀ x ∈ q, x < 256) (h : (entsD ts q).2.1 = 0) : q = leb (entsD ts q).1.length ++ (entsD ts q).1.flatMap (entB ts) ++ (entsD ts q).2.2 ∧ ∀ e ∈ (entsD ts q).1, e.1 ∈ ts ∧ 0 ≤ e.2 ∧ e.2 ≤ 8 := by
  unfold entsD at h ⊢
  by_cases h1 : (cntD q).2.1 = 0
  · rw [if_neg (by simpa using h1)] at h ⊢
    have hc := cntD_inv hb h1
    obtain ⟨es, e1, e2, e3, e4⟩ := enD_inv hn (cntD q).1 [] (cntD q).2.2 (cntD_byte hb) h
    rw [List.nil_append] at e1
    rw [e1, e2, List.append_assoc, ← e3]
    exact ⟨hc, e4⟩
  · rw [if_pos h1] at h; exact absurd h h1
theorem pw_nodup {l : List (List UInt8)} (h : l.Pairwise (· < ·)) : l.Nodup := h.imp (fun {a b} h e => by subst e; exact List.lt_irrefl a h)
/-- All the names of a directory are told. -/
theorem dirS_all {es : List Ent} {ts : List (List UInt8)} (hs : ts.Pairwise (· < ·)) (he : ∀ e ∈ es, e.1 ∈ ts) (hl : (dirS es).length = ts.length) : dirS es = ts := by
  have hsub : ∀ s ∈ dirS es, s ∈ ts := by
    intro s hm
    obtain ⟨e, h1, rfl⟩ := (dirS_mem es s).1 hm
    exact he e h1
  refine sorted_ext (dirS_sorted es) hs (fun x => ⟨hsub x, fun hx => ?_⟩)
  refine Classical.byContradiction (fun hn => ?_)
  have h1 : (x :: dirS es).Nodup := List.nodup_cons.2 ⟨hn, dirS_nodup es⟩
  have h2 := h1.length_le_of_subset (l₂ := ts) (fun s hs' => by
    rcases List.mem_cons.1 hs' with rfl | h3
    · exact hx
    · exact hsub s h3)
  simp only [List.length_cons] at h2
  omega
theorem decM_inv {b : List Nat} (hb : ∀ x ∈ b, x < 256) (h : (decM b).2 = 0) : encM (decM b).1 = (b, 0) ∧ (decM b).1.v < 2 ^ 64 := by
  unfold decM at h ⊢
  split at h
  · cases h
  rename_i h1
  rw [if_neg h1]
  split at h
  · cases h
  rename_i h2
  rw [if_neg h2]
  have h2' : b.take 4 = [67, 83, 75, 49] := by simpa using h2
  have eb : b = [67, 83, 75, 49] ++ b.drop 4 := by rw [← h2', List.take_append_drop]
  have hb1 : ∀ x ∈ b.drop 4, x < 256 := fun x hx => hb x (List.mem_of_mem_drop hx)
  generalize b.drop 4 = q1 at *
  subst eb
  clear h1 h2 h2' hb
  unfold decM1 at h ⊢
  split at h
  · cases h
  rename_i h1
  rw [if_neg h1]
  split at h
  · cases h
  rename_i h2
  rw [if_neg h2]
  have hb8 : ∀ x ∈ q1.take 8, x < 256 := fun x hx => hb1 x (List.mem_of_mem_take hx)
  have hl8 : (q1.take 8).length = 8 := by rw [List.length_take]; omega
  have hv := beB_beNM (q1.take 8) hb8
  have hvl := beN_lt (q1.take 8) hb8
  rw [hl8] at hv hvl
  have eq1 : q1 = q1.take 8 ++ q1.drop 8 := (List.take_append_drop 8 q1).symm
  rw [← hv] at eq1
  have hb2 : ∀ x ∈ q1.drop 8, x < 256 := fun x hx => hb1 x (List.mem_of_mem_drop hx)
  generalize beN (q1.take 8) = v at *
  generalize q1.drop 8 = q2 at *
  rw [eq1]
  clear eq1 h1 hb8 hl8 hv hb1
  unfold decM2 at h ⊢
  split at h
  · cases h
  rename_i h1
  rw [if_neg h1]
  have hp : (q2.take 32).length = 32 := by rw [List.length_take]; omega
  have eq2 : q2 = q2.take 32 ++ q2.drop 32 := (List.take_append_drop 32 q2).symm
  have hb3 : ∀ x ∈ q2.drop 32, x < 256 := fun x hx => hb2 x (List.mem_of_mem_drop hx)
  generalize q2.take 32 = prev at *
  generalize q2.drop 32 = q3 at *
  subst eq2
  clear h1 hb2
  unfold decM3 at h ⊢
  split at h
  · rename_i h3; exact absurd h h3
  rename_i h3
  rw [if_neg h3]
  obtain ⟨i1, i2, i3⟩ := tensD_inv hb3 (by simpa using h3)
  have hb4 := tensD_byte hb3
  generalize (tensD q3).1 = ts at *
  generalize (tensD q3).2.2 = q4 at *
  rw [i1]
  clear i1 h3 hb3
  have hnd := pw_nodup i2
  unfold decM4 at h ⊢
  split at h
  · rename_i h3; exact absurd h h3
  rename_i h3
  rw [if_neg h3]
  obtain ⟨j1, j2⟩ := entsD_inv hnd hb4 (by simpa using h3)
  have hel := entsD_n ts q4
  generalize (entsD ts q4).1 = es at *
  generalize (entsD ts q4).2.2 = q5 at *
  rw [j1]
  clear j1 h3 hb4
  unfold decM5 at h ⊢
  split at h
  · cases h
  rename_i h4
  rw [if_neg h4]
  split at h
  · cases h
  rename_i h5
  rw [if_neg h5]
  split at h
  · cases h
  rename_i h6
  rw [if_neg h6]
  have hd : dirS es = ts := dirS_all i2 (fun e he => (j2 e he).1) (by simpa using h6)
  have hq5 : q5 = q5.take 32 := by
    have := List.take_append_drop 32 q5
    rw [show q5.drop 32 = [] by simpa using h5, List.append_nil] at this
    exact this.symm
  have hr : (q5.take 32).length = 32 := by rw [List.length_take]; omega
  have hw : wrongM ⟨v, prev, es, q5.take 32⟩ = 0 := by
    unfold wrongM
    simp only
    rw [if_neg (by rintro (h | h | h); exact h2 h; exact h hp; exact h hr), if_neg, if_neg]
    · rintro (h | h)
      · omega
      · obtain ⟨e, he, h7⟩ := List.any_eq_true.1 h
        have := i3 e.1 (j2 e he).1
        unfold longB at h7
        have := of_decide_eq_true h7
        omega
    · intro h
      obtain ⟨e, he, h7⟩ := List.any_eq_true.1 h
      have := j2 e he
      unfold badB at h7
      have h8 : padSz e.2 = 0 := by simpa using h7
      rw [padSz_zero] at h8
      exact h8 ⟨this.2.1, this.2.2⟩
  refine ⟨?_, hvl⟩
  unfold encM
  rw [if_neg (by rw [hw]; simp)]
  have : bodyM ⟨v, prev, es, q5.take 32⟩ = [67, 83, 75, 49] ++ (beB v 8 ++ (prev ++ (leb ts.length ++ ts.flatMap blkS ++ (leb es.length ++ es.flatMap (entB ts) ++ q5)))) := by
    unfold bodyM headM
    simp only [hd, ← hq5]
    simp only [List.append_assoc]
  rw [this]
theorem decM_bad {b : List Nat} (h : (decM b).2 ≠ 0) : (decM b).1 = ⟨0, [], [], []⟩ := by
  unfold decM at h ⊢
  split
  · rfl
  split
  · rfl
  rename_i h1 h2
  rw [if_neg h1, if_neg h2] at h
  unfold decM1 at h ⊢
  split
  · rfl
  split
  · rfl
  rename_i h1 h2
  rw [if_neg h1, if_neg h2] at h
  unfold decM2 at h ⊢
  split
  · rfl
  rename_i h1
  rw [if_neg h1] at h
  unfold decM3 at h ⊢
  split
  · rfl
  rename_i h1
  rw [if_neg h1] at h
  unfold decM4 at h ⊢
  split
  · rfl
  rename_i h1
  rw [if_neg h1] at h
  unfold decM5 at h ⊢
  split
  · rfl
  split
  · rfl
  split
  · rfl
  rename_i h1 h2 h3
  rw [if_neg h1, if_neg h2, if_neg h3] at h
  exact absurd rfl h
end Go.Ck

set_option linter.unusedVariables false
namespace Go.Ck
end Go.Ck
