/- What is proved here: parts of the proofs of this seat's statements (a verified evaluator for calls over pure values, its laws, and contracts of functions). No condition. -/
import Derived.Test.YthjibccogjggbaaKv
import Derived.Test.YthjibccogjggbaaKd
import Derived.Test.YthjibccogjggbaaKj
import Derived.Lib.SlBytesConst
import Derived.Test.YthjibccogjggbaaKu
import Derived.Sort.Walk0
import Derived.Test.YthjibccogjggbaaKt
import Derived.Test.YthjibccogjggbaaKo
set_option linter.all false
set_option linter.unusedVariables false
namespace Go.Ck
open Go.RowKit
section
variable {P : Program} {R : Option Nat} {Φ : Exit → Cx → St → Prop} {k : List It} {C : Cx} {s : St}
/-- The two operations that lay a constant's bytes. -/
theorem AW.constB {all : Array Oper} {o1 o2 : Oper} {r : List Oper} {d1 d2 t e n eb : Nat} {ea : Bool} {ps : Array (Nat × Operand)} {z : PV} {xs : List PV} (hT : tk P t = .sl e 1 eb ea) (he : tk P e = .int .u8) (hz : zeroElem P e = some z)
    (hf : fillElems P 1 ps.toList (List.replicate n z) s = some (xs, s)) (h0 : 0 < n) (hn : n ≤ 1000) (h1 : xs.all PV.one = true) (hn1 : d1 < s.n)
    (hk : AW P R Φ .normal (.ops all r :: k) C (put d2 (.lit xs) (put d1 .dead s)))
    (hg1 : o1.guard = none := by rfl) (hd1' : o1.dst = some d1 := by rfl) (ho1 : o1.op = .buildSlice t n ps := by rfl) (hg2 : o2.guard = none := by rfl) (hd2 : o2.dst = some d2 := by rfl) (ho2 : o2.op = .convert t t (.tmp d1) := by rfl) : AW P R Φ .normal (.ops all (o1 :: o2 :: r) :: k) C s := fun B a w ha => by
  simp only [den]
  refine wpListIn_want (by simp [Region.wanted, hg1]) (fun c hc => by rw [ho1] at hc; cases hc) ?_
  obtain ⟨hdf, E, h⟩ := ha
  obtain ⟨hu, hce, _⟩ := tk_sl hT
  obtain ⟨ie, zv, hie, hzv, hzs, hro, hzl⟩ := zeroElem_sound (P := P) (w := w) (A := fun b => E.om b ∨ B.F b) hz
  have hsz : ie.size = 1 := by rw [← hce]; simp [Program.cellsOf, hie]
  have hr0 := made_ros hro n
  rw [hzl] at hr0
  obtain ⟨E1, cells', f1, f2, f3, f4, f5⟩ := fillElems_sound ps.toList h hf hr0 (fun x hx => by rw [List.eq_of_mem_replicate hx, hzl, hsz])
  have hl : xs.length = n := by simpa using f5
  have hone : flat xs = xs := flat_one h1
  rw [hone] at f3
  have hrun1 : (execOp a.eval o1).run P w = .ok (.value (.slice (some ⟨w.heap.size, 0, none⟩) n n)) (w.alloc (.cells cells' e)) := by
    have := run_buildSlice (P := P) w t e n (ps.map fun (i, x) => (i, a.eval x)) cells' ie zv hu hie hzv (by rw [hsz]; omega) (by rw [hsz]; omega) (by
      rw [Array.toList_map, hsz]
      rw [hsz] at f1
      exact f1)
    simp [execOp, ho1, this]
  rw [hrun1, Oper.uponIn_value, hd1']
  refine wpListIn_want (by simp [Region.wanted, hg2]) (fun c hc => by rw [ho2] at hc; cases hc) ?_
  have hsize : d1 < a.tmps.size := by rw [← h.size]; exact hn1
  have hev : (a.put (some d1) (.slice (some ⟨w.heap.size, 0, none⟩) n n)).eval (.tmp d1) = .slice (some ⟨w.heap.size, 0, none⟩) n n := by
    show (a.tmps.setIfInBounds d1 _).getD d1 undef = _
    simp [Array.getD_eq_getD_getElem?, hsize]
  have hrun2 : (execOp (a.put (some d1) (.slice (some ⟨w.heap.size, 0, none⟩) n n)).eval o2).run P (w.alloc (.cells cells' e)) = .ok (.value (.slice (some ⟨w.heap.size, 0, none⟩) n n)) (w.alloc (.cells cells' e (cells'.size, cells'.size + 1))) := by
    have := Lib.run_convert_bytes_const (P := P) w t e cells' n n hu (tk_int he)
    simp [execOp, ho2, hev, this]
  rw [hrun2, Oper.uponIn_value, hd2]
  have hw2 : (w.alloc (.cells cells' e (cells'.size, cells'.size + 1))).heap = w.heap.push (.cells cells' e (cells'.size, cells'.size + 1)) := rfl
  have hgr : Grow (fun _ => False) w (w.alloc (.cells cells' e (cells'.size, cells'.size + 1))) := ⟨rfl, rfl, rfl, by rw [hw2]; simp, fun b hb _ => by rw [hw2, Array.getElem?_push, if_neg (by omega)]⟩
  have hE1 := f2.world hgr (fun b hb => hb.elim) (fun _ => False) (fun b hb => hb.elim)
  obtain ⟨hc, hfree⟩ := hE1.clear d1
  have hE2 := hc.setDead (.slice (some ⟨w.heap.size, 0, none⟩) n n) (by rw [clear_n]; exact hn1) hfree
  have hput : put d1 .dead s = setSlot d1 .dead (clear d1 s) := by
    unfold put
    rw [if_pos hn1]
    have : (if SV.dead.on (.slot d1) = true then SV.dead else SV.dead) = SV.dead := by split <;> rfl
    rw [this]
  rw [hput] at hk
  have hnA : ¬ ((E1.addOm fun _ => False).om w.heap.size ∨ B.F w.heap.size) := by
    rintro ((h2 | h2) | h2)
    · have := (f2.om_lt _ h2).1; omega
    · exact h2
    · have h3 := f2.flt _ h2
      have h4 := f2.gr.size
      omega
  have hros : ROs (fun b => (E1.addOm fun _ => False).om b ∨ B.F b) (w.alloc (.cells cells' e (cells'.size, cells'.size + 1))) xs cells'.toList := f3.mono (fun b hb hn => ⟨by
    rintro ((h2 | h2) | h2)
    · exact hn (.inl h2)
    · exact h2
    · exact hn (.inr h2), hgr.block b hb (fun h => h)⟩)
  have hrs : RS P (fun b => (E1.addOm fun _ => False).om b ∨ B.F b) (E1.addOm fun _ => False) (w.alloc (.cells cells' e (cells'.size, cells'.size + 1))) (.lit xs) (.slice (some ⟨w.heap.size, 0, none⟩) n n) := by
    have := RS.lit (P := P) (A := fun b => (E1.addOm fun _ => False).om b ∨ B.F b) (E := E1.addOm fun _ => False) (w := w.alloc (.cells cells' e (cells'.size, cells'.size + 1))) xs w.heap.size cells' e (cells'.size, cells'.size + 1) hnA (by rw [hw2]; simp) hros
    rw [hl] at this; exact this
  have hE3 := hE2.putGood d2 (v := .lit xs) ⟨rfl, by simp [SV.on], fun o ho => by simp [SV.pts] at ho⟩ hrs
  exact hk B _ _ ⟨by rw [put_defers, put_defers]; exact hdf, _, hE3⟩

/-- append onto it: a new row. -/
theorem AW.appendLit {all : Array Oper} {o : Oper} {r : List Oper} {d t tx e eb : Nat} {ea : Bool} {c : Call} {x y : Operand} {xs ys : List PV} {v : SV} (hx : ev s x = some (.lit xs)) (hy : ev s y = some v) (hys : elemsOf P s 1 v = some ys) (hx1 : xs.all PV.one = true) (hT : tk P t = .sl e 1 eb ea) (hsrc : (tk P tx).isSrc = true) (hz : zok P e = true) (hpos : 0 < ys.length)
    (hr1 : (xs.length + ys.length) * eb ≤ room) (hr2 : xs.length + ys.length ≤ room)
    (hk : AW P R Φ .normal (.ops all r :: k) C (put d (.own e (xs ++ ys)) s)) (hg : o.guard = none := by rfl) (hd : o.dst = some d := by rfl) (ho : o.op = .call c := by rfl) (hc : c.callee = .builtin .append := by rfl) (hca : c.args = #[x, y] := by rfl) (hct : c.argTypes = #[t, tx] := by rfl) : AW P R Φ .normal (.ops all (o :: r) :: k) C s := fun B a w ha => by
  simp only [den]
  refine wpListIn_want (by simp [Region.wanted, hg]) (fun c hc => by rw [ho] at hc; cases hc) ?_
  obtain ⟨hdf, E, h⟩ := ha
  obtain ⟨hu, hce, hbe⟩ := tk_sl hT
  obtain ⟨i, z, hi, hiz, hzs⟩ := zok_parts hz
  have hsz : i.size = 1 := by rw [← hce]; simp [Program.cellsOf, hi]
  have hby : i.bytes = eb := by rw [← hbe]; simp [Program.bytesOf, hi]
  have e1 := ev_rs h hx
  generalize hxe : a.eval x = v1 at e1
  cases e1 with | lit _ g cur e' fr hA hgc hro => ?_
  obtain ⟨news, h1, h2, h3⟩ := elems_src h hsrc (by decide) hys (ev_rs h hy)
  have hcs : cur.size = xs.length := by have := hro.1; simpa using this
  have hold : (Builtin.firstCells i.size xs.length (.slice (some ⟨g, 0, none⟩) xs.length xs.length)).run P w.drew = .ok cur.toList.toArray w.drew := by
    refine run_firstCells_some w.drew i.size xs.length ⟨g, 0, none⟩ xs.length xs.length cur.toList (by simp [hsz, hcs]) (fun j u hu' => ?_)
    have hg' : w.drew.heap[g]? = some (.cells cur e' fr) := hgc
    have : cur[j]? = some u := by simpa using hu'
    by_cases hj : j = 0 <;> simp [World.cell?, Addr.add, hg', hj, Addr.spot] <;> simpa [hj] using this
  have hns : (xs.length + ys.length) * i.bytes ≤ 140737488355328 := by rw [hby]; unfold room at hr1; exact hr1
  have hrun := run_append_grow_src (P := P) w t tx o.type e i z hu hi hiz (some ⟨g, 0, none⟩) xs.length xs.length cur.toList hold (a.eval y) ys.length news (by rw [hsz]; exact h1) (by omega) (by unfold room at hr2; omega) (growslice_fits (by omega) hns)
  have hrunO : (execOp a.eval o).run P w = .ok (.value (.slice (some ⟨w.heap.size, 0, none⟩) (xs.length + ys.length) (grownCap w (xs.length + ys.length) xs.length e))) (w.drew.alloc (.cells ((cur.toList ++ news).toArray ++ Builtin.zeroCells z.cells (grownCap w (xs.length + ys.length) xs.length e - (xs.length + ys.length))) e)) := by
    have hal : c.args.map a.eval = #[a.eval x, a.eval y] := by rw [hca]; simp
    simp [execOp, ho, resolve, hc, invoke, builtin, hal, hxe, hct, hrun]
  rw [hrunO, Oper.uponIn_value, hd]
  have hflat := flat_one hx1
  have h63 : xs.length + ys.length ≤ maxLen := by unfold room at hr2; simp only [maxLen]; omega
  have hnl : news.length = ys.length := by have := h1.newsLen; simpa using this
  have hge := grownCap_ge w (xs.length + ys.length) xs.length e
  have hcm := grownCap_le_maxLen w (xs.length + ys.length) xs.length e h63
  have hgr : Grow (fun _ => False) w (w.drew.alloc (.cells ((cur.toList ++ news).toArray ++ Builtin.zeroCells z.cells (grownCap w (xs.length + ys.length) xs.length e - (xs.length + ys.length))) e)) := ⟨rfl, rfl, rfl, by simp, fun b hb _ => heap_alloc_old w.drew _ hb⟩
  have hA : ∀ b, b < w.heap.size → ¬ (E.om b ∨ B.F b) → ¬ ((E.om b ∨ w.heap.size ≤ b ∧ b < (w.drew.alloc (.cells ((cur.toList ++ news).toArray ++ Builtin.zeroCells z.cells (grownCap w (xs.length + ys.length) xs.length e - (xs.length + ys.length))) e)).heap.size) ∨ B.F b) ∧ (w.drew.alloc (.cells ((cur.toList ++ news).toArray ++ Builtin.zeroCells z.cells (grownCap w (xs.length + ys.length) xs.length e - (xs.length + ys.length))) e)).heap[b]? = w.heap[b]? := by
    intro b hb' hn'
    refine ⟨?_, hgr.block b hb' (fun h => h)⟩
    rintro ((h3 | h3) | h3)
    · exact hn' (.inl h3)
    · omega
    · exact hn' (.inr h3)
  obtain ⟨E', hE⟩ := h.newOwn hgr (fun b hb' => hb'.elim) (e := e) (xs := xs ++ ys) (x := .slice (some ⟨w.heap.size, 0, none⟩) (xs.length + ys.length) (grownCap w (xs.length + ys.length) xs.length e)) d (by
    refine ⟨cur.toList ++ news, ?_, ?_, ?_, by rw [List.length_append]; exact h63⟩
    · rw [List.length_append, hce]
      refine ⟨by simp [hcs, hnl], .inr ⟨w.heap.size, _, _, rfl, Nat.zero_le _, heap_alloc_new w.drew _, hge, hcm, ?_, ?_⟩⟩
      · rw [Array.size_append, List.size_toArray, size_zeroCells, hzs, hsz]
        simp [hcs, hnl]
        omega
      · simp only [Array.toList_append]
        have : (xs.length + ys.length) * 1 = (cur.toList ++ news).length := by simp [hcs, hnl]
        rw [this]
        exact List.take_left
    · rw [flat_append, hflat]; exact (hro.mono hA).append (h2.mono hA)
    · intro c hc
      rw [hce]
      rcases List.mem_append.1 hc with hc | hc
      · have := List.all_eq_true.1 hx1 c hc
        cases c <;> first | rfl | (simp [PV.one] at this)
      · exact h3 c hc) (fun b hb' => by
    cases hb'
    right
    exact ⟨Nat.le_refl _, by simp⟩)
  refine hk B _ _ ⟨by rw [put_defers]; exact hdf, E', ?_⟩
  exact hE
end
/-- A struct's parts, all pure. -/
def partPK : Option (Nat × Nat × Bool) → List SV → Option SV → Option (List SV)
  | some (fo, fz, _), cs, some (.pv p) => if p.cells.length = fz ∧ fo + fz ≤ cs.length then some (setCells cs (p.cells.map .pv) fo) else none
  | _, _, _ => none
def partsP (fs : List (Nat × Nat × Bool)) (s : St) : List (Nat × Operand) → Option (List SV) → Option (List SV)
  | [], cs => cs
  | (i, x) :: r, some cs => partsP fs s r (partPK fs[i]? cs (ev s x))
  | _ :: _, none => none
theorem partsP_none (fs : List (Nat × Nat × Bool)) (s : St) (l : List (Nat × Operand)) : partsP fs s l none = none := by cases l <;> rfl
theorem partsP_nil (fs : List (Nat × Nat × Bool)) (s : St) (cs : List SV) : partsP fs s [] (some cs) = some cs := rfl
theorem partsP_cons (fs : List (Nat × Nat × Bool)) (s : St) (i : Nat) (x : Operand) (r : List (Nat × Operand)) (cs : List SV) : partsP fs s ((i, x) :: r) (some cs) = partsP fs s r (partPK fs[i]? cs (ev s x)) := rfl
theorem partPK_pv (fo fz : Nat) (b : Bool) (cs : List SV) (p : PV) : partPK (some (fo, fz, b)) cs (some (.pv p)) = if p.cells.length = fz ∧ fo + fz ≤ cs.length then some (setCells cs (p.cells.map .pv) fo) else none := rfl
attribute [go_sem] partsP_nil partsP_cons partPK_pv
theorem partsP_sound {P : Program} {fs : List (Nat × Nat × Bool)} {s t : St} (h : Le s t) : ∀ {l : List (Nat × Operand)} {z cs : List SV}, partsP fs s l (some z) = some cs → fillParts P fs l z t = some (cs, t)
  | [], z, cs, hf => by cases hf; rfl
  | (i, x) :: r, z, cs, hf => by
    simp only [partsP] at hf
    cases hx : ev s x with
    | none => rw [hx] at hf; cases hfi : fs[i]? <;> simp [hfi, partPK, partsP_none] at hf
    | some v =>
      rw [hx] at hf
      cases hfi : fs[i]? with
      | none => rw [hfi] at hf; simp [partPK, partsP_none] at hf
      | some f =>
        obtain ⟨fo, fz, b⟩ := f
        rw [hfi] at hf
        cases v with
        | pv p =>
          simp only [partPK] at hf
          split at hf
          · rename_i hc
            simp only [fillParts, hfi, h.ev hx, partCells, freeze]
            rw [if_pos (by simpa using hc)]
            exact partsP_sound h hf
          · rw [partsP_none] at hf; cases hf
        | _ => simp [partPK, partsP_none] at hf
section
variable {P : Program} {R : Option Nat} {Φ : Exit → Cx → St → Prop} {k : List It} {C : Cx} {s : St} {all : Array Oper}
theorem Does.build {o : Oper} {d ty : Nat} {fs : List (Nat × Nat × Bool)} {ps : Array (Nat × Operand)} {z cs : List SV} {p : PV} (hg : o.guard = none) (hd : o.dst = some d) (ho : o.op = .build ty ps) (hT : tk P ty = .st fs) (hz : zcs P ty = some z) (h1 : fs.all (fun f => f.2.1 != 0) = true) (hf : partsP fs s ps.toList (some z) = some cs) (hm : mkAgg cs = .pv p) : Does P o d s (.pv p) := fun R Φ k C all r t hle hl hn h => by
  refine AW.step (s' := put d (.pv p) t) hg ?_ ?_
  · unfold astep
    simp only [hd, ho, reads, Bool.false_eq_true, if_false, orElse, aeff, hT, hz]
    rw [if_pos h1, partsP_sound hle hf]
    simp only [hm]
  · rw [put_fresh hl hn rfl]; exact h
theorem CK.build {id i d ty : Nat} {fs : List (Nat × Nat × Bool)} {usl : List (List Nat)} {T : List (Nat × SV)} {o : Oper} {ps : Array (Nat × Operand)} {z cs : List SV} {p : PV} (us : List Nat) (h : CK P R Φ k C id all s (i + 1) (usl ++ [us]) (T ++ [(d, .pv p)]))
    (ho : all[i]? = some o := by rfl) (hg : o.guard = none := by rfl) (hd : o.dst = some d := by rfl) (hop : o.op = .build ty ps := by rfl) (hT : tk P ty = .st fs := by simp only [go_sem] <;> rfl) (hz : zcs P ty = some z := by simp only [go_sem] <;> rfl) (hf : partsP fs (subSt T us s) ps.toList (some z) = some cs := by simp only [go_sem, ↓reduceIte] <;> rfl) (hm : mkAgg cs = .pv p := by simp only [go_sem, ↓reduceIte] <;> rfl) (h1 : fs.all (fun f => f.2.1 != 0) = true := by rfl) : CK P R Φ k C id all s i usl T := fun hi hR =>
  h (by simp [hi]) (hR.add (by rw [hi]; exact ho) hg hd (.build hg hd hop hT hz h1 hf hm))
end
end Go.Ck

set_option linter.unusedVariables false
set_option maxRecDepth 100000
set_option maxHeartbeats 400000
namespace Go.Ck
open Go.Proofs
theorem manEnc_fn (m : Man) (hv : m.v < 2 ^ 64) (hl : m.es.length < 2 ^ 29) : Fn Try.prog 11 [] [.pv (manP m)] (fun rs H' => rs = [.own 5 (bytes (encM m).1), .pv (.int .i64 (encM m).2)] ∧ H' = []) := by
  refine Fn.of_body (fn := Try.f11) (n := 83) (res := [.tmp 2, .tmp 3]) (by kernel_rfl) rfl rfl rfl rfl rfl (fun C => ?_)
  have hroom : room = 140737488355328 := rfl
  have hm : manP m = .agg [.int .u64 (m.v : Int), .sl 1 (bytes m.prev), .sl 2 (entsP m.es), .sl 1 (bytes m.root)] := rfl
  have hwf := wrongMan_fn m (by omega)
  rw [hm] at hwf ⊢
  unfold encM
  refine AW.go ?_
  refine AW.callE (fun _ => 0) hwf (.pv _ .nil) ?_
  refine AW.go ?_
  refine AW.cond rfl (fun hc => ?_) (fun hc => ?_)
  · have hw : wrongM m ≠ 0 := by
      intro h; rw [h] at hc; exact absurd hc (by decide)
    rw [if_pos hw]
    refine AW.go ?_
    refine AW.finE (.move rfl (.pv _ .nil)) rfl
  have hw : wrongM m = 0 := by
    have h2 : ((wrongM m : Int) == 0) = true := by simpa [bne] using hc
    have := eq_of_beq h2
    omega
  rw [if_neg (by simp [hw])]
  obtain ⟨w1, w2, w3, w4, w5, w6⟩ := wrongM_zero hw
  have hnn := dirS_nodup m.es
  have hnl : (dirS m.es).length ≤ m.es.length := by rw [dirS_len]; exact nmS_len _
  have hnm := dirS_mem m.es
  have hn64 : ∀ s ∈ dirS m.es, s.length ≤ 64 := by
    intro s hs
    obtain ⟨e, he, rfl⟩ := (hnm s).1 hs
    exact w6 e he
  have hnmS : ∀ e ∈ m.es, e.1 ∈ nmS m.es := fun e he => (nmS_mem m.es e.1).2 ⟨e, he, rfl⟩
  have hdf := directory_fn m.es (by omega)
  unfold bodyM headM
  obtain ⟨v, prev, es, root⟩ := m
  simp only at *
  clear hwf hw hm hc
  refine AW.go ?_
  refine AW.callE (fun _ => 6) hdf (.pv _ .nil) ?_
  have hbl := beB_len v 8
  have hh4 : ([.int .u8 67, .int .u8 83, .int .u8 75, .int .u8 49] : List PV) ++ bytes (beB v 8) = bytes ([67, 83, 75, 49] ++ beB v 8) := rfl
  have m4 : (4 ≤ maxLen) = True := eq_true (le_maxLen 4)
  have r1 : (4 + (beB v 8).length ≤ room) = True := eq_true (by omega)
  generalize hns : dirS es = ns at *
  have h5 : (5 : Nat) < 83 := by decide
  refine AW.go ?_
  refine AW.extractM rfl ⟨_, rfl⟩ ?_
  refine AW.goM 9 ?_
  refine AW.constB (n := 4) (xs := [.int .u8 67, .int .u8 83, .int .u8 75, .int .u8 49]) tk_23 tk_5 ze_5 ?_ (by decide) (by decide) rfl ?_ ?_
  · rfl
  · simp only [go_sem, ↓reduceIte]; try decide
  refine AW.go ?_
  refine AW.callE (fun _ => 0) (fix_fn v 8 hv (by omega)) (.pv _ (.pv _ .nil)) ?_
  refine AW.goM 3 ?_
  refine AW.appendLit (ys := bytes (beB v 8)) (xs := [.int .u8 67, .int .u8 83, .int .u8 75, .int .u8 49]) rfl rfl rfl rfl tk_23 rfl (by decide) (by simp only [bytes_length]; omega) (by simp only [bytes_length, List.length_cons, List.length_nil]; omega) (by simp only [bytes_length, List.length_cons, List.length_nil]; omega) ?_
  rw [hh4]
  have g1 : (([67, 83, 75, 49] ++ beB v 8 : List Nat).length + 32 ≤ room) = True := eq_true (by rw [List.length_append, hbl]; simp; omega)
  have hdl : ([67, 83, 75, 49] ++ beB v 8 ++ prev).length = 44 := by simp [hbl, w2]
  generalize [67, 83, 75, 49] ++ beB v 8 = hd0 at *
  have wl : IntKind.u64.wrap (ns.length : Int) = (ns.length : Int) := wrap_u64_lt (by omega)
  have wm : IntKind.u64.wrap (es.length : Int) = (es.length : Int) := wrap_u64_lt (by omega)
  refine AW.go ?_ (by simp only [go_sem, ↓reduceIte, w2, g1, wl] <;> rfl)
  generalize hd0 ++ prev = hd at *
  refine AW.callE (fun _ => 0) (append_fn hd ns.length (by omega) (by omega)) (.lend rfl co_5 (.pv _ .nil)) ?_
  have l1 := leb_len10 (v := ns.length) (by omega)
  have l2 := leb_len10 (v := es.length) (by omega)
  have hal : (hd ++ leb ns.length).length ≤ 54 := by rw [List.length_append]; omega
  generalize hd ++ leb ns.length = ha at *
  refine AW.go ?_
  refine AW.loopS (fun i : Nat => ⟨83, [(40, .pv (.int .i64 i)), (38, .al (.slot 5)), (39, .pv (.int .i64 ns.length)), (5, .own 9 (strs ns)), (6, .mp 6), (7, .own 5 (bytes (ha ++ (ns.take i).flatMap blkS))), (1, .ptr 1 0)], [(6, .mp (mpS (posK ns ns.length) (nmS es))), (1, .cells 26 [.pv (.int .u64 v), .pv (.sl 1 (bytes prev)), .pv (.sl 2 (entsP es)), .pv (.sl 1 (bytes root))])]⟩) (fun i => i ≤ ns.length) (fun i => ns.length - i) [40, 38, 39, 5, 6, 7, 1] [6, 1] 0 (Nat.zero_le _) ?_ (hs := by simp only [go_sem, ↓reduceIte, List.take_zero, List.flatMap_nil, List.append_nil] <;> rfl)
  rintro i hi K hK
  refine AW.go ?_
  refine AW.cond rfl (fun hc => ?_) (fun hc => ?_)
  · have hlt : i < ns.length := by have := of_decide_eq_true hc; omega
    obtain ⟨t, ht⟩ : ∃ t, ns[i]? = some t := ⟨ns[i], List.getElem?_eq_getElem hlt⟩
    have hg := strs_get ht
    have htl : t.length ≤ 64 := hn64 t (List.mem_of_getElem? ht)
    have htm : t.length ≤ maxLen := Nat.le_trans htl (le_maxLen 64)
    have e1 : IntKind.i64.wrap ((i : Int) + 1) = ((i + 1 : Nat) : Int) := wrap_i64_succ (by omega)
    have l1 : (i < ns.length) = True := eq_true hlt
    have hfl := flatMap_le blkS 74 (ns.take i) (fun s hs => blkS_len s (hn64 s (List.mem_of_mem_take hs)))
    rw [List.length_take] at hfl
    have hfs := flatMap_take blkS ht
    have hbl := blkS_len t htl
    have hnb : (nb t).length = t.length := by simp [nb]
    refine AW.go ?_ (by simp only [go_sem, ↓reduceIte, hg, l1] <;> rfl)
    refine AW.ofStr htm tk_9 tk_23 tk_5 ?_
    rw [strBytes_nb]
    refine AW.go ?_
    refine AW.callE (fun _ => 0) (block_fn (nb t) (by omega)) (.pv _ .nil) ?_
    have eb : leb (nb t).length ++ nb t = blkS t := by rw [hnb]; rfl
    rw [eb]
    have hcl : ((ha ++ (ns.take i).flatMap blkS).length + (blkS t).length ≤ room) = True := eq_true (by rw [List.length_append]; omega)
    have hfe : ha ++ (ns.take i).flatMap blkS ++ blkS t = ha ++ (ns.take (i + 1)).flatMap blkS := by rw [hfs, List.append_assoc]
    generalize ha ++ (ns.take i).flatMap blkS = acc at *
    generalize blkS t = bt at *
    refine AW.go ?_ (by simp only [go_sem, ↓reduceIte, hcl, e1] <;> rfl)
    exact AW.again hK (i + 1) (by omega) (by omega) (hs := by simp only [go_sem, ↓reduceIte, hfe] <;> rfl)
  have hge : i = ns.length := by have := of_decide_eq_false hc; omega
  subst hge
  have hfl := flatMap_le blkS 74 ns (fun s hs => blkS_len s (hn64 s hs))
  have hbl : (ha ++ ns.flatMap blkS).length ≤ 54 + 74 * ns.length := by rw [List.length_append]; omega
  rw [List.take_length]
  generalize ha ++ ns.flatMap blkS = hb at *
  refine AW.go ?_ (by simp only [go_sem, ↓reduceIte, wm] <;> rfl)
  refine AW.callE (fun _ => 0) (append_fn [] es.length (by omega) (by simp; omega)) (.nilsP 1 (.pv _ .nil)) ?_
  try rw [List.nil_append]
  have hcl : (hb.length + (leb es.length).length ≤ room) = True := eq_true (by omega)
  have hdl : (hb ++ leb es.length).length ≤ 64 + 74 * ns.length := by rw [List.length_append]; omega
  refine AW.go ?_ (by simp only [go_sem, ↓reduceIte, hcl] <;> rfl)
  generalize hb ++ leb es.length = hh at *
  refine AW.loopS (fun i : Nat => ⟨83, [(60, .pv (.int .i64 i)), (58, .pv (.sl 2 (entsP es))), (59, .pv (.int .i64 es.length)), (6, .mp 6), (7, .own 5 (bytes (hh ++ (es.take i).flatMap (entB ns)))), (1, .ptr 1 0)], [(6, .mp (mpS (posK ns ns.length) (nmS es))), (1, .cells 26 [.pv (.int .u64 v), .pv (.sl 1 (bytes prev)), .pv (.sl 2 (entsP es)), .pv (.sl 1 (bytes root))])]⟩) (fun i => i ≤ es.length) (fun i => es.length - i) [60, 58, 59, 6, 7, 1] [6, 1] 0 (Nat.zero_le _) ?_ (hs := by simp only [go_sem, ↓reduceIte, List.take_zero, List.flatMap_nil, List.append_nil] <;> rfl)
  rintro i hi K hK
  refine AW.go ?_
  refine AW.cond rfl (fun hc => ?_) (fun hc => ?_)
  · have hlt : i < es.length := by have := of_decide_eq_true hc; omega
    obtain ⟨e, he⟩ : ∃ e, es[i]? = some e := ⟨es[i], List.getElem?_eq_getElem hlt⟩
    have hg := entsP_get he
    have hem := List.mem_of_getElem? he
    have e1 : IntKind.i64.wrap ((i : Int) + 1) = ((i + 1 : Nat) : Int) := wrap_i64_succ (by omega)
    have hfl := flatMap_le (entB ns) 11 (es.take i) (fun s hs => entB_len ns s (by omega))
    rw [List.length_take] at hfl
    have hfs := flatMap_take (entB ns) he
    have hel := entB_len ns e (by omega)
    have hml := mlook_mpS (posK ns ns.length) e.1 (nmS es)
    rw [if_pos (hnmS e hem), posK_all ns e.1 ((hnm e.1).2 ⟨e, hem, rfl⟩)] at hml
    have hix := idx_le ns e.1
    obtain ⟨q1, q2⟩ := w4 e hem
    have e2 : IntKind.u64.wrap ((ns.idxOf e.1 : Nat) : Int) = ((ns.idxOf e.1 : Nat) : Int) := wrap_u64_lt (by omega)
    have e3 : IntKind.u8.wrap e.2 = ((e.2.toNat : Nat) : Int) := by
      have : e.2 = ((e.2.toNat : Nat) : Int) := by omega
      rw [this, wrap_u8, Int.toNat_natCast, Nat.mod_eq_of_lt (by omega)]
    have heB : entB ns e = leb (ns.idxOf e.1) ++ [e.2.toNat] := rfl
    have hlx := leb_len10 (v := ns.idxOf e.1) (by omega)
    have hacl : (hh ++ (es.take i).flatMap (entB ns)).length ≤ 64 + 74 * ns.length + 11 * es.length := by rw [List.length_append]; omega
    have hfe : hh ++ (es.take i).flatMap (entB ns) ++ leb (ns.idxOf e.1) ++ [e.2.toNat] = hh ++ (es.take (i + 1)).flatMap (entB ns) := by rw [hfs, heB]; simp
    generalize hh ++ (es.take i).flatMap (entB ns) = acc at *
    generalize ns.idxOf e.1 = ix at *
    refine AW.go ?_ (by simp only [go_sem, ↓reduceIte, hg] <;> rfl)
    refine AW.lookup rfl rfl rfl hml tk_47 (by simp only [go_sem] <;> rfl) ze_3 ?_
    refine AW.go ?_ (by simp only [go_sem, ↓reduceIte, mval, e2] <;> rfl)
    refine AW.callE (fun _ => 0) (append_fn [] ix (by omega) (by simp; omega)) (.nilsP 1 (.pv _ .nil)) ?_
    try rw [List.nil_append]
    have hcl : (acc.length + (leb ix).length ≤ room) = True := eq_true (by omega)
    have hcl2 : ((acc ++ leb ix).length + 1 ≤ room) = True := eq_true (by rw [List.length_append]; omega)
    refine AW.go ?_ (by simp only [go_sem, ↓reduceIte, hcl, hcl2, e1, e3, bytes_one, List.length_cons, List.length_nil, Nat.zero_add] <;> rfl)
    exact AW.again hK (i + 1) (by omega) (by omega) (hs := by simp only [go_sem, ↓reduceIte, hfe] <;> rfl)
  have hge : i = es.length := by have := of_decide_eq_false hc; omega
  subst hge
  have hfl := flatMap_le (entB ns) 11 es (fun s hs => entB_len ns s (by omega))
  rw [List.take_length]
  have hcl : ((hh ++ es.flatMap (entB ns)).length + 32 ≤ room) = True := eq_true (by rw [List.length_append]; omega)
  generalize hh ++ es.flatMap (entB ns) = hz at *
  refine AW.go ?_ (by simp only [go_sem, ↓reduceIte, w3, hcl] <;> rfl)
  refine AW.finE (.move rfl (.pv _ .nil)) rfl
end Go.Ck

set_option linter.unusedVariables false
namespace Go.Ck
theorem lt_of_le_ne {a b : List UInt8} (h : a ≤ b) (hn : a ≠ b) : a < b := by
  refine Classical.byContradiction (fun h2 => hn ?_)
  exact List.le_antisymm h (List.not_lt.1 h2)
theorem dirS_sorted (es : List Ent) : (dirS es).Pairwise (· < ·) := by
  have h1 : (dirS es).Pairwise (fun a b => decide (a ≤ b) = true) := List.pairwise_mergeSort (fun a b c h1 h2 => by simp only [decide_eq_true_eq] at *; exact List.le_trans h1 h2) (fun a b => by
    rcases List.le_total a b with h | h
    · simp [h]
    · simp [h]) _
  have h2 := dirS_nodup es
  have h3 := h1.and h2
  exact h3.imp (fun {a b} h => lt_of_le_ne (by simpa using h.1) h.2)
end Go.Ck

set_option linter.unusedVariables false
set_option maxRecDepth 100000
set_option maxHeartbeats 400000
namespace Go.Ck
open Go.Proofs
end Go.Ck

set_option linter.unusedVariables false
set_option maxRecDepth 100000
set_option maxHeartbeats 400000
namespace Go.Ck
open Go.Proofs
end Go.Ck

set_option linter.unusedVariables false
set_option maxRecDepth 100000
set_option maxHeartbeats 400000
namespace Go.Ck
open Go.Proofs
end Go.Ck

set_option linter.unusedVariables false
namespace Go.Ck
def cntD (q : List Nat) : Nat × Int × List Nat :=
  if (readV q).2.2 ≠ 0 then (0, (readV q).2.2, q.drop (readV q).2.1) else if 1048576 < (readV q).1 then (0, 4, q.drop (readV q).2.1) else ((readV q).1, 0, q.drop (readV q).2.1)
def okT (acc : List (List UInt8)) (t : List UInt8) : Bool := match acc.getLast? with
  | some l => decide (l < t)
  | none => true
def tnD : Nat → List (List UInt8) → List Nat → List (List UInt8) × Int × List Nat
  | 0, acc, q => (acc, 0, q)
  | n + 1, acc, q => if (blk q 64).2.1 ≠ 0 then ([], (blk q 64).2.1, (blk q 64).2.2) else if okT acc (ub (blk q 64).1) = true then tnD n (acc ++ [ub (blk q 64).1]) (blk q 64).2.2 else ([], 3, (blk q 64).2.2)
def tensD (q : List Nat) : List (List UInt8) × Int × List Nat := if (cntD q).2.1 ≠ 0 then ([], (cntD q).2) else tnD (cntD q).1 [] (cntD q).2.2
def entD (t : List UInt8) (x : Nat) : Ent := (t, (x : Int))
def enD (ts : List (List UInt8)) : Nat → List Ent → List Nat → List Ent × Int × List Nat
  | 0, acc, q => (acc, 0, q)
  | n + 1, acc, q => if (readV q).2.2 ≠ 0 then ([], (readV q).2.2, q.drop (readV q).2.1) else if ts.length ≤ (readV q).1 then ([], 3, q.drop (readV q).2.1)
    else if (q.drop (readV q).2.1).length < 1 then ([], 2, q.drop (readV q).2.1) else if 8 < (q.drop (readV q).2.1).headD 0 then ([], 3, (q.drop (readV q).2.1).drop 1)
    else enD ts n (acc ++ [entD (ts.getD (readV q).1 []) ((q.drop (readV q).2.1).headD 0)]) ((q.drop (readV q).2.1).drop 1)
def entsD (ts : List (List UInt8)) (q : List Nat) : List Ent × Int × List Nat := if (cntD q).2.1 ≠ 0 then ([], (cntD q).2) else enD ts (cntD q).1 [] (cntD q).2.2
def noM (e : Int) : Man × Int := (⟨0, [], [], []⟩, e)
def decM5 (v : Nat) (p : List Nat) (ts : List (List UInt8)) (es : List Ent) (q : List Nat) : Man × Int :=
  if q.length < 32 then noM 2 else if q.drop 32 ≠ [] then noM 3 else if (dirS es).length ≠ ts.length then noM 3 else (⟨v, p, es, q.take 32⟩, 0)
def decM4 (v : Nat) (p : List Nat) (ts : List (List UInt8)) (q : List Nat) : Man × Int := if (entsD ts q).2.1 ≠ 0 then noM (entsD ts q).2.1 else decM5 v p ts (entsD ts q).1 (entsD ts q).2.2
def decM3 (v : Nat) (p : List Nat) (q : List Nat) : Man × Int := if (tensD q).2.1 ≠ 0 then noM (tensD q).2.1 else decM4 v p (tensD q).1 (tensD q).2.2
def decM2 (v : Nat) (q : List Nat) : Man × Int := if q.length < 32 then noM 2 else decM3 v (q.take 32) (q.drop 32)
def decM1 (q : List Nat) : Man × Int := if q.length < 8 then noM 2 else if beN (q.take 8) = 18446744073709551615 then noM 3 else decM2 (beN (q.take 8)) (q.drop 8)
def decM (b : List Nat) : Man × Int := if b.length < 4 then noM 2 else if b.take 4 ≠ [67, 83, 75, 49] then noM 3 else decM1 (b.drop 4)

theorem cntD_byte {q : List Nat} (h : ∀ x ∈ q, x < 256) : ∀ x ∈ (cntD q).2.2, x < 256 := by
  have : (cntD q).2.2 = q.drop (readV q).2.1 := by unfold cntD; split; rfl; split <;> rfl
  rw [this]; exact fun x hx => h x (List.mem_of_mem_drop hx)
theorem cntD_len (q : List Nat) : (cntD q).2.2.length ≤ q.length := by
  have : (cntD q).2.2 = q.drop (readV q).2.1 := by unfold cntD; split; rfl; split <;> rfl
  rw [this, List.length_drop]; omega
theorem cntD_le (q : List Nat) : (cntD q).1 ≤ 1048576 := by
  unfold cntD; split
  · exact Nat.zero_le _
  · split
    · exact Nat.zero_le _
    · simp only; omega
theorem tnD_byte : ∀ (n : Nat) (acc : List (List UInt8)) (q : List Nat), (∀ x ∈ q, x < 256) → ∀ x ∈ (tnD n acc q).2.2, x < 256
  | 0, acc, q, h => h
  | n + 1, acc, q, h => by
    obtain ⟨h1, h2, h3, h4⟩ := blk_byte (m := 64) h
    unfold tnD
    split
    · exact h2
    · split
      · exact tnD_byte n _ _ h2
      · exact h2
theorem tnD_len : ∀ (n : Nat) (acc : List (List UInt8)) (q : List Nat), (∀ x ∈ q, x < 256) → (tnD n acc q).2.2.length ≤ q.length
  | 0, acc, q, h => Nat.le_refl _
  | n + 1, acc, q, h => by
    obtain ⟨h1, h2, h3, h4⟩ := blk_byte (m := 64) h
    unfold tnD
    split
    · simp only; omega
    · split
      · exact Nat.le_trans (tnD_len n _ _ h2) (by omega)
      · simp only; omega
theorem tnD_n : ∀ (n : Nat) (acc : List (List UInt8)) (q : List Nat), (tnD n acc q).1.length ≤ acc.length + n
  | 0, acc, q => by simp [tnD]
  | n + 1, acc, q => by
    unfold tnD
    split
    · simp
    · split
      · have := tnD_n n (acc ++ [ub (blk q 64).1]) (blk q 64).2.2
        simp at this; omega
      · simp
theorem tensD_byte {q : List Nat} (h : ∀ x ∈ q, x < 256) : ∀ x ∈ (tensD q).2.2, x < 256 := by
  unfold tensD; split
  · exact cntD_byte h
  · exact tnD_byte _ _ _ (cntD_byte h)
theorem tensD_len {q : List Nat} (h : ∀ x ∈ q, x < 256) : (tensD q).2.2.length ≤ q.length := by
  unfold tensD; split
  · exact cntD_len q
  · exact Nat.le_trans (tnD_len _ _ _ (cntD_byte h)) (cntD_len q)
theorem tensD_n (q : List Nat) : (tensD q).1.length ≤ 1048576 := by
  unfold tensD; split
  · simp
  · have := tnD_n (cntD q).1 [] (cntD q).2.2
    have := cntD_le q
    simp at *; omega
theorem enD_byte (ts : List (List UInt8)) : ∀ (n : Nat) (acc : List Ent) (q : List Nat), (∀ x ∈ q, x < 256) → ∀ x ∈ (enD ts n acc q).2.2, x < 256
  | 0, acc, q, h => h
  | n + 1, acc, q, h => by
    have h2 : ∀ x ∈ q.drop (readV q).2.1, x < 256 := fun x hx => h x (List.mem_of_mem_drop hx)
    have h3 : ∀ x ∈ (q.drop (readV q).2.1).drop 1, x < 256 := fun x hx => h2 x (List.mem_of_mem_drop hx)
    unfold enD
    split
    · exact h2
    · split
      · exact h2
      · split
        · exact h2
        · split
          · exact h3
          · exact enD_byte ts n _ _ h3
theorem enD_len (ts : List (List UInt8)) : ∀ (n : Nat) (acc : List Ent) (q : List Nat), (enD ts n acc q).2.2.length ≤ q.length
  | 0, acc, q => Nat.le_refl _
  | n + 1, acc, q => by
    have h2 : (q.drop (readV q).2.1).length ≤ q.length := by rw [List.length_drop]; omega
    have h3 : ((q.drop (readV q).2.1).drop 1).length ≤ q.length := by rw [List.length_drop]; omega
    unfold enD
    split
    · exact h2
    · split
      · exact h2
      · split
        · exact h2
        · split
          · exact h3
          · exact Nat.le_trans (enD_len ts n _ _) h3
theorem enD_n (ts : List (List UInt8)) : ∀ (n : Nat) (acc : List Ent) (q : List Nat), (enD ts n acc q).1.length ≤ acc.length + n
  | 0, acc, q => by simp [enD]
  | n + 1, acc, q => by
    unfold enD
    split
    · simp
    · split
      · simp
      · split
        · simp
        · split
          · simp
          · have := enD_n ts n (acc ++ [entD (ts.getD (readV q).1 []) ((q.drop (readV q).2.1).headD 0)]) ((q.drop (readV q).2.1).drop 1)
            rw [List.length_append, List.length_singleton] at this; omega
theorem entsD_byte (ts : List (List UInt8)) {q : List Nat} (h : ∀ x ∈ q, x < 256) : ∀ x ∈ (entsD ts q).2.2, x < 256 := by
  unfold entsD; split
  · exact cntD_byte h
  · exact enD_byte ts _ _ _ (cntD_byte h)
theorem entsD_len (ts : List (List UInt8)) (q : List Nat) : (entsD ts q).2.2.length ≤ q.length := by
  unfold entsD; split
  · exact cntD_len q
  · exact Nat.le_trans (enD_len _ _ _ _) (cntD_len q)
theorem entsD_n (ts : List (List UInt8)) (q : List Nat) : (entsD ts q).1.length ≤ 1048576 := by
  unfold entsD; split
  · simp
  · have := enD_n ts (cntD q).1 [] (cntD q).2.2
    have := cntD_le q
    simp at *; omega
theorem okT_last {acc : List (List UInt8)} {l : List UInt8} (t : List UInt8) (h : acc.getLast? = some l) : okT acc t = decide (l < t) := by unfold okT; rw [h]
end Go.Ck

set_option linter.unusedVariables false
set_option maxRecDepth 100000
set_option maxHeartbeats 400000
namespace Go.Ck
open Go.Proofs
def failE (e : Int) : PV := .iface 56 (.agg [.int .i64 e])
theorem must_fn (e : Int) : FnP Try.prog 40 [] [.pv (.int .i64 e)] (fun rs H' => e = 0 ∧ rs = [] ∧ H' = []) (fun p H' => e ≠ 0 ∧ p = failE e ∧ H' = []) := by
  refine FnP.of_body (fn := Try.f40) (n := 7) (res := []) (by kernel_rfl) rfl rfl rfl rfl rfl (fun C => ?_)
  refine AW.go ?_
  refine AW.cond rfl (fun hc => ?_) (fun hc => ?_)
  · have he : e ≠ 0 := by simpa using hc
    refine AW.go ?_
    refine AW.panicO (fun ch hch => ?_)
    exact AW.endP hch ⟨he, rfl, rfl⟩
  · have he : e = 0 := by simpa using hc
    refine AW.go ?_
    refine AW.finP .nil ⟨he, rfl, rfl⟩
theorem unless_fn (b : Bool) (e : Int) (he0 : e ≠ 0) : FnP Try.prog 34 [] [.pv (.bool b), .pv (.int .i64 e)] (fun rs H' => b = true ∧ rs = [] ∧ H' = []) (fun p H' => b = false ∧ p = failE e ∧ H' = []) := by
  refine FnP.of_body (fn := Try.f34) (n := 8) (res := []) (by kernel_rfl) rfl rfl rfl rfl rfl (fun C => ?_)
  refine AW.go ?_
  cases b with
  | true =>
    refine AW.condF rfl ?_
    refine AW.go ?_
    refine AW.finP .nil ⟨rfl, rfl, rfl⟩
  | false =>
    refine AW.condT rfl ?_
    refine AW.go ?_
    refine AW.callPE (fun _ => 0) (must_fn e) (.pv _ .nil) (fun he ch hch => ?_) (fun he => absurd he he0)
    exact AW.endP hch ⟨rfl, rfl, rfl⟩
theorem got64_fn (v : Nat) (e : Int) : FnP Try.prog 36 [] [.pv (.int .u64 v), .pv (.int .i64 e)] (fun rs H' => e = 0 ∧ rs = [.pv (.int .u64 v)] ∧ H' = []) (fun p H' => e ≠ 0 ∧ p = failE e ∧ H' = []) := by
  refine FnP.of_body (fn := Try.f36) (n := 8) (res := [.tmp 4]) (by kernel_rfl) rfl rfl rfl rfl rfl (fun C => ?_)
  refine AW.go ?_
  refine AW.callPE (fun _ => 0) (must_fn e) (.pv _ .nil) (fun he ch hch => ?_) (fun he => ?_)
  · exact AW.endP hch ⟨he, rfl, rfl⟩
  refine AW.go ?_
  refine AW.finP (.pv _ .nil) ⟨he, rfl, rfl⟩
theorem gotB_fn (l : List Nat) (e : Int) : FnP Try.prog 59 [] [.pv (.sl 1 (bytes l)), .pv (.int .i64 e)] (fun rs H' => e = 0 ∧ rs = [.pv (.sl 1 (bytes l))] ∧ H' = []) (fun p H' => e ≠ 0 ∧ p = failE e ∧ H' = []) := by
  refine FnP.of_body (fn := Try.f59) (n := 8) (res := [.tmp 4]) (by kernel_rfl) rfl rfl rfl rfl rfl (fun C => ?_)
  refine AW.go ?_
  refine AW.callPE (fun _ => 0) (must_fn e) (.pv _ .nil) (fun he ch hch => ?_) (fun he => ?_)
  · exact AW.endP hch ⟨he, rfl, rfl⟩
  refine AW.go ?_
  refine AW.finP (.pv _ .nil) ⟨he, rfl, rfl⟩
theorem taken_fn (l : List Nat) (n : Nat) (hl : l.length ≤ room) : FnP Try.prog 35 (curO l) [.ptr 1000 0, .pv (.int .i64 n)]
    (fun rs H' => n ≤ l.length ∧ rs = [.pv (.sl 1 (bytes (l.take n)))] ∧ H' = curO (l.drop n)) (fun p H' => l.length < n ∧ p = failE 2 ∧ H' = curO l) := by
  refine FnP.of_body (fn := Try.f35) (n := 11) (res := [.tmp 4]) (by kernel_rfl) rfl rfl rfl rfl rfl (fun C => ?_)
  refine AW.go ?_
  refine AW.callE id (curBytes_fn l n hl) (.ptr rfl (.pv _ .nil)) ?_
  refine AW.go ?_
  refine AW.freeze (p := .slot 8) (by simp only [go_sem, ↓reduceIte, freeze, freezeO] <;> rfl) ?_
  by_cases h : n ≤ l.length
  · simp only [if_pos h]
    refine AW.callPE (fun _ => 0) (gotB_fn (l.take n) 0) (.pv _ (.pv _ .nil)) (fun he ch hch => absurd rfl he) (fun he => ?_)
    refine AW.go ?_
    refine AW.finP (.pv _ .nil) ⟨h, rfl, rfl⟩
  · simp only [if_neg h]
    refine AW.callPE (fun _ => 0) (gotB_fn [] 2) (.pv _ (.pv _ .nil)) (fun he ch hch => ?_) (fun he => absurd he (by decide))
    exact AW.endP hch ⟨by omega, rfl, rfl⟩
theorem counted_fn (q : List Nat) (hl : q.length ≤ room) (hb : ∀ x ∈ q, x < 256) : FnP Try.prog 61 (curO q) [.ptr 1000 0]
    (fun rs H' => (cntD q).2.1 = 0 ∧ rs = [.pv (.int .i64 (cntD q).1)] ∧ H' = curO (cntD q).2.2) (fun p H' => (cntD q).2.1 ≠ 0 ∧ p = failE (cntD q).2.1 ∧ H' = curO (cntD q).2.2) := by
  refine FnP.of_body (fn := Try.f61) (n := 14) (res := [.tmp 2]) (by kernel_rfl) rfl rfl rfl rfl rfl (fun C => ?_)
  refine AW.go ?_
  refine AW.callE id (curVarint_fn q hl hb) (.ptr rfl .nil) ?_
  unfold cntD
  generalize q.drop (readV q).2.1 = q2
  obtain ⟨v, k, e⟩ := readV q
  simp only
  refine AW.go ?_
  refine AW.callPE (fun _ => 0) (got64_fn v e) (.pv _ (.pv _ .nil)) (fun he ch hch => ?_) (fun he => ?_)
  · simp only [if_pos he]
    exact AW.endP hch ⟨he, rfl, rfl⟩
  simp only [if_neg (show ¬ e ≠ 0 by simpa using he)]
  by_cases hv : 1048576 < v
  · simp only [if_pos hv]
    have d1 : decide (v ≤ 1048576) = false := decide_eq_false (by omega)
    have d2 : decide ((v : Int) ≤ 1048576) = false := decide_eq_false (by omega)
    refine AW.go ?_ (by simp only [go_sem, ↓reduceIte, d1, d2] <;> rfl)
    refine AW.callPE (fun _ => 0) (unless_fn false 4 (by decide)) (.pv _ (.pv _ .nil)) (fun he ch hch => ?_) (fun he => absurd he (by decide))
    exact AW.endP hch ⟨by decide, rfl, rfl⟩
  · simp only [if_neg hv]
    have d1 : decide (v ≤ 1048576) = true := decide_eq_true (by omega)
    have d2 : decide ((v : Int) ≤ 1048576) = true := decide_eq_true (by omega)
    have ev : IntKind.i64.wrap (v : Int) = (v : Int) := wrap_i64_nat (by omega)
    refine AW.go ?_ (by simp only [go_sem, ↓reduceIte, d1, d2] <;> rfl)
    refine AW.callPE (fun _ => 0) (unless_fn true 4 (by decide)) (.pv _ (.pv _ .nil)) (fun he ch hch => absurd he (by decide)) (fun he => ?_)
    refine AW.go ?_ (by simp only [go_sem, ↓reduceIte, ev] <;> rfl)
    refine AW.finP (.pv _ .nil) ⟨trivial, rfl, rfl⟩
end Go.Ck

set_option linter.unusedVariables false
set_option maxRecDepth 100000
set_option maxHeartbeats 400000
namespace Go.Ck
open Go.Proofs
theorem mtens_fn (q0 : List Nat) (hl : q0.length ≤ 2 ^ 40) (hb : ∀ x ∈ q0, x < 256) : FnP Try.prog 38 (curO q0) [.ptr 1000 0]
    (fun rs H' => (tensD q0).2.1 = 0 ∧ rs = [.pv (.sl 1 (strs (tensD q0).1))] ∧ H' = curO (tensD q0).2.2) (fun p H' => (tensD q0).2.1 ≠ 0 ∧ p = failE (tensD q0).2.1 ∧ H' = curO (tensD q0).2.2) := by
  refine FnP.of_body (fn := Try.f38) (n := 36) (res := [.tmp 2]) (by kernel_rfl) rfl rfl rfl rfl rfl (fun C => ?_)
  have hr : room = 140737488355328 := rfl
  refine AW.go ?_
  refine AW.callPE id (counted_fn q0 (by omega) hb) (.ptr rfl .nil) (fun he ch hch => ?_) (fun he => ?_)
  · have e1 : tensD q0 = ([], (cntD q0).2) := by unfold tensD; rw [if_pos he]
    rw [e1]
    exact AW.endP hch ⟨he, rfl, rfl⟩
  have e1 : tensD q0 = tnD (cntD q0).1 [] (cntD q0).2.2 := by unfold tensD; rw [if_neg (by simpa using he)]
  rw [e1]
  have hb1 := cntD_byte hb
  have hl1 := cntD_len q0
  have hn := cntD_le q0
  generalize (cntD q0).2.2 = q1 at *
  generalize (cntD q0).1 = n at *
  clear he e1
  refine AW.go ?_
  refine AW.loopS (fun a : List (List UInt8) × List Nat => ⟨36, [(7, .pv (.int .i64 a.1.length)), (6, .pv (.int .i64 n)), (0, .ptr 1000 0), (3, .own 9 (strs a.1))], [(1000, .cells 87 [.pv (.sl 1 (bytes a.2))])]⟩) (fun a => a.1.length ≤ n ∧ tnD (n - a.1.length) a.1 a.2 = tnD n [] q1 ∧ (∀ x ∈ a.2, x < 256) ∧ a.2.length ≤ q1.length) (fun a => n - a.1.length) [7, 6, 0, 3] [1000] ([], q1) ⟨Nat.zero_le _, rfl, hb1, Nat.le_refl _⟩ ?_
  rintro ⟨acc, q⟩ ⟨hi, htn, hqb, hql⟩ K hK
  simp only at hi htn hqb hql
  refine AW.go ?_
  refine AW.cond rfl (fun hc => ?_) (fun hc => ?_)
  · have hlt : acc.length < n := by have := of_decide_eq_true hc; omega
    obtain ⟨m, hm⟩ : ∃ m, n - acc.length = m + 1 := ⟨n - acc.length - 1, by omega⟩
    have e0 : tnD (m + 1) acc q = if (blk q 64).2.1 ≠ 0 then ([], (blk q 64).2.1, (blk q 64).2.2) else if okT acc (ub (blk q 64).1) = true then tnD m (acc ++ [ub (blk q 64).1]) (blk q 64).2.2 else ([], 3, (blk q 64).2.2) := rfl
    rw [hm, e0] at htn
    obtain ⟨hbb, hrb, _, hrl⟩ := blk_byte (m := 64) hqb
    refine AW.go ?_
    refine AW.callE id (curBlock_fn q 64 (by decide) (by omega) hqb) (.ptr rfl (.pv _ .nil)) ?_
    generalize blk q 64 = B at *
    obtain ⟨b, e, r⟩ := B
    simp only at htn hbb hrb hrl
    refine AW.go ?_
    refine AW.freeze (p := .slot 11) (by simp only [go_sem, ↓reduceIte, freeze, freezeO] <;> rfl) ?_
    refine AW.callPE (fun _ => 0) (gotB_fn b e) (.pv _ (.pv _ .nil)) (fun he ch hch => ?_) (fun he => ?_)
    · rw [← htn, if_pos he]
      exact AW.endP hch ⟨he, rfl, rfl⟩
    rw [if_neg (show ¬ e ≠ 0 by simpa using he)] at htn
    refine AW.go ?_
    have r1 : ((acc.length + 1) * 16 ≤ room) = True := eq_true (by omega)
    have r2 : (acc.length + 1 ≤ room) = True := eq_true (by omega)
    have ei : IntKind.i64.wrap ((acc.length : Int) + 1) = ((acc.length + 1 : Nat) : Int) := wrap_i64_succ (by omega)
    have hsn := strs_snoc acc (ub b)
    have hlen : (acc ++ [ub b]).length = acc.length + 1 := by simp
    refine via (T := okT acc (ub b) = true → ?Tok) (fun hT => ?_) ?_; rotate_left
    · by_cases hA : acc = []
      · have d0 : decide (acc.length = 0) = true := by rw [hA]; rfl
        have d0' : (((acc.length : Nat) : Int) == 0) = true := by rw [hA]; rfl
        have d0'' : (acc.length == 0) = true := by rw [hA]; rfl
        refine AW.srTail 14 mixed (by decide +kernel) ?_ (by simp only [go_sem, ↓reduceIte, d0, d0', d0'', List.take_succ_cons, List.take_zero] <;> rfl)
        refine AW.go ?_
        refine AW.callPE (fun _ => 0) (unless_fn true 3 (by decide)) (.pv _ (.pv _ .nil)) (fun he ch hch => absurd he (by decide)) (fun he => ?_)
        refine AW.keepB [7, 6, 0, 3, 4] [1000] (s' := ⟨36, [(7, .pv (.int .i64 acc.length)), (6, .pv (.int .i64 n)), (0, .ptr 1000 0), (3, .own 9 (strs acc)), (4, .pv (.sl 1 (bytes b)))], [(1000, .cells 87 [.pv (.sl 1 (bytes r))])]⟩) (by simp only [go_sem, ↓reduceIte]) (by simp only [go_sem, ↓reduceIte] <;> rfl) ?_
        exact hT () (by rw [hA]; rfl)
      · obtain ⟨l, hl⟩ : ∃ l, acc.getLast? = some l := ⟨acc.getLast hA, List.getLast?_eq_some_getLast hA⟩
        have hpos : 0 < acc.length := List.length_pos_iff.2 hA
        have hok := okT_last (ub b) hl
        rw [List.getLast?_eq_getElem?] at hl
        have hg := strs_get hl
        have hll : (acc.length - 1 < acc.length) = True := eq_true (by omega)
        have ej : IntKind.i64.wrap ((acc.length : Int) - 1) = ((acc.length - 1 : Nat) : Int) := by rw [wrap_i64_of (by omega) (by omega)]; omega
        have d0 : decide (acc.length = 0) = false := decide_eq_false (by omega)
        have d0' : (((acc.length : Nat) : Int) == 0) = false := by rw [beq_eq_false_iff_ne]; omega
        have d0'' : (acc.length == 0) = false := by rw [beq_eq_false_iff_ne]; omega
        have hbl : Op.bytesLess l (ub b) = okT acc (ub b) := by rw [bytesLess_eq, hok]
        refine AW.srTail 14 mixed (by decide +kernel) ?_ (by simp only [go_sem, ↓reduceIte, d0, d0', d0'', ej, hg, hll, numsOf_byt, ofNums_ub, hbl, List.take_succ_cons, List.take_zero] <;> rfl)
        refine AW.go ?_
        refine AW.callPE (fun _ => 0) (unless_fn (okT acc (ub b)) 3 (by decide)) (.pv _ (.pv _ .nil)) (fun he ch hch => ?_) (fun he => ?_)
        · rw [← htn, if_neg (by rw [he]; simp)]
          exact AW.endP hch ⟨by simp, rfl, rfl⟩
        refine AW.keepB [7, 6, 0, 3, 4] [1000] (s' := ⟨36, [(7, .pv (.int .i64 acc.length)), (6, .pv (.int .i64 n)), (0, .ptr 1000 0), (3, .own 9 (strs acc)), (4, .pv (.sl 1 (bytes b)))], [(1000, .cells 87 [.pv (.sl 1 (bytes r))])]⟩) (by simp only [go_sem, ↓reduceIte]) (by simp only [go_sem, ↓reduceIte] <;> rfl) ?_
        exact hT () he
    intro hok
    rw [if_pos hok] at htn
    refine AW.go ?_ (by simp only [go_sem, ↓reduceIte, numsOf_byt, ofNums_ub, r1, r2, ei, hsn, List.length_cons, List.length_nil, Nat.zero_add] <;> rfl)
    refine AW.again hK (acc ++ [ub b], r) ⟨by rw [hlen]; omega, ?_, hrb, by simp only; omega⟩ (by simp only [hlen]; omega) (hs := by simp only [go_sem, ↓reduceIte, hlen] <;> rfl)
    rw [← htn]
    simp only [hlen]
    congr 1
    omega
  have hge : acc.length = n := by have := of_decide_eq_false hc; omega
  rw [hge, Nat.sub_self] at htn
  rw [← htn]
  refine AW.freeze (p := .slot 3) (by simp only [go_sem, ↓reduceIte, freeze, freezeO] <;> rfl) ?_
  refine AW.go ?_
  refine AW.finP (.pv _ .nil) ⟨rfl, rfl, rfl⟩
end Go.Ck

set_option linter.unusedVariables false
set_option maxRecDepth 100000
set_option maxHeartbeats 400000
namespace Go.Ck
open Go.Proofs
theorem entsP_snoc (es : List Ent) (t : List UInt8) (x : Nat) : entsP es ++ [.agg [.str t, .int .i64 (x : Int)]] = entsP (es ++ [entD t x]) := by simp [entsP, entP, entD]
theorem padSz_pos (x : Nat) : decide (0 < padSz (x : Int)) = decide (x ≤ 8) := by
  rw [Bool.eq_iff_iff]
  have := padSz_zero (x : Int)
  simp only [decide_eq_true_eq]
  omega
theorem ments_fn (ts : List (List UInt8)) (htl : ts.length < 2 ^ 40) (q0 : List Nat) (hl : q0.length ≤ 2 ^ 40) (hb : ∀ x ∈ q0, x < 256) : FnP Try.prog 39 (curO q0) [.ptr 1000 0, .pv (.sl 1 (strs ts))]
    (fun rs H' => (entsD ts q0).2.1 = 0 ∧ rs = [.pv (.sl 2 (entsP (entsD ts q0).1))] ∧ H' = curO (entsD ts q0).2.2) (fun p H' => (entsD ts q0).2.1 ≠ 0 ∧ p = failE (entsD ts q0).2.1 ∧ H' = curO (entsD ts q0).2.2) := by
  refine FnP.of_body (fn := Try.f39) (n := 46) (res := [.tmp 4]) (by kernel_rfl) rfl rfl rfl rfl rfl (fun C => ?_)
  have hr : room = 140737488355328 := rfl
  refine AW.go ?_
  refine AW.callPE id (counted_fn q0 (by omega) hb) (.ptr rfl .nil) (fun he ch hch => ?_) (fun he => ?_)
  · have e1 : entsD ts q0 = ([], (cntD q0).2) := by unfold entsD; rw [if_pos he]
    rw [e1]
    exact AW.endP hch ⟨he, rfl, rfl⟩
  have e1 : entsD ts q0 = enD ts (cntD q0).1 [] (cntD q0).2.2 := by unfold entsD; rw [if_neg (by simpa using he)]
  rw [e1]
  have hb1 := cntD_byte hb
  have hl1 := cntD_len q0
  have hn := cntD_le q0
  generalize (cntD q0).2.2 = q1 at *
  generalize (cntD q0).1 = n at *
  clear he e1
  refine AW.go ?_
  refine AW.loopS (fun a : List Ent × List Nat => ⟨46, [(10, .pv (.int .i64 a.1.length)), (9, .pv (.int .i64 n)), (0, .ptr 1000 0), (1, .pv (.sl 1 (strs ts))), (5, .own 38 (entsP a.1))], [(1000, .cells 87 [.pv (.sl 1 (bytes a.2))])]⟩) (fun a => a.1.length ≤ n ∧ enD ts (n - a.1.length) a.1 a.2 = enD ts n [] q1 ∧ (∀ x ∈ a.2, x < 256) ∧ a.2.length ≤ q1.length) (fun a => n - a.1.length) [10, 9, 0, 1, 5] [1000] ([], q1) ⟨Nat.zero_le _, rfl, hb1, Nat.le_refl _⟩ ?_
  rintro ⟨acc, q⟩ ⟨hi, htn, hqb, hql⟩ K hK
  simp only at hi htn hqb hql
  refine AW.go ?_
  refine AW.cond rfl (fun hc => ?_) (fun hc => ?_)
  · have hlt : acc.length < n := by have := of_decide_eq_true hc; omega
    obtain ⟨m, hm⟩ : ∃ m, n - acc.length = m + 1 := ⟨n - acc.length - 1, by omega⟩
    rw [hm, enD] at htn
    have hb2 : ∀ x ∈ q.drop (readV q).2.1, x < 256 := fun x hx => hqb x (List.mem_of_mem_drop hx)
    have hl2 : (q.drop (readV q).2.1).length ≤ q.length := by rw [List.length_drop]; omega
    have hv := readV_lt hqb
    refine AW.go ?_
    refine AW.callE id (curVarint_fn q (by omega) hqb) (.ptr rfl .nil) ?_
    generalize q.drop (readV q).2.1 = q2 at *
    generalize readV q = B at *
    obtain ⟨v, k0, e⟩ := B
    simp only at htn hv
    refine AW.go ?_
    refine AW.callPE (fun _ => 0) (got64_fn v e) (.pv _ (.pv _ .nil)) (fun he ch hch => ?_) (fun he => ?_)
    · rw [← htn, if_pos he]
      exact AW.endP hch ⟨he, rfl, rfl⟩
    rw [if_neg (show ¬ e ≠ 0 by simpa using he)] at htn
    have et : IntKind.u64.wrap (ts.length : Int) = (ts.length : Int) := wrap_u64_lt (by omega)
    have d1 : decide ((v : Int) < (ts.length : Int)) = decide (v < ts.length) := by rw [Bool.eq_iff_iff]; simp
    refine AW.go ?_ (by simp only [go_sem, ↓reduceIte, et, d1] <;> rfl)
    refine AW.callPE (fun _ => 0) (unless_fn (decide (v < ts.length)) 3 (by decide)) (.pv _ (.pv _ .nil)) (fun he ch hch => ?_) (fun he => ?_)
    · have := of_decide_eq_false he
      rw [← htn, if_pos (by omega)]
      exact AW.endP hch ⟨by simp, rfl, rfl⟩
    have hvt := of_decide_eq_true he
    rw [if_neg (by omega)] at htn
    refine AW.go ?_
    refine AW.callPE id (taken_fn q2 1 (by omega)) (.ptr rfl (.pv _ .nil)) (fun he ch hch => ?_) (fun he => ?_)
    · rw [← htn, if_pos he]
      exact AW.endP hch ⟨by simp, rfl, rfl⟩
    obtain ⟨x, q3, rfl⟩ : ∃ x r, q2 = x :: r := by
      cases q2 with
      | nil => simp at he
      | cons x r => exact ⟨x, r, rfl⟩
    have t1 : (x :: q3).take 1 = [x] := rfl
    have t2 : (x :: q3).drop 1 = q3 := rfl
    have t3 : (x :: q3).headD 0 = x := rfl
    rw [if_neg (by omega)] at htn
    rw [t1, t2]
    rw [t2, t3] at htn
    have hx := hb2 x (by simp)
    have hb3 : ∀ y ∈ q3, y < 256 := fun y hy => hb2 y (by simp [hy])
    have hl3 : q3.length ≤ q1.length := by simp at hl2; omega
    have g0 : (bytes [x])[0]? = some (.int .u8 (x : Int)) := rfl
    have ex : IntKind.i64.wrap (x : Int) = (x : Int) := wrap_i64_nat (by omega)
    refine AW.go ?_ (by simp only [go_sem, ↓reduceIte, g0, ex] <;> rfl)
    refine AW.callE (fun _ => 0) (size_fn (x : Int)) (.pv _ .nil) ?_
    have dp := padSz_pos x
    have dp' : decide ((padSz (x : Int) : Int) > 0) = decide (x ≤ 8) := by rw [← dp, Bool.eq_iff_iff]; simp
    refine AW.go ?_ (by simp only [go_sem, ↓reduceIte, dp, dp'] <;> rfl)
    refine AW.callPE (fun _ => 0) (unless_fn (decide (x ≤ 8)) 3 (by decide)) (.pv _ (.pv _ .nil)) (fun he ch hch => ?_) (fun he => ?_)
    · have := of_decide_eq_false he
      rw [← htn, if_pos (by omega)]
      exact AW.endP hch ⟨by simp, rfl, rfl⟩
    have hx8 := of_decide_eq_true he
    rw [if_neg (by omega)] at htn
    have hgt : ts[v]? = some (ts.getD v []) := by rw [List.getD_eq_getElem?_getD, List.getElem?_eq_getElem hvt]; rfl
    have hg := strs_get hgt
    generalize ts.getD v [] = t at *
    have r1 : ((acc.length + 1) * 24 ≤ room) = True := eq_true (by omega)
    have r2 : (acc.length + 1 ≤ room) = True := eq_true (by omega)
    have ei : IntKind.i64.wrap ((acc.length : Int) + 1) = ((acc.length + 1 : Nat) : Int) := wrap_i64_succ (by omega)
    have hsn := entsP_snoc acc t x
    have hlen : (acc ++ [entD t x]).length = acc.length + 1 := by simp
    refine AW.go ?_
    refine AW.calmS ?_
    refine CK.reads [[], [], [], [33, 34], [35], [], [37], [38], [39]] ?_ (by simp only [go_sem, ↓reduceIte, hg, g0, ex] <;> rfl)
    refine CK.build [36, 40] ?_ (hf := by simp only [go_sem, ↓reduceIte, hg, g0, ex] <;> rfl)
    refine CK.list [41] ?_
    refine CK.done (M := 11) 2 mixed ?_
    refine AW.seqs (fuel := 0) (listed' := Array.replicate 13 true) [11, 12] ?_ (by decide +kernel)
    -- 11: t43 := call append(t32, t42)
    -- 12: t5 := = t43
    refine AW.gg ?_ (by simp only [go_sem, ↓reduceIte, r1, r2, hsn, List.length_cons, List.length_nil, Nat.zero_add] <;> rfl)
    refine AW.anyDone (by decide +kernel) ?_
    refine AW.go ?_ (by simp only [go_sem, ↓reduceIte, ei] <;> rfl)
    refine AW.again hK (acc ++ [entD t x], q3) ⟨by rw [hlen]; omega, ?_, hb3, hl3⟩ (by simp only [hlen]; omega) (hs := by simp only [go_sem, ↓reduceIte, hlen] <;> rfl)
    rw [← htn]
    simp only [hlen]
    congr 1
    omega
  have hge : acc.length = n := by have := of_decide_eq_false hc; omega
  rw [hge, Nat.sub_self] at htn
  rw [← htn]
  refine AW.freeze (p := .slot 5) (by simp only [go_sem, ↓reduceIte, freeze, freezeO] <;> rfl) ?_
  refine AW.go ?_
  refine AW.finP (.pv _ .nil) ⟨rfl, rfl, rfl⟩
end Go.Ck
