/- What is proved here: parts of the proofs of this seat's statements (a verified evaluator for calls over pure values, its laws, and contracts of functions). No condition. -/
import Derived.Test.YthjibccogjggbaaKu
import Derived.Test.YthjibccogjggbaaKd
import Derived.Test.YthjibccogjggbaaKj
import Derived.Lib.SlBytesConst
import Derived.Test.YthjibccogjggbaaKt
import Derived.Sort.Walk0
set_option linter.all false
set_option linter.unusedVariables false
namespace Go.Ck
open Go.RowKit
section
variable {P : Program} {R : Option Nat} {Φ : Exit → Cx → St → Prop} {k : List It} {C : Cx} {s : St}
/-- The two operations that lay a constant's bytes. -/
theorem AW.constB {all : Array Oper} {o1 o2 : Oper} {r : List Oper} {d1 d2 t e n eb : Nat} {ea : Bool} {ps : Array (Nat × Operand)} {z : PV} {xs : List PV} (hT : tk P t = .sl e 1 eb ea) (he : tk P e = .int .u8) (hz : zeroElem P e = some z)
    (hf : fillElems P 1 ps.toList (List.replicate n z) s = some (xs, s)) (h0 : 0 < n) (hn : n ≤ 1000) (h1 : xs.all PV.one = true) (hn1 : d1 < s.n)
    (hk : AW P R Φ .normal (.ops all r :: k) C (put d2 (.lit xs) (put d1 .dead s)))
    (hg1 : o1.guard = none := by rfl) (hd1' : o1.dst = some d1 := by rfl) (ho1 : o1.op = .buildSlice t n ps := by rfl) (hg2 : o2.guard = none := by rfl) (hd2 : o2.dst = some d2 := by rfl) (ho2 : o2.op = .convert t t (.tmp d1) := by rfl) : AW P R Φ .normal (.ops all (o1 :: o2 :: r) :: k) C s := fun B a w ha => by
  simp only [den]
  refine wpListIn_want (by simp [Region.wanted, hg1]) (fun c hc => by rw [ho1] at hc; cases hc) ?_
  obtain ⟨hdf, E, h⟩ := ha
  obtain ⟨hu, hce, _⟩ := tk_sl hT
  obtain ⟨ie, zv, hie, hzv, hzs, hro, hzl⟩ := zeroElem_sound (P := P) (w := w) (A := fun b => E.om b ∨ B.F b) hz
  have hsz : ie.size = 1 := by rw [← hce]; simp [Program.cellsOf, hie]
  have hr0 := made_ros hro n
  rw [hzl] at hr0
  obtain ⟨E1, cells', f1, f2, f3, f4, f5⟩ := fillElems_sound ps.toList h hf hr0 (fun x hx => by rw [List.eq_of_mem_replicate hx, hzl, hsz])
  have hl : xs.length = n := by simpa using f5
  have hone : flat xs = xs := flat_one h1
  rw [hone] at f3
  have hrun1 : (execOp a.eval o1).run P w = .ok (.value (.slice (some ⟨w.heap.size, 0, none⟩) n n)) (w.alloc (.cells cells' e)) := by
    have := run_buildSlice (P := P) w t e n (ps.map fun (i, x) => (i, a.eval x)) cells' ie zv hu hie hzv (by rw [hsz]; omega) (by rw [hsz]; omega) (by
      rw [Array.toList_map, hsz]
      rw [hsz] at f1
      exact f1)
    simp [execOp, ho1, this]
  rw [hrun1, Oper.uponIn_value, hd1']
  refine wpListIn_want (by simp [Region.wanted, hg2]) (fun c hc => by rw [ho2] at hc; cases hc) ?_
  have hsize : d1 < a.tmps.size := by rw [← h.size]; exact hn1
  have hev : (a.put (some d1) (.slice (some ⟨w.heap.size, 0, none⟩) n n)).eval (.tmp d1) = .slice (some ⟨w.heap.size, 0, none⟩) n n := by
    show (a.tmps.setIfInBounds d1 _).getD d1 undef = _
    simp [Array.getD_eq_getD_getElem?, hsize]
  have hrun2 : (execOp (a.put (some d1) (.slice (some ⟨w.heap.size, 0, none⟩) n n)).eval o2).run P (w.alloc (.cells cells' e)) = .ok (.value (.slice (some ⟨w.heap.size, 0, none⟩) n n)) (w.alloc (.cells cells' e (cells'.size, cells'.size + 1))) := by
    have := Lib.run_convert_bytes_const (P := P) w t e cells' n n hu (tk_int he)
    simp [execOp, ho2, hev, this]
  rw [hrun2, Oper.uponIn_value, hd2]
  have hw2 : (w.alloc (.cells cells' e (cells'.size, cells'.size + 1))).heap = w.heap.push (.cells cells' e (cells'.size, cells'.size + 1)) := rfl
  have hgr : Grow (fun _ => False) w (w.alloc (.cells cells' e (cells'.size, cells'.size + 1))) := ⟨rfl, rfl, rfl, by rw [hw2]; simp, fun b hb _ => by rw [hw2, Array.getElem?_push, if_neg (by omega)]⟩
  have hE1 := f2.world hgr (fun b hb => hb.elim) (fun _ => False) (fun b hb => hb.elim)
  obtain ⟨hc, hfree⟩ := hE1.clear d1
  have hE2 := hc.setDead (.slice (some ⟨w.heap.size, 0, none⟩) n n) (by rw [clear_n]; exact hn1) hfree
  have hput : put d1 .dead s = setSlot d1 .dead (clear d1 s) := by
    unfold put
    rw [if_pos hn1]
    have : (if SV.dead.on (.slot d1) = true then SV.dead else SV.dead) = SV.dead := by split <;> rfl
    rw [this]
  rw [hput] at hk
  have hnA : ¬ ((E1.addOm fun _ => False).om w.heap.size ∨ B.F w.heap.size) := by
    rintro ((h2 | h2) | h2)
    · have := (f2.om_lt _ h2).1; omega
    · exact h2
    · have h3 := f2.flt _ h2
      have h4 := f2.gr.size
      omega
  have hros : ROs (fun b => (E1.addOm fun _ => False).om b ∨ B.F b) (w.alloc (.cells cells' e (cells'.size, cells'.size + 1))) xs cells'.toList := f3.mono (fun b hb hn => ⟨by
    rintro ((h2 | h2) | h2)
    · exact hn (.inl h2)
    · exact h2
    · exact hn (.inr h2), hgr.block b hb (fun h => h)⟩)
  have hrs : RS P (fun b => (E1.addOm fun _ => False).om b ∨ B.F b) (E1.addOm fun _ => False) (w.alloc (.cells cells' e (cells'.size, cells'.size + 1))) (.lit xs) (.slice (some ⟨w.heap.size, 0, none⟩) n n) := by
    have := RS.lit (P := P) (A := fun b => (E1.addOm fun _ => False).om b ∨ B.F b) (E := E1.addOm fun _ => False) (w := w.alloc (.cells cells' e (cells'.size, cells'.size + 1))) xs w.heap.size cells' e (cells'.size, cells'.size + 1) hnA (by rw [hw2]; simp) hros
    rw [hl] at this; exact this
  have hE3 := hE2.putGood d2 (v := .lit xs) ⟨rfl, by simp [SV.on], fun o ho => by simp [SV.pts] at ho⟩ hrs
  exact hk B _ _ ⟨by rw [put_defers, put_defers]; exact hdf, _, hE3⟩

/-- append onto it: a new row. -/
theorem AW.appendLit {all : Array Oper} {o : Oper} {r : List Oper} {d t tx e eb : Nat} {ea : Bool} {c : Call} {x y : Operand} {xs ys : List PV} {v : SV} (hx : ev s x = some (.lit xs)) (hy : ev s y = some v) (hys : elemsOf P s 1 v = some ys) (hx1 : xs.all PV.one = true) (hT : tk P t = .sl e 1 eb ea) (hsrc : (tk P tx).isSrc = true) (hz : zok P e = true) (hpos : 0 < ys.length)
    (hr1 : (xs.length + ys.length) * eb ≤ room) (hr2 : xs.length + ys.length ≤ room)
    (hk : AW P R Φ .normal (.ops all r :: k) C (put d (.own e (xs ++ ys)) s)) (hg : o.guard = none := by rfl) (hd : o.dst = some d := by rfl) (ho : o.op = .call c := by rfl) (hc : c.callee = .builtin .append := by rfl) (hca : c.args = #[x, y] := by rfl) (hct : c.argTypes = #[t, tx] := by rfl) : AW P R Φ .normal (.ops all (o :: r) :: k) C s := fun B a w ha => by
  simp only [den]
  refine wpListIn_want (by simp [Region.wanted, hg]) (fun c hc => by rw [ho] at hc; cases hc) ?_
  obtain ⟨hdf, E, h⟩ := ha
  obtain ⟨hu, hce, hbe⟩ := tk_sl hT
  obtain ⟨i, z, hi, hiz, hzs⟩ := zok_parts hz
  have hsz : i.size = 1 := by rw [← hce]; simp [Program.cellsOf, hi]
  have hby : i.bytes = eb := by rw [← hbe]; simp [Program.bytesOf, hi]
  have e1 := ev_rs h hx
  generalize hxe : a.eval x = v1 at e1
  cases e1 with | lit _ g cur e' fr hA hgc hro => ?_
  obtain ⟨news, h1, h2, h3⟩ := elems_src h hsrc (by decide) hys (ev_rs h hy)
  have hcs : cur.size = xs.length := by have := hro.1; simpa using this
  have hold : (Builtin.firstCells i.size xs.length (.slice (some ⟨g, 0, none⟩) xs.length xs.length)).run P w.drew = .ok cur.toList.toArray w.drew := by
    refine run_firstCells_some w.drew i.size xs.length ⟨g, 0, none⟩ xs.length xs.length cur.toList (by simp [hsz, hcs]) (fun j u hu' => ?_)
    have hg' : w.drew.heap[g]? = some (.cells cur e' fr) := hgc
    have : cur[j]? = some u := by simpa using hu'
    by_cases hj : j = 0 <;> simp [World.cell?, Addr.add, hg', hj, Addr.spot] <;> simpa [hj] using this
  have hns : (xs.length + ys.length) * i.bytes ≤ 140737488355328 := by rw [hby]; unfold room at hr1; exact hr1
  have hrun := run_append_grow_src (P := P) w t tx o.type e i z hu hi hiz (some ⟨g, 0, none⟩) xs.length xs.length cur.toList hold (a.eval y) ys.length news (by rw [hsz]; exact h1) (by omega) (by unfold room at hr2; omega) (growslice_fits (by omega) hns)
  have hrunO : (execOp a.eval o).run P w = .ok (.value (.slice (some ⟨w.heap.size, 0, none⟩) (xs.length + ys.length) (grownCap w (xs.length + ys.length) xs.length e))) (w.drew.alloc (.cells ((cur.toList ++ news).toArray ++ Builtin.zeroCells z.cells (grownCap w (xs.length + ys.length) xs.length e - (xs.length + ys.length))) e)) := by
    have hal : c.args.map a.eval = #[a.eval x, a.eval y] := by rw [hca]; simp
    simp [execOp, ho, resolve, hc, invoke, builtin, hal, hxe, hct, hrun]
  rw [hrunO, Oper.uponIn_value, hd]
  have hflat := flat_one hx1
  have h63 : xs.length + ys.length ≤ maxLen := by unfold room at hr2; simp only [maxLen]; omega
  have hnl : news.length = ys.length := by have := h1.newsLen; simpa using this
  have hge := grownCap_ge w (xs.length + ys.length) xs.length e
  have hcm := grownCap_le_maxLen w (xs.length + ys.length) xs.length e h63
  have hgr : Grow (fun _ => False) w (w.drew.alloc (.cells ((cur.toList ++ news).toArray ++ Builtin.zeroCells z.cells (grownCap w (xs.length + ys.length) xs.length e - (xs.length + ys.length))) e)) := ⟨rfl, rfl, rfl, by simp, fun b hb _ => heap_alloc_old w.drew _ hb⟩
  have hA : ∀ b, b < w.heap.size → ¬ (E.om b ∨ B.F b) → ¬ ((E.om b ∨ w.heap.size ≤ b ∧ b < (w.drew.alloc (.cells ((cur.toList ++ news).toArray ++ Builtin.zeroCells z.cells (grownCap w (xs.length + ys.length) xs.length e - (xs.length + ys.length))) e)).heap.size) ∨ B.F b) ∧ (w.drew.alloc (.cells ((cur.toList ++ news).toArray ++ Builtin.zeroCells z.cells (grownCap w (xs.length + ys.length) xs.length e - (xs.length + ys.length))) e)).heap[b]? = w.heap[b]? := by
    intro b hb' hn'
    refine ⟨?_, hgr.block b hb' (fun h => h)⟩
    rintro ((h3 | h3) | h3)
    · exact hn' (.inl h3)
    · omega
    · exact hn' (.inr h3)
  obtain ⟨E', hE⟩ := h.newOwn hgr (fun b hb' => hb'.elim) (e := e) (xs := xs ++ ys) (x := .slice (some ⟨w.heap.size, 0, none⟩) (xs.length + ys.length) (grownCap w (xs.length + ys.length) xs.length e)) d (by
    refine ⟨cur.toList ++ news, ?_, ?_, ?_, by rw [List.length_append]; exact h63⟩
    · rw [List.length_append, hce]
      refine ⟨by simp [hcs, hnl], .inr ⟨w.heap.size, _, _, rfl, Nat.zero_le _, heap_alloc_new w.drew _, hge, hcm, ?_, ?_⟩⟩
      · rw [Array.size_append, List.size_toArray, size_zeroCells, hzs, hsz]
        simp [hcs, hnl]
        omega
      · simp only [Array.toList_append]
        have : (xs.length + ys.length) * 1 = (cur.toList ++ news).length := by simp [hcs, hnl]
        rw [this]
        exact List.take_left
    · rw [flat_append, hflat]; exact (hro.mono hA).append (h2.mono hA)
    · intro c hc
      rw [hce]
      rcases List.mem_append.1 hc with hc | hc
      · have := List.all_eq_true.1 hx1 c hc
        cases c <;> first | rfl | (simp [PV.one] at this)
      · exact h3 c hc) (fun b hb' => by
    cases hb'
    right
    exact ⟨Nat.le_refl _, by simp⟩)
  refine hk B _ _ ⟨by rw [put_defers]; exact hdf, E', ?_⟩
  exact hE
end
/-- A struct's parts, all pure. -/
def partPK : Option (Nat × Nat × Bool) → List SV → Option SV → Option (List SV)
  | some (fo, fz, _), cs, some (.pv p) => if p.cells.length = fz ∧ fo + fz ≤ cs.length then some (setCells cs (p.cells.map .pv) fo) else none
  | _, _, _ => none
def partsP (fs : List (Nat × Nat × Bool)) (s : St) : List (Nat × Operand) → Option (List SV) → Option (List SV)
  | [], cs => cs
  | (i, x) :: r, some cs => partsP fs s r (partPK fs[i]? cs (ev s x))
  | _ :: _, none => none
theorem partsP_none (fs : List (Nat × Nat × Bool)) (s : St) (l : List (Nat × Operand)) : partsP fs s l none = none := by cases l <;> rfl
theorem partsP_nil (fs : List (Nat × Nat × Bool)) (s : St) (cs : List SV) : partsP fs s [] (some cs) = some cs := rfl
theorem partsP_cons (fs : List (Nat × Nat × Bool)) (s : St) (i : Nat) (x : Operand) (r : List (Nat × Operand)) (cs : List SV) : partsP fs s ((i, x) :: r) (some cs) = partsP fs s r (partPK fs[i]? cs (ev s x)) := rfl
theorem partPK_pv (fo fz : Nat) (b : Bool) (cs : List SV) (p : PV) : partPK (some (fo, fz, b)) cs (some (.pv p)) = if p.cells.length = fz ∧ fo + fz ≤ cs.length then some (setCells cs (p.cells.map .pv) fo) else none := rfl
attribute [go_sem] partsP_nil partsP_cons partPK_pv
theorem partsP_sound {P : Program} {fs : List (Nat × Nat × Bool)} {s t : St} (h : Le s t) : ∀ {l : List (Nat × Operand)} {z cs : List SV}, partsP fs s l (some z) = some cs → fillParts P fs l z t = some (cs, t)
  | [], z, cs, hf => by cases hf; rfl
  | (i, x) :: r, z, cs, hf => by
    simp only [partsP] at hf
    cases hx : ev s x with
    | none => rw [hx] at hf; cases hfi : fs[i]? <;> simp [hfi, partPK, partsP_none] at hf
    | some v =>
      rw [hx] at hf
      cases hfi : fs[i]? with
      | none => rw [hfi] at hf; simp [partPK, partsP_none] at hf
      | some f =>
        obtain ⟨fo, fz, b⟩ := f
        rw [hfi] at hf
        cases v with
        | pv p =>
          simp only [partPK] at hf
          split at hf
          · rename_i hc
            simp only [fillParts, hfi, h.ev hx, partCells, freeze]
            rw [if_pos (by simpa using hc)]
            exact partsP_sound h hf
          · rw [partsP_none] at hf; cases hf
        | _ => simp [partPK, partsP_none] at hf
section
variable {P : Program} {R : Option Nat} {Φ : Exit → Cx → St → Prop} {k : List It} {C : Cx} {s : St} {all : Array Oper}
theorem Does.build {o : Oper} {d ty : Nat} {fs : List (Nat × Nat × Bool)} {ps : Array (Nat × Operand)} {z cs : List SV} {p : PV} (hg : o.guard = none) (hd : o.dst = some d) (ho : o.op = .build ty ps) (hT : tk P ty = .st fs) (hz : zcs P ty = some z) (h1 : fs.all (fun f => f.2.1 != 0) = true) (hf : partsP fs s ps.toList (some z) = some cs) (hm : mkAgg cs = .pv p) : Does P o d s (.pv p) := fun R Φ k C all r t hle hl hn h => by
  refine AW.step (s' := put d (.pv p) t) hg ?_ ?_
  · unfold astep
    simp only [hd, ho, reads, Bool.false_eq_true, if_false, orElse, aeff, hT, hz]
    rw [if_pos h1, partsP_sound hle hf]
    simp only [hm]
  · rw [put_fresh hl hn rfl]; exact h
theorem CK.build {id i d ty : Nat} {fs : List (Nat × Nat × Bool)} {usl : List (List Nat)} {T : List (Nat × SV)} {o : Oper} {ps : Array (Nat × Operand)} {z cs : List SV} {p : PV} (us : List Nat) (h : CK P R Φ k C id all s (i + 1) (usl ++ [us]) (T ++ [(d, .pv p)]))
    (ho : all[i]? = some o := by rfl) (hg : o.guard = none := by rfl) (hd : o.dst = some d := by rfl) (hop : o.op = .build ty ps := by rfl) (hT : tk P ty = .st fs := by simp only [go_sem] <;> rfl) (hz : zcs P ty = some z := by simp only [go_sem] <;> rfl) (hf : partsP fs (subSt T us s) ps.toList (some z) = some cs := by simp only [go_sem, ↓reduceIte] <;> rfl) (hm : mkAgg cs = .pv p := by simp only [go_sem, ↓reduceIte] <;> rfl) (h1 : fs.all (fun f => f.2.1 != 0) = true := by rfl) : CK P R Φ k C id all s i usl T := fun hi hR =>
  h (by simp [hi]) (hR.add (by rw [hi]; exact ho) hg hd (.build hg hd hop hT hz h1 hf hm))
end
end Go.Ck

set_option linter.unusedVariables false
set_option maxRecDepth 100000
set_option maxHeartbeats 400000
namespace Go.Ck
open Go.Proofs
theorem manEnc_fn (m : Man) (hv : m.v < 2 ^ 64) (hl : m.es.length < 2 ^ 29) : Fn Try.prog 11 [] [.pv (manP m)] (fun rs H' => rs = [.own 5 (bytes (encM m).1), .pv (.int .i64 (encM m).2)] ∧ H' = []) := by
  refine Fn.of_body (fn := Try.f11) (n := 83) (res := [.tmp 2, .tmp 3]) (by kernel_rfl) rfl rfl rfl rfl rfl (fun C => ?_)
  have hroom : room = 140737488355328 := rfl
  have hm : manP m = .agg [.int .u64 (m.v : Int), .sl 1 (bytes m.prev), .sl 2 (entsP m.es), .sl 1 (bytes m.root)] := rfl
  have hwf := wrongMan_fn m (by omega)
  rw [hm] at hwf ⊢
  unfold encM
  refine AW.go ?_
  refine AW.callE (fun _ => 0) hwf (.pv _ .nil) ?_
  refine AW.go ?_
  refine AW.cond rfl (fun hc => ?_) (fun hc => ?_)
  · have hw : wrongM m ≠ 0 := by
      intro h; rw [h] at hc; exact absurd hc (by decide)
    rw [if_pos hw]
    refine AW.go ?_
    refine AW.finE (.move rfl (.pv _ .nil)) rfl
  have hw : wrongM m = 0 := by
    have h2 : ((wrongM m : Int) == 0) = true := by simpa [bne] using hc
    have := eq_of_beq h2
    omega
  rw [if_neg (by simp [hw])]
  obtain ⟨w1, w2, w3, w4, w5, w6⟩ := wrongM_zero hw
  have hnn := dirS_nodup m.es
  have hnl : (dirS m.es).length ≤ m.es.length := by rw [dirS_len]; exact nmS_len _
  have hnm := dirS_mem m.es
  have hn64 : ∀ s ∈ dirS m.es, s.length ≤ 64 := by
    intro s hs
    obtain ⟨e, he, rfl⟩ := (hnm s).1 hs
    exact w6 e he
  have hnmS : ∀ e ∈ m.es, e.1 ∈ nmS m.es := fun e he => (nmS_mem m.es e.1).2 ⟨e, he, rfl⟩
  have hdf := directory_fn m.es (by omega)
  unfold bodyM headM
  obtain ⟨v, prev, es, root⟩ := m
  simp only at *
  clear hwf hw hm hc
  refine AW.go ?_
  refine AW.callE (fun _ => 6) hdf (.pv _ .nil) ?_
  have hbl := beB_len v 8
  have hh4 : ([.int .u8 67, .int .u8 83, .int .u8 75, .int .u8 49] : List PV) ++ bytes (beB v 8) = bytes ([67, 83, 75, 49] ++ beB v 8) := rfl
  have m4 : (4 ≤ maxLen) = True := eq_true (le_maxLen 4)
  have r1 : (4 + (beB v 8).length ≤ room) = True := eq_true (by omega)
  generalize hns : dirS es = ns at *
  have h5 : (5 : Nat) < 83 := by decide
  refine AW.go ?_
  refine AW.extractM rfl ⟨_, rfl⟩ ?_
  refine AW.goM 9 ?_
  refine AW.constB (n := 4) (xs := [.int .u8 67, .int .u8 83, .int .u8 75, .int .u8 49]) tk_23 tk_5 ze_5 ?_ (by decide) (by decide) rfl ?_ ?_
  · rfl
  · simp only [go_sem, ↓reduceIte]; try decide
  refine AW.go ?_
  refine AW.callE (fun _ => 0) (fix_fn v 8 hv (by omega)) (.pv _ (.pv _ .nil)) ?_
  refine AW.goM 3 ?_
  refine AW.appendLit (ys := bytes (beB v 8)) (xs := [.int .u8 67, .int .u8 83, .int .u8 75, .int .u8 49]) rfl rfl rfl rfl tk_23 rfl (by decide) (by simp only [bytes_length]; omega) (by simp only [bytes_length, List.length_cons, List.length_nil]; omega) (by simp only [bytes_length, List.length_cons, List.length_nil]; omega) ?_
  rw [hh4]
  have g1 : (([67, 83, 75, 49] ++ beB v 8 : List Nat).length + 32 ≤ room) = True := eq_true (by rw [List.length_append, hbl]; simp; omega)
  have hdl : ([67, 83, 75, 49] ++ beB v 8 ++ prev).length = 44 := by simp [hbl, w2]
  generalize [67, 83, 75, 49] ++ beB v 8 = hd0 at *
  have wl : IntKind.u64.wrap (ns.length : Int) = (ns.length : Int) := wrap_u64_lt (by omega)
  have wm : IntKind.u64.wrap (es.length : Int) = (es.length : Int) := wrap_u64_lt (by omega)
  refine AW.go ?_ (by simp only [go_sem, ↓reduceIte, w2, g1, wl] <;> rfl)
  generalize hd0 ++ prev = hd at *
  refine AW.callE (fun _ => 0) (append_fn hd ns.length (by omega) (by omega)) (.lend rfl co_5 (.pv _ .nil)) ?_
  have l1 := leb_len10 (v := ns.length) (by omega)
  have l2 := leb_len10 (v := es.length) (by omega)
  have hal : (hd ++ leb ns.length).length ≤ 54 := by rw [List.length_append]; omega
  generalize hd ++ leb ns.length = ha at *
  refine AW.go ?_
  refine AW.loopS (fun i : Nat => ⟨83, [(40, .pv (.int .i64 i)), (38, .al (.slot 5)), (39, .pv (.int .i64 ns.length)), (5, .own 9 (strs ns)), (6, .mp 6), (7, .own 5 (bytes (ha ++ (ns.take i).flatMap blkS))), (1, .ptr 1 0)], [(6, .mp (mpS (posK ns ns.length) (nmS es))), (1, .cells 26 [.pv (.int .u64 v), .pv (.sl 1 (bytes prev)), .pv (.sl 2 (entsP es)), .pv (.sl 1 (bytes root))])]⟩) (fun i => i ≤ ns.length) (fun i => ns.length - i) [40, 38, 39, 5, 6, 7, 1] [6, 1] 0 (Nat.zero_le _) ?_ (hs := by simp only [go_sem, ↓reduceIte, List.take_zero, List.flatMap_nil, List.append_nil] <;> rfl)
  rintro i hi K hK
  refine AW.go ?_
  refine AW.cond rfl (fun hc => ?_) (fun hc => ?_)
  · have hlt : i < ns.length := by have := of_decide_eq_true hc; omega
    obtain ⟨t, ht⟩ : ∃ t, ns[i]? = some t := ⟨ns[i], List.getElem?_eq_getElem hlt⟩
    have hg := strs_get ht
    have htl : t.length ≤ 64 := hn64 t (List.mem_of_getElem? ht)
    have htm : t.length ≤ maxLen := Nat.le_trans htl (le_maxLen 64)
    have e1 : IntKind.i64.wrap ((i : Int) + 1) = ((i + 1 : Nat) : Int) := wrap_i64_succ (by omega)
    have l1 : (i < ns.length) = True := eq_true hlt
    have hfl := flatMap_le blkS 74 (ns.take i) (fun s hs => blkS_len s (hn64 s (List.mem_of_mem_take hs)))
    rw [List.length_take] at hfl
    have hfs := flatMap_take blkS ht
    have hbl := blkS_len t htl
    have hnb : (nb t).length = t.length := by simp [nb]
    refine AW.go ?_ (by simp only [go_sem, ↓reduceIte, hg, l1] <;> rfl)
    refine AW.ofStr htm tk_9 tk_23 tk_5 ?_
    rw [strBytes_nb]
    refine AW.go ?_
    refine AW.callE (fun _ => 0) (block_fn (nb t) (by omega)) (.pv _ .nil) ?_
    have eb : leb (nb t).length ++ nb t = blkS t := by rw [hnb]; rfl
    rw [eb]
    have hcl : ((ha ++ (ns.take i).flatMap blkS).length + (blkS t).length ≤ room) = True := eq_true (by rw [List.length_append]; omega)
    have hfe : ha ++ (ns.take i).flatMap blkS ++ blkS t = ha ++ (ns.take (i + 1)).flatMap blkS := by rw [hfs, List.append_assoc]
    generalize ha ++ (ns.take i).flatMap blkS = acc at *
    generalize blkS t = bt at *
    refine AW.go ?_ (by simp only [go_sem, ↓reduceIte, hcl, e1] <;> rfl)
    exact AW.again hK (i + 1) (by omega) (by omega) (hs := by simp only [go_sem, ↓reduceIte, hfe] <;> rfl)
  have hge : i = ns.length := by have := of_decide_eq_false hc; omega
  subst hge
  have hfl := flatMap_le blkS 74 ns (fun s hs => blkS_len s (hn64 s hs))
  have hbl : (ha ++ ns.flatMap blkS).length ≤ 54 + 74 * ns.length := by rw [List.length_append]; omega
  rw [List.take_length]
  generalize ha ++ ns.flatMap blkS = hb at *
  refine AW.go ?_ (by simp only [go_sem, ↓reduceIte, wm] <;> rfl)
  refine AW.callE (fun _ => 0) (append_fn [] es.length (by omega) (by simp; omega)) (.nilsP 1 (.pv _ .nil)) ?_
  try rw [List.nil_append]
  have hcl : (hb.length + (leb es.length).length ≤ room) = True := eq_true (by omega)
  have hdl : (hb ++ leb es.length).length ≤ 64 + 74 * ns.length := by rw [List.length_append]; omega
  refine AW.go ?_ (by simp only [go_sem, ↓reduceIte, hcl] <;> rfl)
  generalize hb ++ leb es.length = hh at *
  refine AW.loopS (fun i : Nat => ⟨83, [(60, .pv (.int .i64 i)), (58, .pv (.sl 2 (entsP es))), (59, .pv (.int .i64 es.length)), (6, .mp 6), (7, .own 5 (bytes (hh ++ (es.take i).flatMap (entB ns)))), (1, .ptr 1 0)], [(6, .mp (mpS (posK ns ns.length) (nmS es))), (1, .cells 26 [.pv (.int .u64 v), .pv (.sl 1 (bytes prev)), .pv (.sl 2 (entsP es)), .pv (.sl 1 (bytes root))])]⟩) (fun i => i ≤ es.length) (fun i => es.length - i) [60, 58, 59, 6, 7, 1] [6, 1] 0 (Nat.zero_le _) ?_ (hs := by simp only [go_sem, ↓reduceIte, List.take_zero, List.flatMap_nil, List.append_nil] <;> rfl)
  rintro i hi K hK
  refine AW.go ?_
  refine AW.cond rfl (fun hc => ?_) (fun hc => ?_)
  · have hlt : i < es.length := by have := of_decide_eq_true hc; omega
    obtain ⟨e, he⟩ : ∃ e, es[i]? = some e := ⟨es[i], List.getElem?_eq_getElem hlt⟩
    have hg := entsP_get he
    have hem := List.mem_of_getElem? he
    have e1 : IntKind.i64.wrap ((i : Int) + 1) = ((i + 1 : Nat) : Int) := wrap_i64_succ (by omega)
    have hfl := flatMap_le (entB ns) 11 (es.take i) (fun s hs => entB_len ns s (by omega))
    rw [List.length_take] at hfl
    have hfs := flatMap_take (entB ns) he
    have hel := entB_len ns e (by omega)
    have hml := mlook_mpS (posK ns ns.length) e.1 (nmS es)
    rw [if_pos (hnmS e hem), posK_all ns e.1 ((hnm e.1).2 ⟨e, hem, rfl⟩)] at hml
    have hix := idx_le ns e.1
    obtain ⟨q1, q2⟩ := w4 e hem
    have e2 : IntKind.u64.wrap ((ns.idxOf e.1 : Nat) : Int) = ((ns.idxOf e.1 : Nat) : Int) := wrap_u64_lt (by omega)
    have e3 : IntKind.u8.wrap e.2 = ((e.2.toNat : Nat) : Int) := by
      have : e.2 = ((e.2.toNat : Nat) : Int) := by omega
      rw [this, wrap_u8, Int.toNat_natCast, Nat.mod_eq_of_lt (by omega)]
    have heB : entB ns e = leb (ns.idxOf e.1) ++ [e.2.toNat] := rfl
    have hlx := leb_len10 (v := ns.idxOf e.1) (by omega)
    have hacl : (hh ++ (es.take i).flatMap (entB ns)).length ≤ 64 + 74 * ns.length + 11 * es.length := by rw [List.length_append]; omega
    have hfe : hh ++ (es.take i).flatMap (entB ns) ++ leb (ns.idxOf e.1) ++ [e.2.toNat] = hh ++ (es.take (i + 1)).flatMap (entB ns) := by rw [hfs, heB]; simp
    generalize hh ++ (es.take i).flatMap (entB ns) = acc at *
    generalize ns.idxOf e.1 = ix at *
    refine AW.go ?_ (by simp only [go_sem, ↓reduceIte, hg] <;> rfl)
    refine AW.lookup rfl rfl rfl hml tk_47 (by simp only [go_sem] <;> rfl) ze_3 ?_
    refine AW.go ?_ (by simp only [go_sem, ↓reduceIte, mval, e2] <;> rfl)
    refine AW.callE (fun _ => 0) (append_fn [] ix (by omega) (by simp; omega)) (.nilsP 1 (.pv _ .nil)) ?_
    try rw [List.nil_append]
    have hcl : (acc.length + (leb ix).length ≤ room) = True := eq_true (by omega)
    have hcl2 : ((acc ++ leb ix).length + 1 ≤ room) = True := eq_true (by rw [List.length_append]; omega)
    refine AW.go ?_ (by simp only [go_sem, ↓reduceIte, hcl, hcl2, e1, e3, bytes_one, List.length_cons, List.length_nil, Nat.zero_add] <;> rfl)
    exact AW.again hK (i + 1) (by omega) (by omega) (hs := by simp only [go_sem, ↓reduceIte, hfe] <;> rfl)
  have hge : i = es.length := by have := of_decide_eq_false hc; omega
  subst hge
  have hfl := flatMap_le (entB ns) 11 es (fun s hs => entB_len ns s (by omega))
  rw [List.take_length]
  have hcl : ((hh ++ es.flatMap (entB ns)).length + 32 ≤ room) = True := eq_true (by rw [List.length_append]; omega)
  generalize hh ++ es.flatMap (entB ns) = hz at *
  refine AW.go ?_ (by simp only [go_sem, ↓reduceIte, w3, hcl] <;> rfl)
  refine AW.finE (.move rfl (.pv _ .nil)) rfl
end Go.Ck

set_option linter.unusedVariables false
namespace Go.Ck
def insS (s : List UInt8) : List (List UInt8) → List (List UInt8)
  | [] => [s]
  | a :: r => if a < s then a :: insS s r else if a = s then a :: r else s :: a :: r
def tnS (es : List Ent) : List (List UInt8) := es.foldl (fun acc e => insS e.1 acc) []
theorem tnS_succ {es : List Ent} {i : Nat} {e : Ent} (h : es[i]? = some e) : tnS (es.take (i + 1)) = insS e.1 (tnS (es.take i)) := by
  unfold tnS; rw [List.take_add_one, h]; simp
theorem insS_mem (s t : List UInt8) : ∀ ls, t ∈ insS s ls ↔ t = s ∨ t ∈ ls
  | [] => by simp [insS]
  | a :: r => by
    unfold insS
    split
    · rw [List.mem_cons, insS_mem s t r, List.mem_cons]
      constructor
      · rintro (h | h | h)
        · exact .inr (.inl h)
        · exact .inl h
        · exact .inr (.inr h)
      · rintro (h | h | h)
        · exact .inr (.inl h)
        · exact .inl h
        · exact .inr (.inr h)
    · split
      · rename_i h1 h2
        subst h2
        simp
      · simp
theorem insS_len (s : List UInt8) : ∀ ls, (insS s ls).length ≤ ls.length + 1
  | [] => by simp [insS]
  | a :: r => by
    have := insS_len s r
    unfold insS
    split
    · simp only [List.length_cons]; omega
    · split <;> simp
theorem lt_of_le_ne {a b : List UInt8} (h : a ≤ b) (hn : a ≠ b) : a < b := by
  refine Classical.byContradiction (fun h2 => hn ?_)
  exact List.le_antisymm h (List.not_lt.1 h2)
theorem insS_sorted (s : List UInt8) : ∀ ls, ls.Pairwise (· < ·) → (insS s ls).Pairwise (· < ·)
  | [], _ => by simp [insS]
  | a :: r, h => by
    rw [List.pairwise_cons] at h
    unfold insS
    split
    · rename_i h1
      rw [List.pairwise_cons]
      refine ⟨fun b hb => ?_, insS_sorted s r h.2⟩
      rcases (insS_mem s b r).1 hb with rfl | hb
      · exact h1
      · exact h.1 b hb
    · split
      · exact List.pairwise_cons.2 h
      · rename_i h1 h2
        have hs : s < a := lt_of_le_ne (List.not_lt.1 h1) (fun e => h2 e.symm)
        rw [List.pairwise_cons]
        refine ⟨fun b hb => ?_, List.pairwise_cons.2 h⟩
        rcases List.mem_cons.1 hb with rfl | hb
        · exact hs
        · exact List.lt_trans hs (h.1 b hb)
theorem insS_at (s : List UInt8) : ∀ (ls : List (List UInt8)) (j : Nat), j ≤ ls.length → (∀ a ∈ ls.take j, a < s) → (∀ a, ls[j]? = some a → ¬ a < s) → insS s ls = if ls[j]? = some s then ls else ls.take j ++ s :: ls.drop j
  | [], j, hj, h1, h2 => by
    have : j = 0 := by simpa using hj
    subst this; simp [insS]
  | a :: r, 0, hj, h1, h2 => by
    have := h2 a rfl
    unfold insS
    rw [if_neg this]
    simp
  | a :: r, j + 1, hj, h1, h2 => by
    have h3 : a < s := h1 a (by simp)
    unfold insS
    rw [if_pos h3, insS_at s r j (by simpa using hj) (fun b hb => h1 b (by simp [hb])) (fun b hb => h2 b (by simpa using hb))]
    simp only [List.getElem?_cons_succ, List.take_succ_cons, List.drop_succ_cons, List.cons_append]
    split <;> rfl
theorem tnF_sorted : ∀ (es : List Ent) (acc : List (List UInt8)), acc.Pairwise (· < ·) → (es.foldl (fun acc e => insS e.1 acc) acc).Pairwise (· < ·)
  | [], _, h => h
  | e :: r, _, h => tnF_sorted r _ (insS_sorted e.1 _ h)
theorem tnS_sorted (es : List Ent) : (tnS es).Pairwise (· < ·) := tnF_sorted es [] (by simp)
theorem tnF_mem (s : List UInt8) : ∀ (es : List Ent) (acc : List (List UInt8)), s ∈ es.foldl (fun acc e => insS e.1 acc) acc ↔ s ∈ acc ∨ ∃ e ∈ es, e.1 = s
  | [], acc => by simp
  | e :: r, acc => by
    simp only [List.foldl_cons]
    rw [tnF_mem s r, insS_mem]
    simp only [List.mem_cons, exists_eq_or_imp]
    constructor
    · rintro ((h | h) | h)
      · exact .inr (.inl h.symm)
      · exact .inl h
      · exact .inr (.inr h)
    · rintro (h | h | h)
      · exact .inl (.inr h)
      · exact .inl (.inl h.symm)
      · exact .inr h
theorem tnS_mem (es : List Ent) (s : List UInt8) : s ∈ tnS es ↔ ∃ e ∈ es, e.1 = s := by
  unfold tnS; rw [tnF_mem]; simp
theorem tnF_len : ∀ (es : List Ent) (acc : List (List UInt8)), (es.foldl (fun acc e => insS e.1 acc) acc).length ≤ acc.length + es.length
  | [], acc => by simp
  | e :: r, acc => by
    have := tnF_len r (insS e.1 acc)
    have h2 := insS_len e.1 acc
    simp only [List.foldl_cons, List.length_cons]; omega
theorem tnS_len (es : List Ent) : (tnS es).length ≤ es.length := by have := tnF_len es []; simpa [tnS] using this
theorem sorted_ext {l m : List (List UInt8)} (hl : l.Pairwise (· < ·)) (hm : m.Pairwise (· < ·)) (h : ∀ x, x ∈ l ↔ x ∈ m) : l = m := by
  have n1 : l.Nodup := hl.imp (fun {a b} h e => by subst e; exact List.lt_irrefl a h)
  have n2 : m.Nodup := hm.imp (fun {a b} h e => by subst e; exact List.lt_irrefl a h)
  have hp : l.Perm m := (List.perm_ext_iff_of_nodup n1 n2).2 h
  exact List.Perm.eq_of_pairwise (fun a b _ _ h1 h2 => absurd (List.lt_trans h1 h2) (List.lt_irrefl a)) hl hm hp
theorem dirS_sorted (es : List Ent) : (dirS es).Pairwise (· < ·) := by
  have h1 : (dirS es).Pairwise (fun a b => decide (a ≤ b) = true) := List.pairwise_mergeSort (fun a b c h1 h2 => by simp only [decide_eq_true_eq] at *; exact List.le_trans h1 h2) (fun a b => by
    rcases List.le_total a b with h | h
    · simp [h]
    · simp [h]) _
  have h2 := dirS_nodup es
  have h3 := h1.and h2
  exact h3.imp (fun {a b} h => lt_of_le_ne (by simpa using h.1) h.2)
theorem tnS_dir (es : List Ent) : tnS es = dirS es := sorted_ext (tnS_sorted es) (dirS_sorted es) (fun x => by rw [tnS_mem, dirS_mem])
/-- Where a tenant stands. -/
theorem idx_at {ls : List (List UInt8)} {s : List UInt8} {i : Nat} (h : ls[i]? = some s) (hn : s ∉ ls.take i) : ls.idxOf s = i := by
  have hi : i < ls.length := (List.getElem?_eq_some_iff.1 h).1
  have e1 : ls = ls.take i ++ s :: ls.drop (i + 1) := by
    rw [← (List.getElem?_eq_some_iff.1 h).2, List.getElem_cons_drop, List.take_append_drop]
  rw [e1, List.idxOf_append, if_neg hn]
  simp
  omega
end Go.Ck

set_option linter.unusedVariables false
set_option maxRecDepth 100000
set_option maxHeartbeats 400000
namespace Go.Ck
open Go.Proofs
theorem badB_iff (e : Ent) : badB e = (decide (e.2 < 0) || decide (e.2 > 8)) := by
  unfold badB
  rw [Bool.eq_iff_iff]
  have := padSz_zero e.2
  simp only [beq_iff_eq, this, Bool.or_eq_true, decide_eq_true_eq]
  omega
theorem refWrong_fn (m : Man) (hl : m.es.length < 2 ^ 40) : Fn Try.prog 26 [] [.pv (manP m)] (fun rs H' => rs = [.pv (.int .i64 (wrongM m : Nat))] ∧ H' = []) := by
  refine Fn.of_body (fn := Try.f26) (n := 62) (res := [.tmp 2]) (by kernel_rfl) rfl rfl rfl rfl rfl (fun C => ?_)
  obtain ⟨v, prev, es, root⟩ := m
  simp only at hl
  have hm : manP ⟨v, prev, es, root⟩ = .agg [.int .u64 (v : Int), .sl 1 (bytes prev), .sl 2 (entsP es), .sl 1 (bytes root)] := rfl
  rw [hm]
  unfold wrongM
  simp only
  obtain ⟨b1, hb1⟩ : ∃ b, b = decide (v = 18446744073709551615) := ⟨_, rfl⟩
  obtain ⟨b2, hb2⟩ : ∃ b, b = decide (prev.length ≠ 32) := ⟨_, rfl⟩
  obtain ⟨b3, hb3⟩ : ∃ b, b = decide (root.length ≠ 32) := ⟨_, rfl⟩
  have d1 : ((v : Int) == 18446744073709551615) = b1 := by rw [hb1, Bool.eq_iff_iff]; simp; try omega
  have d2 : ((prev.length : Int) != 32) = b2 := by rw [hb2, Bool.eq_iff_iff]; simp; omega
  have d3 : ((root.length : Int) != 32) = b3 := by rw [hb3, Bool.eq_iff_iff]; simp; omega
  have d2' : (prev.length != 32) = b2 := by rw [hb2, Bool.eq_iff_iff]; simp
  have d3' : (root.length != 32) = b3 := by rw [hb3, Bool.eq_iff_iff]; simp
  have hcond : (v = 18446744073709551615 ∨ prev.length ≠ 32 ∨ root.length ≠ 32) ↔ (b1 || (b2 || b3)) = true := by
    rw [hb1, hb2, hb3]; simp
  by_cases hB : (b1 || (b2 || b3)) = true
  · cases b1 with
    | true =>
      rw [if_pos (hcond.2 rfl)]
      refine AW.gg ?_ (by simp only [go_sem, ↓reduceIte, d1, d2, d3, d2', d3'] <;> rfl)
      refine AW.condT rfl ?_
      refine AW.go ?_
      exact AW.finE (.pv _ .nil) rfl
    | false =>
      cases b2 with
      | true =>
        rw [if_pos (hcond.2 rfl)]
        refine AW.gg ?_ (by simp only [go_sem, ↓reduceIte, d1, d2, d3, d2', d3'] <;> rfl)
        refine AW.condT rfl ?_
        refine AW.go ?_
        exact AW.finE (.pv _ .nil) rfl
      | false =>
        cases b3 with
        | true =>
          rw [if_pos (hcond.2 rfl)]
          refine AW.gg ?_ (by simp only [go_sem, ↓reduceIte, d1, d2, d3, d2', d3'] <;> rfl)
          refine AW.condT rfl ?_
          refine AW.go ?_
          exact AW.finE (.pv _ .nil) rfl
        | false => cases hB
  rw [if_neg (fun h => hB (hcond.1 h))]
  have hb1 : b1 = false := by cases b1 <;> simp_all
  have hb2 : b2 = false := by cases b2 <;> simp_all
  have hb3 : b3 = false := by cases b3 <;> simp_all
  subst hb1 hb2 hb3
  refine AW.gg ?_ (by simp only [go_sem, ↓reduceIte, d1, d2, d3, d2', d3'] <;> rfl)
  refine AW.condF rfl ?_
  refine AW.go ?_
  refine AW.loopS (fun i : Nat => ⟨62, [(3, .pv (.int .i64 i)), (1, .ptr 1 0)], [(1, .cells 26 [.pv (.int .u64 (v : Int)), .pv (.sl 1 (bytes prev)), .pv (.sl 2 (entsP es)), .pv (.sl 1 (bytes root))])]⟩) (fun i => i ≤ es.length ∧ (es.take i).any badB = false) (fun i => es.length - i) [3, 1] [1] 0 ⟨Nat.zero_le _, rfl⟩ ?_
  rintro i ⟨hi, hn⟩ K hK
  refine AW.go ?_
  refine AW.cond rfl (fun hc => ?_) (fun hc => ?_)
  · have hlt : i < es.length := by have := of_decide_eq_true hc; omega
    obtain ⟨e, he⟩ : ∃ e, es[i]? = some e := ⟨es[i], List.getElem?_eq_getElem hlt⟩
    have hg := entsP_get he
    have hst : (es.take (i + 1)).any badB = badB e := by rw [List.take_add_one, he, List.any_append, hn]; simp
    have e1 : IntKind.i64.wrap ((i : Int) + 1) = ((i + 1 : Nat) : Int) := wrap_i64_succ (by omega)
    have d5 := badB_iff e
    obtain ⟨c1, hc1⟩ : ∃ b, b = decide (e.2 < 0) := ⟨_, rfl⟩
    obtain ⟨c2, hc2⟩ : ∃ b, b = decide (e.2 > 8) := ⟨_, rfl⟩
    rw [← hc1, ← hc2] at d5
    have c1' := hc1.symm
    have c2' := hc2.symm
    cases c1 with
    | true =>
      rw [if_pos (List.any_eq_true.2 ⟨e, List.mem_of_getElem? he, d5⟩)]
      refine AW.gg ?_ (by simp only [go_sem, ↓reduceIte, hg, c1', c2'] <;> rfl)
      refine AW.condT rfl ?_
      refine AW.go ?_
      exact AW.finE (.pv _ .nil) rfl
    | false =>
      cases c2 with
      | true =>
        rw [if_pos (List.any_eq_true.2 ⟨e, List.mem_of_getElem? he, d5⟩)]
        refine AW.gg ?_ (by simp only [go_sem, ↓reduceIte, hg, c1', c2'] <;> rfl)
        refine AW.condT rfl ?_
        refine AW.go ?_
        exact AW.finE (.pv _ .nil) rfl
      | false =>
        refine AW.gg ?_ (by simp only [go_sem, ↓reduceIte, hg, c1', c2'] <;> rfl)
        refine AW.condF rfl ?_
        refine AW.go ?_ (by simp only [go_sem, ↓reduceIte, e1] <;> rfl)
        exact AW.again hK (i + 1) (by exact ⟨by omega, by rw [hst]; exact d5⟩) (by omega)
  have hge : i = es.length := by have := of_decide_eq_false hc; omega
  subst hge
  rw [List.take_length] at hn
  rw [if_neg (by rw [hn]; simp)]
  by_cases hL : 1048576 < es.length
  · have d6 : decide ((es.length : Int) > 1048576) = true := decide_eq_true (by omega)
    have d6' : decide (1048576 < es.length) = true := decide_eq_true hL
    rw [if_pos (.inl hL)]
    refine AW.gg ?_ (by simp only [go_sem, ↓reduceIte, d6, d6'] <;> rfl)
    refine AW.condT rfl ?_
    refine AW.go ?_
    exact AW.finE (.pv _ .nil) rfl
  have d6 : decide ((es.length : Int) > 1048576) = false := decide_eq_false (by omega)
  have d6' : decide (1048576 < es.length) = false := decide_eq_false hL
  refine AW.gg ?_ (by simp only [go_sem, ↓reduceIte, d6, d6'] <;> rfl)
  refine AW.condF rfl ?_
  refine AW.go ?_
  refine AW.loopS (fun i : Nat => ⟨62, [(4, .pv (.int .i64 i)), (1, .ptr 1 0)], [(1, .cells 26 [.pv (.int .u64 (v : Int)), .pv (.sl 1 (bytes prev)), .pv (.sl 2 (entsP es)), .pv (.sl 1 (bytes root))])]⟩) (fun i => i ≤ es.length ∧ (es.take i).any longB = false) (fun i => es.length - i) [4, 1] [1] 0 ⟨Nat.zero_le _, rfl⟩ ?_
  rintro i ⟨hi, hn⟩ K hK
  refine AW.go ?_
  refine AW.cond rfl (fun hc => ?_) (fun hc => ?_)
  · have hlt : i < es.length := by have := of_decide_eq_true hc; omega
    obtain ⟨e, he⟩ : ∃ e, es[i]? = some e := ⟨es[i], List.getElem?_eq_getElem hlt⟩
    have hg := entsP_get he
    have hst : (es.take (i + 1)).any longB = longB e := by rw [List.take_add_one, he, List.any_append, hn]; simp
    have e1 : IntKind.i64.wrap ((i : Int) + 1) = ((i + 1 : Nat) : Int) := wrap_i64_succ (by omega)
    have d7 : decide (64 < e.1.length) = longB e := rfl
    have d7' : decide ((e.1.length : Int) > 64) = longB e := by unfold longB; rw [Bool.eq_iff_iff]; simp; omega
    cases hlb : longB e with
    | true =>
      rw [if_pos (.inr (List.any_eq_true.2 ⟨e, List.mem_of_getElem? he, hlb⟩))]
      refine AW.gg ?_ (by simp only [go_sem, ↓reduceIte, hg, d7, d7', hlb] <;> rfl)
      refine AW.condT rfl ?_
      refine AW.go ?_
      exact AW.finE (.pv _ .nil) rfl
    | false =>
      refine AW.gg ?_ (by simp only [go_sem, ↓reduceIte, hg, d7, d7', hlb] <;> rfl)
      refine AW.condF rfl ?_
      refine AW.go ?_ (by simp only [go_sem, ↓reduceIte, e1] <;> rfl)
      exact AW.again hK (i + 1) (by exact ⟨by omega, by rw [hst]; exact hlb⟩) (by omega)
  have hge : i = es.length := by have := of_decide_eq_false hc; omega
  subst hge
  rw [List.take_length] at hn
  rw [if_neg (by rw [hn]; simp [hL])]
  refine AW.go ?_
  exact AW.finE (.pv _ .nil) rfl
theorem place_fn (ls : List (List UInt8)) (s : List UInt8) (hm : s ∈ ls) (hl : ls.length < 2 ^ 40) : Fn Try.prog 31 [] [.pv (.sl 1 (strs ls)), .pv (.str s)] (fun rs H' => rs = [.pv (.int .i64 (ls.idxOf s : Nat))] ∧ H' = []) := by
  refine Fn.of_body (fn := Try.f31) (n := 19) (res := [.tmp 4]) (by kernel_rfl) rfl rfl rfl rfl rfl (fun C => ?_)
  refine AW.go ?_
  refine AW.loopS (fun i : Nat => ⟨19, [(5, .pv (.int .i64 i)), (0, .pv (.sl 1 (strs ls))), (1, .pv (.str s))], []⟩) (fun i => i ≤ ls.length ∧ s ∉ ls.take i) (fun i => ls.length - i) [5, 0, 1] [] 0 ⟨Nat.zero_le _, by simp⟩ ?_
  rintro i ⟨hi, hn⟩ K hK
  refine AW.go ?_
  refine AW.cond rfl (fun hc => ?_) (fun hc => ?_)
  · have hlt : i < ls.length := by have := of_decide_eq_true hc; omega
    obtain ⟨t, ht⟩ : ∃ t, ls[i]? = some t := ⟨ls[i], List.getElem?_eq_getElem hlt⟩
    have hg := strs_get ht
    have e1 : IntKind.i64.wrap ((i : Int) + 1) = ((i + 1 : Nat) : Int) := wrap_i64_succ (by omega)
    refine AW.go ?_ (by simp only [go_sem, ↓reduceIte, hg] <;> rfl)
    by_cases hts : t = s
    · subst hts
      have d : (t == t) = true := by simp
      have hix := idx_at ht hn
      rw [hix]
      refine AW.gg ?_ (by simp only [go_sem, ↓reduceIte, d] <;> rfl)
      refine AW.condT rfl ?_
      refine AW.go ?_
      exact AW.finE (.pv _ .nil) rfl
    · have d : (t == s) = false := by simpa using hts
      refine AW.gg ?_ (by simp only [go_sem, ↓reduceIte, d] <;> rfl)
      refine AW.condF rfl ?_
      refine AW.go ?_ (by simp only [go_sem, ↓reduceIte, e1] <;> rfl)
      exact AW.again hK (i + 1) (by exact ⟨hlt, by rw [List.take_add_one, ht]; simp [hn]; exact fun h => hts h.symm⟩) (by omega)
  have hge : i = ls.length := by have := of_decide_eq_false hc; omega
  subst hge
  rw [List.take_length] at hn
  exact absurd hm hn
end Go.Ck

set_option linter.unusedVariables false
set_option maxRecDepth 100000
set_option maxHeartbeats 400000
namespace Go.Ck
open Go.Proofs
theorem strs_take (ls : List (List UInt8)) (j : Nat) : (strs ls).take j = strs (ls.take j) := by simp [strs, List.map_take]
theorem strs_drop (ls : List (List UInt8)) (j : Nat) : (strs ls).drop j = strs (ls.drop j) := by simp [strs, List.map_drop]
theorem strs_ins (a b : List (List UInt8)) (s : List UInt8) : strs a ++ [.str s] ++ strs b = strs (a ++ s :: b) := by simp [strs]
theorem tenants_fn (es : List Ent) (hl : es.length < 2 ^ 30) : Fn Try.prog 28 [] [.pv (.sl 2 (entsP es))] (fun rs H' => rs = [.pv (.sl 1 (strs (dirS es)))] ∧ H' = []) := by
  refine Fn.of_body (fn := Try.f28) (n := 63) (res := [.tmp 2]) (by kernel_rfl) rfl rfl rfl rfl rfl (fun C => ?_)
  have hroom : room = 140737488355328 := rfl
  rw [← tnS_dir]
  refine AW.go ?_
  refine AW.freeze (p := .slot 3) (by simp only [go_sem, ↓reduceIte, freeze, freezeO] <;> rfl) ?_
  refine AW.loopS (fun i : Nat => ⟨63, [(4, .pv (.int .i64 i)), (0, .pv (.sl 2 (entsP es))), (3, .pv (.sl 1 (strs (tnS (es.take i)))))], []⟩) (fun i => i ≤ es.length) (fun i => es.length - i) [4, 0, 3] [] 0 (Nat.zero_le _) ?_
  rintro i hi K hK
  have hnl := tnS_len (es.take i)
  rw [List.length_take] at hnl
  have hsrt := tnS_sorted (es.take i)
  refine AW.go ?_
  refine AW.cond rfl (fun hc => ?_) (fun hc => ?_)
  · have hlt : i < es.length := by have := of_decide_eq_true hc; omega
    obtain ⟨e, he⟩ : ∃ e, es[i]? = some e := ⟨es[i], List.getElem?_eq_getElem hlt⟩
    have hg := entsP_get he
    have hsu := tnS_succ he
    have e1 : IntKind.i64.wrap ((i : Int) + 1) = ((i + 1 : Nat) : Int) := wrap_i64_succ (by omega)
    generalize tnS (es.take i) = ls at *
    have hlts : (i < es.length) = True := eq_true hlt
    refine AW.go ?_
    refine AW.loopS (fun j : Nat => ⟨63, [(5, .pv (.int .i64 j)), (4, .pv (.int .i64 i)), (0, .pv (.sl 2 (entsP es))), (3, .pv (.sl 1 (strs ls)))], []⟩) (fun j => j ≤ ls.length ∧ ∀ a ∈ ls.take j, a < e.1) (fun j => ls.length - j) [5, 4, 0, 3] [] 0 ⟨Nat.zero_le _, by simp⟩ ?_
    rintro j ⟨hj, hja⟩ K2 hK2
    have hjr : (j ≤ ls.length) = True := eq_true hj
    have htk := strs_take ls j
    have hdr := strs_drop ls j
    have ej : IntKind.i64.wrap ((j : Int) + 1) = ((j + 1 : Nat) : Int) := wrap_i64_succ (by omega)
    have hii : ∀ h : ls[j]? ≠ some e.1, ∀ h2 : (∀ a, ls[j]? = some a → ¬ a < e.1), insS e.1 ls = ls.take j ++ e.1 :: ls.drop j := fun h h2 => by
      rw [insS_at e.1 ls j hj hja h2, if_neg h]
    refine AW.go ?_
    refine via (T := insS e.1 ls = ls.take j ++ e.1 :: ls.drop j → ?Tins) (fun hT => ?_) ?_; rotate_left
    · rcases Nat.lt_or_ge j ls.length with hjl | hjl
      · obtain ⟨t, ht⟩ : ∃ t, ls[j]? = some t := ⟨ls[j], List.getElem?_eq_getElem hjl⟩
        have hgt := strs_get ht
        have djl : decide (j < ls.length) = true := decide_eq_true hjl
        have djl' : decide ((j : Int) < (ls.length : Int)) = true := decide_eq_true (by omega)
        have hbl : Op.bytesLess t e.1 = decide (t < e.1) := Go.Proofs.bytesLess_eq t e.1
        by_cases hlt2 : t < e.1
        · have dlt : decide (t < e.1) = true := decide_eq_true hlt2
          refine AW.sr mixed (by decide +kernel) ?_ (by simp only [go_sem, ↓reduceIte, hg, hgt, djl, djl', hbl, dlt] <;> rfl)
          refine AW.go ?_
          refine AW.condT rfl ?_
          refine AW.go ?_ (by simp only [go_sem, ↓reduceIte, ej] <;> rfl)
          exact AW.again hK2 (j + 1) (by exact ⟨hjl, by rw [List.take_add_one, ht]; intro a ha; rcases List.mem_append.1 ha with ha | ha; exact hja a ha; simp at ha; subst ha; exact hlt2⟩) (by omega)
        · have dlt : decide (t < e.1) = false := decide_eq_false hlt2
          refine AW.sr mixed (by decide +kernel) ?_ (by simp only [go_sem, ↓reduceIte, hg, hgt, djl, djl', hbl, dlt] <;> rfl)
          refine AW.go ?_
          refine AW.condF rfl ?_
          refine AW.go ?_
          by_cases heq : t = e.1
          · have de : (t == e.1) = true := by simpa using heq
            refine AW.sr mixed (by decide +kernel) ?_ (by simp only [go_sem, ↓reduceIte, hg, hgt, djl, djl', de] <;> rfl)
            refine AW.go ?_
            refine AW.condT rfl ?_
            have hin : insS e.1 ls = ls := by
              rw [insS_at e.1 ls j hj hja (fun a ha => by rw [ht] at ha; cases ha; exact hlt2), if_pos (by rw [ht, heq])]
            rw [hin] at hsu
            refine AW.go ?_ (by simp only [go_sem, ↓reduceIte, e1] <;> rfl)
            exact AW.again hK (i + 1) (by omega) (by omega) (hs := by simp only [go_sem, ↓reduceIte, hsu] <;> rfl)
          · have de : (t == e.1) = false := by simpa using heq
            refine AW.sr mixed (by decide +kernel) ?_ (by simp only [go_sem, ↓reduceIte, hg, hgt, djl, djl', de] <;> rfl)
            refine AW.go ?_
            refine AW.condF rfl ?_
            refine AW.go ?_
            refine AW.keepB [5, 4, 0, 3] [] (s' := ⟨63, [(5, .pv (.int .i64 j)), (4, .pv (.int .i64 i)), (0, .pv (.sl 2 (entsP es))), (3, .pv (.sl 1 (strs ls)))], []⟩) (by simp only [go_sem, ↓reduceIte]) (by simp only [go_sem, ↓reduceIte] <;> rfl) ?_
            exact hT () (hii (by rw [ht]; exact fun h => heq (by cases h; rfl)) (fun a ha => by rw [ht] at ha; cases ha; exact hlt2))
      · have djl : decide (j < ls.length) = false := decide_eq_false (by omega)
        have djl' : decide ((j : Int) < (ls.length : Int)) = false := decide_eq_false (by omega)
        have hnone : ls[j]? = none := List.getElem?_eq_none hjl
        refine AW.sr mixed (by decide +kernel) ?_ (by simp only [go_sem, ↓reduceIte, hg, djl, djl'] <;> rfl)
        refine AW.go ?_
        refine AW.condF rfl ?_
        refine AW.go ?_
        refine AW.sr mixed (by decide +kernel) ?_ (by simp only [go_sem, ↓reduceIte, hg, djl, djl'] <;> rfl)
        refine AW.go ?_
        refine AW.condF rfl ?_
        refine AW.go ?_
        refine AW.keepB [5, 4, 0, 3] [] (s' := ⟨63, [(5, .pv (.int .i64 j)), (4, .pv (.int .i64 i)), (0, .pv (.sl 2 (entsP es))), (3, .pv (.sl 1 (strs ls)))], []⟩) (by simp only [go_sem, ↓reduceIte]) (by simp only [go_sem, ↓reduceIte] <;> rfl) ?_
        exact hT () (hii (by rw [hnone]; simp) (fun a ha => by rw [hnone] at ha; cases ha))
    intro hin
    rw [hin] at hsu
    have hA : (ls.take j).length = j := by rw [List.length_take]; omega
    have hB : (ls.drop j).length = ls.length - j := by rw [List.length_drop]
    have hfin := strs_ins (ls.take j) (ls.drop j) e.1
    rw [← hsu] at hfin
    generalize ls.take j = A at *
    generalize ls.drop j = B at *
    have q1 : (A.length * 16 ≤ room) = True := eq_true (by omega)
    have q2 : (A.length ≤ room) = True := eq_true (by omega)
    have q3 : ((A.length + 1) * 16 ≤ room) = True := eq_true (by omega)
    have q4 : (A.length + 1 ≤ room) = True := eq_true (by omega)
    have q5 : ((A.length + 1 + B.length) * 16 ≤ room) = True := eq_true (by omega)
    have q6 : (A.length + 1 + B.length ≤ room) = True := eq_true (by omega)
    have htB : (strs B).take ((ls.length : Int) - (j : Int)).toNat = strs B := List.take_of_length_le (by rw [strs_len]; omega)
    refine AW.any0 mixed ?_
    refine AW.takes (fuel := 7) [1, 2, 3, 5, 6, 7, 8, 12, 13, 14] ?_ (by simp only [go_sem, ↓reduceIte, hg, htk, hdr, hjr, htB] <;> rfl) Ends.noPanic (listed' := #[false, true, true, true, false, true, true, true, true, false, false, false, true, true, true, false, false]) (by decide +kernel) (by decide +kernel)
    refine via (T := ?Tend) (fun hT => ?_) ?_; rotate_left
    · skip
      refine AW.branch (fuel := 6) (rs := [0, 9]) ?_ (by decide +kernel) (by simp)
      intro j hj
      simp only [List.mem_cons, List.not_mem_nil, or_false] at hj
      rcases hj with rfl | rfl
      · skip
        refine AW.gg ?_ (by simp only [go_sem, ↓reduceIte, q1, q2, q3, q4, q5, q6, hg, strs_len, List.nil_append, List.length_nil, Nat.zero_add, List.length_append, List.length_cons] <;> rfl)
        refine AW.branch (fuel := 5) (rs := [4, 9]) ?_ (by decide +kernel) (by simp)
        intro j hj
        simp only [List.mem_cons, List.not_mem_nil, or_false] at hj
        rcases hj with rfl | rfl
        · skip
          refine AW.gg ?_ (by simp only [go_sem, ↓reduceIte, q1, q2, q3, q4, q5, q6, hg, strs_len, List.nil_append, List.length_nil, Nat.zero_add, List.length_append, List.length_cons] <;> rfl)
          refine AW.seqs (fuel := 0) (listed' := Array.replicate 17 true) [9, 10, 11, 15, 16] ?_ (by decide +kernel)
          refine AW.gg ?_ (by simp only [go_sem, ↓reduceIte, q1, q2, q3, q4, q5, q6, hg, strs_len, List.nil_append, List.length_nil, Nat.zero_add, List.length_append, List.length_cons] <;> rfl)
          refine AW.anyDone (by decide +kernel) ?_
          refine AW.keepB [4, 0, 3] [] (s' := ⟨63, [(4, .pv (.int .i64 i)), (0, .pv (.sl 2 (entsP es))), (3, .own 9 (strs A ++ [.str e.1] ++ strs B))], []⟩) (by simp only [go_sem, ↓reduceIte]) (by simp only [go_sem, ↓reduceIte] <;> rfl) ?_
          exact hT ()
        · skip
          refine AW.gg ?_ (by simp only [go_sem, ↓reduceIte, q1, q2, q3, q4, q5, q6, hg, strs_len, List.nil_append, List.length_nil, Nat.zero_add, List.length_append, List.length_cons] <;> rfl)
          refine AW.branch (fuel := 4) (rs := [4, 10]) ?_ (by decide +kernel) (by simp)
          intro j hj
          simp only [List.mem_cons, List.not_mem_nil, or_false] at hj
          rcases hj with rfl | rfl
          · skip
            refine AW.gg ?_ (by simp only [go_sem, ↓reduceIte, q1, q2, q3, q4, q5, q6, hg, strs_len, List.nil_append, List.length_nil, Nat.zero_add, List.length_append, List.length_cons] <;> rfl)
            refine AW.seqs (fuel := 0) (listed' := Array.replicate 17 true) [10, 11, 15, 16] ?_ (by decide +kernel)
            refine AW.gg ?_ (by simp only [go_sem, ↓reduceIte, q1, q2, q3, q4, q5, q6, hg, strs_len, List.nil_append, List.length_nil, Nat.zero_add, List.length_append, List.length_cons] <;> rfl)
            refine AW.anyDone (by decide +kernel) ?_
            refine AW.keepB [4, 0, 3] [] (s' := ⟨63, [(4, .pv (.int .i64 i)), (0, .pv (.sl 2 (entsP es))), (3, .own 9 (strs A ++ [.str e.1] ++ strs B))], []⟩) (by simp only [go_sem, ↓reduceIte]) (by simp only [go_sem, ↓reduceIte] <;> rfl) ?_
            exact hT ()
          · skip
            refine AW.gg ?_ (by simp only [go_sem, ↓reduceIte, q1, q2, q3, q4, q5, q6, hg, strs_len, List.nil_append, List.length_nil, Nat.zero_add, List.length_append, List.length_cons] <;> rfl)
            refine AW.seqs (fuel := 0) (listed' := Array.replicate 17 true) [4, 11, 15, 16] ?_ (by decide +kernel)
            refine AW.gg ?_ (by simp only [go_sem, ↓reduceIte, q1, q2, q3, q4, q5, q6, hg, strs_len, List.nil_append, List.length_nil, Nat.zero_add, List.length_append, List.length_cons] <;> rfl)
            refine AW.anyDone (by decide +kernel) ?_
            refine AW.keepB [4, 0, 3] [] (s' := ⟨63, [(4, .pv (.int .i64 i)), (0, .pv (.sl 2 (entsP es))), (3, .own 9 (strs A ++ [.str e.1] ++ strs B))], []⟩) (by simp only [go_sem, ↓reduceIte]) (by simp only [go_sem, ↓reduceIte] <;> rfl) ?_
            exact hT ()
      · skip
        refine AW.gg ?_ (by simp only [go_sem, ↓reduceIte, q1, q2, q3, q4, q5, q6, hg, strs_len, List.nil_append, List.length_nil, Nat.zero_add, List.length_append, List.length_cons] <;> rfl)
        refine AW.branch (fuel := 5) (rs := [0, 10]) ?_ (by decide +kernel) (by simp)
        intro j hj
        simp only [List.mem_cons, List.not_mem_nil, or_false] at hj
        rcases hj with rfl | rfl
        · skip
          refine AW.gg ?_ (by simp only [go_sem, ↓reduceIte, q1, q2, q3, q4, q5, q6, hg, strs_len, List.nil_append, List.length_nil, Nat.zero_add, List.length_append, List.length_cons] <;> rfl)
          refine AW.branch (fuel := 4) (rs := [4, 10]) ?_ (by decide +kernel) (by simp)
          intro j hj
          simp only [List.mem_cons, List.not_mem_nil, or_false] at hj
          rcases hj with rfl | rfl
          · skip
            refine AW.gg ?_ (by simp only [go_sem, ↓reduceIte, q1, q2, q3, q4, q5, q6, hg, strs_len, List.nil_append, List.length_nil, Nat.zero_add, List.length_append, List.length_cons] <;> rfl)
            refine AW.seqs (fuel := 0) (listed' := Array.replicate 17 true) [10, 11, 15, 16] ?_ (by decide +kernel)
            refine AW.gg ?_ (by simp only [go_sem, ↓reduceIte, q1, q2, q3, q4, q5, q6, hg, strs_len, List.nil_append, List.length_nil, Nat.zero_add, List.length_append, List.length_cons] <;> rfl)
            refine AW.anyDone (by decide +kernel) ?_
            refine AW.keepB [4, 0, 3] [] (s' := ⟨63, [(4, .pv (.int .i64 i)), (0, .pv (.sl 2 (entsP es))), (3, .own 9 (strs A ++ [.str e.1] ++ strs B))], []⟩) (by simp only [go_sem, ↓reduceIte]) (by simp only [go_sem, ↓reduceIte] <;> rfl) ?_
            exact hT ()
          · skip
            refine AW.gg ?_ (by simp only [go_sem, ↓reduceIte, q1, q2, q3, q4, q5, q6, hg, strs_len, List.nil_append, List.length_nil, Nat.zero_add, List.length_append, List.length_cons] <;> rfl)
            refine AW.seqs (fuel := 0) (listed' := Array.replicate 17 true) [4, 11, 15, 16] ?_ (by decide +kernel)
            refine AW.gg ?_ (by simp only [go_sem, ↓reduceIte, q1, q2, q3, q4, q5, q6, hg, strs_len, List.nil_append, List.length_nil, Nat.zero_add, List.length_append, List.length_cons] <;> rfl)
            refine AW.anyDone (by decide +kernel) ?_
            refine AW.keepB [4, 0, 3] [] (s' := ⟨63, [(4, .pv (.int .i64 i)), (0, .pv (.sl 2 (entsP es))), (3, .own 9 (strs A ++ [.str e.1] ++ strs B))], []⟩) (by simp only [go_sem, ↓reduceIte]) (by simp only [go_sem, ↓reduceIte] <;> rfl) ?_
            exact hT ()
        · skip
          refine AW.gg ?_ (by simp only [go_sem, ↓reduceIte, q1, q2, q3, q4, q5, q6, hg, strs_len, List.nil_append, List.length_nil, Nat.zero_add, List.length_append, List.length_cons] <;> rfl)
          refine AW.seqs (fuel := 0) (listed' := Array.replicate 17 true) [0, 4, 11, 15, 16] ?_ (by decide +kernel)
          refine AW.gg ?_ (by simp only [go_sem, ↓reduceIte, q1, q2, q3, q4, q5, q6, hg, strs_len, List.nil_append, List.length_nil, Nat.zero_add, List.length_append, List.length_cons] <;> rfl)
          refine AW.anyDone (by decide +kernel) ?_
          refine AW.keepB [4, 0, 3] [] (s' := ⟨63, [(4, .pv (.int .i64 i)), (0, .pv (.sl 2 (entsP es))), (3, .own 9 (strs A ++ [.str e.1] ++ strs B))], []⟩) (by simp only [go_sem, ↓reduceIte]) (by simp only [go_sem, ↓reduceIte] <;> rfl) ?_
          exact hT ()
    rw [hfin]
    refine AW.freeze (p := .slot 3) (by simp only [go_sem, ↓reduceIte, freeze, freezeO] <;> rfl) ?_
    refine AW.go ?_ (by simp only [go_sem, ↓reduceIte, e1] <;> rfl)
    exact AW.again hK (i + 1) (by omega) (by omega)
  have hge : i = es.length := by have := of_decide_eq_false hc; omega
  subst hge
  rw [List.take_length]
  refine AW.go ?_
  exact AW.finE (.pv _ .nil) rfl
end Go.Ck
