/- What is proved here: parts of the proofs of this seat's statements (a verified evaluator for calls over pure values, its laws, and contracts of functions). No condition. -/
import Derived.Test.YthjibccogjggbaaKo
import Derived.Lib.ConvBytes
import Derived.Laws.IdiomCopy
set_option linter.all false
set_option linter.unusedVariables false
namespace Go.Ck
open Go.RowKit
/-- Some objects' blocks are kept in mind. -/
def Ext (B0 B : Bs) : Prop := B.w = B0.w ∧ B.F = B0.F ∧ B.O.blk = B0.O.blk ∧ ∀ o b, B0.O.ob o = some b → B.O.ob o = some b
def ptrV (b : Nat) : Value := .pointer (some ⟨b, 0, none⟩)
def ptrS (os : List Nat) : List SV := os.map fun o => .ptr o 0
def DCx (C : Cx) (f : FuncId) (os : List Nat) : Cx := fun B ds => ∃ (B0 : Bs) (ds0 : List Deferred) (bs : List Nat), C B0 ds0 ∧ Ext B0 B ∧ bs.length = os.length ∧ (∀ (i o b : Nat), os[i]? = some o → bs[i]? = some b → B.O.ob o = some b) ∧ ds = ⟨.fn (.func f) (bs.map ptrV).toArray, #[]⟩ :: ds0

section
variable {P : Program} {O0 : Base} {F : Nat → Prop} {w0 w : World} {s : St} {E : Env} {tmps : Array Value}
theorem Rel.pin (h : Rel P O0 w0 F s E tmps w) (os : List Nat) (hos : ∀ o ∈ os, ∃ y, look o s.hp = some y) : Rel P ⟨O0.blk, fun o => if o ∈ os then some (E.obj o) else O0.ob o⟩ w0 F s E tmps w :=
  { place := h.place, obj := h.obj, size := h.size, i1 := h.i1, i2 := h.i2, i3 := h.i3, om_lt := h.om_lt, om0 := h.om0, na := h.na, np := h.np, gr := h.gr, flt := h.flt, ob := fun o b hb => by
      simp only at hb
      split at hb
      · rename_i ho; cases hb; exact ⟨rfl, hos o ho⟩
      · exact h.ob o b hb }
theorem Rel.unpin {O1 : Base} (h : Rel P O1 w0 F s E tmps w) (hb : O1.blk = O0.blk) (ho : ∀ o b, O0.ob o = some b → O1.ob o = some b) : Rel P O0 w0 F s E tmps w :=
  { place := h.place, obj := h.obj, size := h.size, i1 := h.i1, i2 := h.i2, i3 := h.i3, om_lt := h.om_lt, om0 := by rw [← hb]; exact h.om0, na := h.na, np := h.np, gr := by rw [← hb]; exact h.gr, flt := h.flt, ob := fun o b hb => h.ob o b (ho o b hb) }

/-- A new object by whatever name. -/
theorem newObjAt_sound (h : Rel P O0 w0 F s E tmps w) {q d : Nat} {t : TypeId} {cs : List SV} (hl : look q s.hp = none) (vs : Array Value) (hsz : vs.size = cs.length)
    (hc : ∀ (i : Nat) (c : SV), cs[i]? = some c → c.easy = true ∧ oneSV c = true ∧ (∀ v, vs[i]? = some v → c = .dead ∨ RS P (fun b => E.om b ∨ F b) E w c v) ∧ (∀ q, c.on q = false) ∧ ∀ o, c.pts o = true → ∃ y, look o s.hp = some y) :
    ∃ E', Rel P O0 w0 F (put d (.ptr q 0) ⟨s.n, s.sl, (q, .cells t cs) :: s.hp⟩) E' (tmps.setIfInBounds d (.pointer (some ⟨w.heap.size, 0, none⟩))) (w.alloc (.cells vs t)) := by
  have h1 := h.newObj hl (.cells t cs) (.cells vs t) ⟨vs, by rw [Env.addObj_same]; exact heap_alloc_new w _, hsz, fun c hc' => by
      obtain ⟨i, hi, he⟩ := List.mem_iff_getElem.1 hc'
      exact (hc i c (by rw [← he]; exact List.getElem?_eq_getElem hi)).2.1⟩
    (fun i c hic => by
      obtain ⟨k1, k2, k3, k4, k5⟩ := hc i c hic
      have hi : i < vs.size := by rw [hsz]; exact (List.getElem?_eq_some_iff.1 hic).1
      refine ⟨k1, ⟨vs[i], ?_, k3 _ (Array.getElem?_eq_getElem hi)⟩, k4, k5⟩
      have := World.cell?_alloc_new w vs t i
      rw [this]; exact Array.getElem?_eq_getElem hi)
  refine ⟨_, h1.putGood d ⟨rfl, by simp [SV.on], fun o ho => ?_⟩ ?_⟩
  · have : q = o := by simpa [SV.pts] using ho
    subst this
    exact ⟨.cells t cs, by simp [look]⟩
  · have := RS.ptr (P := P) (A := fun b => (E.addObj q w.heap.size).om b ∨ F b) (E := E.addObj q w.heap.size) (w := w.alloc (.cells vs t)) q 0
    rwa [Env.addObj_same] at this
theorem allocAt_sound (h : Rel P O0 w0 F s E tmps w) {q d : Nat} {t : TypeId} {cs : List SV} (hz : zcs P t = some cs) (hn : look q s.hp = none) :
    ∃ v w' E', (Instr.alloc t true (.tuple #[])).run P w = .ok v w' ∧ Rel P O0 w0 F (put d (.ptr q 0) ⟨s.n, s.sl, (q, .cells t cs) :: s.hp⟩) E' (tmps.setIfInBounds d v) w' := by
  obtain ⟨i, z, hi, hiz, hs, hl, hc⟩ := zcs_sound hz
  obtain ⟨E', hE⟩ := newObjAt_sound h (d := d) (t := t) (cs := cs) hn z.cells hl (fun j c hj => by
    have hlt : j < z.cells.size := by rw [hl]; exact (List.getElem?_eq_some_iff.1 hj).1
    have h1 := hc j c _ hj (Array.getElem?_eq_getElem hlt)
    obtain ⟨g1, g2, g3, g4, g5⟩ := ofConst_good (s := s) h1
    exact ⟨g1.1, g3, fun v hv => .inr (RS.ofConst (hc j c v hj hv)), g4, fun o ho => by rw [g5 o] at ho; cases ho⟩)
  refine ⟨_, _, E', ?_, hE⟩
  simp [Instr.alloc, zeroValue, typeInfo, hi, hiz, run_newVar]
end
section
variable {P : Program} {R : Option Nat} {Φ : Exit → Cx → St → Prop} {k : List It} {C : Cx} {s : St}
/-- new(T), by a name of one's own. -/
theorem AW.allocAt {all : Array Oper} {o : Oper} {r : List Oper} {d : Nat} {t : TypeId} {cs : List SV} {s' : St} (q : Nat) (h : AW P R Φ .normal (.ops all r :: k) C s')
    (hl : look q s.hp = none := by rfl) (hg : o.guard = none := by rfl) (hd : o.dst = some d := by rfl) (ho : o.op = .alloc t := by rfl) (hz : zcs P t = some cs := by simp only [go_sem, ↓reduceIte] <;> rfl) (hs : put d (.ptr q 0) ⟨s.n, s.sl, (q, .cells t cs) :: s.hp⟩ = s' := by simp only [go_sem, ↓reduceIte] <;> rfl) : AW P R Φ .normal (.ops all (o :: r) :: k) C s := fun B a w ha => by
  simp only [den]
  refine wpListIn_want (by simp [Region.wanted, hg]) (fun c hc => by rw [ho] at hc; cases hc) ?_
  obtain ⟨hdf, E, hE⟩ := ha
  obtain ⟨v, w', E', h1, h2⟩ := allocAt_sound hE (d := d) hz hl
  have hrun : (execOp a.eval o).run P w = .ok (.value v) w' := by simp [execOp, ho, h1]
  rw [hrun, Oper.uponIn_value, hd]
  rw [hs] at h2
  exact h B _ w' ⟨by rw [put_defers]; exact hdf, E', h2⟩

def hasO (s : St) (o : Nat) : Bool := match look o s.hp with
  | some _ => true
  | none => false
/-- defer f(): a closure over variables of its own. -/
theorem AW.defer {all : Array Oper} {o : Oper} {r : List Oper} {c : Call} {fx : Operand} {f : FuncId} (os : List Nat)
    (h : AW P none Φ .normal (.ops all r :: k) (DCx C f os) s) (hg : o.guard = none := by rfl) (ho : o.op = .defer c := by rfl) (hd : o.dst = none := by rfl) (hc : c.callee = .value fx := by rfl) (hca : c.args = #[] := by rfl) (hf : ev s fx = some (.fn f (ptrS os)) := by simp only [go_sem, ↓reduceIte] <;> rfl) (h1000 : os.all (fun o => decide (1000 ≤ o)) = true := by rfl) (hos : os.all (hasO s) = true := by simp only [go_sem, ↓reduceIte, hasO, List.all_cons, List.all_nil, Bool.and_self] <;> rfl) :
    AW P none Φ .normal (.ops all (o :: r) :: k) C s := fun B a w ha => by
  simp only [den]
  unfold wpListIn
  rw [if_pos (by simp [Region.wanted, hg])]
  refine ⟨fun f _ => trivial, ?_⟩
  rw [show (fence none).round = none from rfl, Oper.semAt_none]
  obtain ⟨⟨hC, hl, hG⟩, E, hE⟩ := ha
  obtain ⟨cvs, e1, e2, e3⟩ := (ev_rs hE hf).fn_inv
  have hcv : cvs = (os.map E.obj).map ptrV := by
    refine List.ext_getElem? (fun i => ?_)
    by_cases hi : i < cvs.length
    · have hio : i < os.length := by rw [e2, ptrS, List.length_map] at hi; exact hi
      have h1 := e3 i (.ptr os[i] 0) cvs[i] (by simp [ptrS, hio]) (List.getElem?_eq_getElem hi)
      rw [List.getElem?_eq_getElem hi]
      generalize cvs[i] = v at h1
      cases h1
      simp [hio, ptrV]
    · rw [List.getElem?_eq_none (by omega), List.getElem?_eq_none (by simp [e2, ptrS] at hi ⊢; omega)]
  have hrun : (execOp a.eval o).run P w = .ok (.defer ⟨.fn (.func f) cvs.toArray, #[]⟩) w := by
    simp [execOp, ho, resolve, hc, e1, Deferred.ofValue, hca]
  rw [hrun, Oper.uponIn_defer, hd]
  refine h ⟨⟨B.O.blk, fun o => if o ∈ os then some (E.obj o) else B.O.ob o⟩, B.w, B.F⟩ _ w ⟨⟨⟨B, a.defers, os.map E.obj, hC, ⟨rfl, rfl, rfl, fun o b hb => ?_⟩, by simp, fun i o b hi hb => ?_, ?_⟩, fun o ho' => ?_, hG⟩, E, hE.pin os (fun o ho' => by
    have := List.all_eq_true.1 hos o ho'
    unfold hasO at this
    split at this
    · exact ⟨_, by assumption⟩
    · cases this)⟩
  · simp only
    split
    · rw [(hE.ob o b hb).1]
    · exact hb
  · simp only
    rw [if_pos (List.mem_of_getElem? hi)]
    rw [List.getElem?_map, hi] at hb
    simpa using hb
  · rw [hcv]; rfl
  · simp only
    rw [if_neg (fun hm => by have := List.all_eq_true.1 h1000 o hm; simp [lim] at this ho'; omega)]
    exact hl o ho'

/-- x, ok := y.(T), where y is a T. -/
theorem AW.assertT {all : Array Oper} {o : Oper} {r : List Oper} {d : Nat} {t u : TypeId} {x : Operand} {p : PV} {fs : List (Nat × Nat × Bool)} (hT : tk P t = .st fs)
    (hk : AW P R Φ .normal (.ops all r :: k) C (putTupS d [.pv p, .pv (.bool true)] s)) (hg : o.guard = none := by rfl) (hd : o.dst = some d := by rfl) (ho : o.op = .typeAssert x u t true := by rfl) (hx : ev s x = some (.pv (.iface t p)) := by simp only [go_sem, ↓reduceIte] <;> rfl) : AW P R Φ .normal (.ops all (o :: r) :: k) C s := fun B a w ha => by
  simp only [den]
  refine wpListIn_want (by simp [Region.wanted, hg]) (fun c hc => by rw [ho] at hc; cases hc) ?_
  obtain ⟨hdf, E, hE⟩ := ha
  have h1 := ev_pv hE hx
  obtain ⟨fl, hu, _⟩ := tk_st hT
  generalize hxe : a.eval x = y at h1
  cases h1 with | iface _ _ v h1 => ?_
  have h2 : (execOp a.eval o).run P w = .ok (.value (.tuple #[v, .bool true])) w := by
    simp [execOp, ho, hxe, Instr.typeAssert, run_underlying hu]
  rw [h2, Oper.uponIn_value, hd]
  obtain ⟨E', hE'⟩ := afterCall_sound hE (ρ := id) (rs := [.pv p, .pv (.bool true)]) (us := [v, .bool true]) d rfl rfl (fun i q y hq hy => by
    match i with
    | 0 =>
      simp at hq hy; subst hq; subst hy
      exact ⟨fun e xs he => (by cases he), fun _ _ => .inr (.pv _ _ h1), fun o ho => (by simp [SV.pts] at ho)⟩
    | 1 =>
      simp at hq hy; subst hq; subst hy
      exact ⟨fun e xs he => (by cases he), fun _ _ => .inr (.pv _ _ (.bool _)), fun o ho => (by simp [SV.pts] at ho)⟩
    | i + 2 => simp at hq)
  exact hk B _ w ⟨by rw [put_defers]; exact hdf, E', hE'⟩

/-- An interface against nil. -/
def isNilI : PV → Option Bool
  | .nili => some true
  | .iface _ _ => some false
  | _ => none
theorem tk_iface {t : TypeId} (h : tk P t = .iface) : ∃ ms, P.underlying t = some (.interface ms) := by
  unfold tk at h
  split at h <;> simp at h
  exact ⟨_, by assumption⟩
theorem AW.eqNilI {all : Array Oper} {o : Oper} {r : List Oper} {d : Nat} {t u : TypeId} {x : Operand} {p : PV} {b : Bool} (hT : tk P t = .iface)
    (hk : AW P R Φ .normal (.ops all r :: k) C (put d (.pv (.bool b)) s)) (hg : o.guard = none := by rfl) (hd : o.dst = some d := by rfl) (ho : o.op = .binOp .eql t x (.const .nilIface) u := by rfl) (hx : ev s x = some (.pv p) := by simp only [go_sem, ↓reduceIte] <;> rfl) (hb : isNilI p = some b := by rfl) : AW P R Φ .normal (.ops all (o :: r) :: k) C s := by
  refine AW.opSV hg hd (fun c hc => by rw [ho] at hc; cases hc) ⟨rfl, by simp [SV.on], fun o ho => by simp [SV.pts] at ho⟩ (fun B E a w _ hE => ⟨.bool b, ?_, .pv _ _ (.bool _)⟩) hk
  have e1 := ev_pv hE hx
  obtain ⟨ms, hu⟩ := tk_iface hT
  generalize hxe : a.eval x = v1 at e1
  have hye : a.eval (.const .nilIface) = .nilIface := rfl
  cases p <;> simp [isNilI] at hb <;> subst hb <;> cases e1
  · have he : ∀ (n : Nat) q z, (Op.equalIn (n + 1) t (.iface q z) .nilIface).run P w = .ok false w := fun n q z => by
      simp [Op.equalIn, run_underlying hu]
    have hb2 : ∀ q z, (binOp .eql t (.iface q z) .nilIface).run P w = .ok (.bool false) w := fun q z => by
      show (do pure (.bool (← Op.equalIn (9999 + 1) t _ _)) : Sem Value).run P w = _
      simp only [Sem.run_bind, he, Result.andThen_ok, Sem.run_pure]
    have hg2 : ∀ q z, (eqGuard .eql t x (.const .nilIface) (.iface q z) .nilIface).run P w = .ok () w := fun q z => by rw [eqGuard_at_iface]; rfl
    simp only [execOp, ho, hxe, hye, Sem.run_bind, hg2, hb2, Result.andThen_ok, Sem.run_pure]
  · have he : ∀ (n : Nat), (Op.equalIn (n + 1) t .nilIface .nilIface).run P w = .ok true w := fun n => by
      simp [Op.equalIn, run_underlying hu]
    have hb2 : (binOp .eql t .nilIface .nilIface).run P w = .ok (.bool true) w := by
      show (do pure (.bool (← Op.equalIn (9999 + 1) t _ _)) : Sem Value).run P w = _
      simp only [Sem.run_bind, he, Result.andThen_ok, Sem.run_pure]
    have hg2 : (eqGuard .eql t x (.const .nilIface) .nilIface .nilIface).run P w = .ok () w := by rw [eqGuard_nil_constR]; rfl
    simp only [execOp, ho, hxe, hye, Sem.run_bind, hg2, hb2, Result.andThen_ok, Sem.run_pure]

/-- []byte(s), to be read. -/
theorem AW.ofStr {all : Array Oper} {o : Oper} {r : List Oper} {d : Nat} {t u e : TypeId} {ez eb : Nat} {ea : Bool} {x : Operand} {l : List UInt8} (hl : l.length ≤ maxLen) (hS : tk P t = .str) (hT : tk P u = .sl e ez eb ea) (he : tk P e = .int .u8)
    (hk : AW P R Φ .normal (.ops all r :: k) C (put d (.pv (.sl 1 (strBytes l))) s)) (hg : o.guard = none := by rfl) (hd : o.dst = some d := by rfl) (ho : o.op = .convert t u x := by rfl) (hx : ev s x = some (.pv (.str l)) := by simp only [go_sem, ↓reduceIte] <;> rfl) : AW P R Φ .normal (.ops all (o :: r) :: k) C s := fun B a w ha => by
  simp only [den]
  refine wpListIn_want (by simp [Region.wanted, hg]) (fun c hc => by rw [ho] at hc; cases hc) ?_
  obtain ⟨hdf, E, hE⟩ := ha
  have e1 := ev_pv hE hx
  generalize hxe : a.eval x = v1 at e1
  cases e1
  have hrun : (execOp a.eval o).run P w = .ok (.value (.slice (some ⟨w.heap.size, 0, none⟩) l.length (grownCap w l.length 0 e))) (Lib.bytesWorld w e ⟨l.toArray⟩) := by
    have := Lib.run_convert_string_bytes (P := P) w t u e ⟨l.toArray⟩ (tk_str hS) (tk_sl hT).1 (tk_int he)
    simp only [ByteArray.size, List.size_toArray] at this
    simp [execOp, ho, hxe, this]
  rw [hrun, Oper.uponIn_value, hd]
  have hlen : (⟨l.toArray⟩ : ByteArray).size = l.length := by simp [ByteArray.size]
  have hgr : Grow (fun _ => False) w (Lib.bytesWorld w e ⟨l.toArray⟩) := ⟨rfl, rfl, rfl, by rw [Lib.bytesWorld_size]; omega, fun b hb _ => Lib.bytesWorld_at_old w e _ b hb⟩
  have hE1 := hE.world hgr (fun b hb => hb.elim) (fun _ => False) (fun b hb => hb.elim)
  have hfl : flat (strBytes l) = strBytes l := by
    have : ∀ l : List UInt8, flat (strBytes l) = strBytes l := fun l => by
      induction l with
      | nil => rfl
      | cons b r ih => rw [strBytes, List.map_cons, flat_cons]; exact congrArg (_ :: ·) ih
    exact this l
  have hro : RO (fun b => (E.addOm fun _ => False).om b ∨ B.F b) (Lib.bytesWorld w e ⟨l.toArray⟩) (.sl 1 (strBytes l)) (.slice (some ⟨w.heap.size, 0, none⟩) (strBytes l).length (grownCap w l.length 0 e)) := by
    refine .sl 1 (strBytes l) (l.map fun b => Value.int .u8 b.toNat) _ _ (by rw [hfl]; simp [strBytes]) (fun c hc => ?_) (fun i c v hc hv => ?_) (fun i v hv => ?_) (fun p hp => ?_) (by simpa [strBytes] using hl) ?_
    · rw [hfl] at hc
      obtain ⟨b, _, rfl⟩ := List.mem_map.1 hc
      rfl
    · rw [hfl, strBytes, List.getElem?_map, Option.map_eq_some_iff] at hc
      obtain ⟨b, hb, rfl⟩ := hc
      rw [List.getElem?_map, hb] at hv
      cases hv
      exact .int _ _
    · have hi : i < l.length := by simpa using (List.getElem?_eq_some_iff.1 hv).1
      refine ⟨_, rfl, ?_, ?_⟩
      · rintro ((h1 | h1) | h1)
        · have := (hE.om_lt _ h1).1; simp at this
        · exact h1
        · have := hE.flt _ h1
          have := hE.gr.size
          simp at *; omega
      · have := Lib.bytesWorld_cell w e ⟨l.toArray⟩ i (by rw [hlen]; exact hi)
        have ead : (Addr.add ⟨w.heap.size, 0, none⟩ i) = ⟨w.heap.size, i, none⟩ := by
          unfold Addr.add
          split
          · rename_i h0; subst h0; rfl
          · simp
        rw [ead, this]
        rw [List.getElem?_map, List.getElem?_eq_getElem hi] at hv
        cases hv
        simp [List.getD_eq_getElem?_getD, hi]
    · obtain ⟨b, _, rfl⟩ := List.mem_map.1 hp
      rfl
    · have := grownCap_ge w l.length 0 e
      simpa [strBytes] using this
  have hsl : (strBytes l).length = l.length := by simp [strBytes]
  rw [hsl] at hro
  exact hk B _ _ ⟨by rw [put_defers]; exact hdf, _, hE1.putGood d ⟨rfl, by simp [SV.on], fun o ho => by simp [SV.pts] at ho⟩ (.pv _ _ hro)⟩
end
end Go.Ck

set_option linter.unusedVariables false
namespace Go.Ck
open Go.RowKit
/-- A deferred call of f, of a frame in mode u, returns; the frame's mode is u' then. -/
def FnD (P : Program) (f : FuncId) (H : List (Nat × HO)) (args : List SV) (u u' : FrameMode) (Ψ : List (Nat × HO) → Prop) : Prop :=
  (∃ fn, P.funcs[f]? = some fn ∧ (fn.name == "runtime.NumGoroutine") = false ∧ fn.body.isNone = false) ∧ ∀ (F : Nat → Prop) (w : World) (E : Env) (vals : List Value), vals.length = args.length → GOK P (fun b => E.om b ∨ F b) w → Rel P ⟨E.om, obOf E H⟩ w F ⟨vals.length, zslots args 0, H⟩ E vals.toArray w →
    CallsD P f vals.toArray u w (fun e m w' => m = u' ∧ (∃ v, e = .returned v) ∧ ∃ H' E', Ψ H' ∧ Rel P ⟨E.om, obOf E H⟩ w F ⟨0, [], H'⟩ E' #[] w')

/-- The mode behind a recovered panic. -/
def recd (ch : List PanicEntry) : FrameMode := .panicking (ch.map fun e => { e with recovered := true })
theorem settle_recd {ch : List PanicEntry} {p : PV} (h : Pan ch p) : settle (recd ch) = .returning := by
  obtain ⟨x, rfl, _⟩ := h
  rfl

/-- What recover hands back. -/
def RecOK (u u' : FrameMode) (p : PV) : Prop := (u = .returning ∧ u' = .returning ∧ p = .nili) ∨ ∃ ch, u = .panicking ch ∧ Pan ch p ∧ u' = recd ch

theorem FnD.of_rec {P : Program} {f : FuncId} {fn : Func} {id : Nat} {o0 : Oper} {ca : Call} {c : Code} {H : List (Nat × HO)} {args : List SV} {u u' : FrameMode} {p : PV} {Ψ : List (Nat × HO) → Prop} {n d : Nat}
    (hf : P.funcs[f]? = some fn) (hb : fn.body = some (.seq (.region id #[o0] false) c)) (ho : o0.op = .call ca) (hca : ca.callee = .builtin .recover) (hg : o0.guard = none) (hd : o0.dst = some d) (hn : n = args.length + (fn.ntmps - args.length)) (hres : fn.results.toList = []) (hname : (fn.name == "runtime.NumGoroutine") = false) (hH : H.all (fun y => decide (1000 ≤ y.1)) = true)
    (hu : RecOK u u' p) (h : ∀ C, AW P none (Ends P [] H (fun rs H' => rs = [] ∧ Ψ H') C) .normal [.code c] C (put d (.pv p) ⟨n, zslots args 0, H⟩)) : FnD P f H args u u' Ψ := ⟨⟨fn, hf, hname, by simp [hb]⟩, fun F w E vals hl hG hR => by
  refine callsD_of_wpS hf hb (fun c₀ cs hcu => ?_)
  apply wpS_seq
  apply wpS_region
  have hr1 : List.range (#[o0] : Array Oper).size = [0] := rfl
  rw [hr1]
  have h0 := hR.extend (u := Array.replicate (fn.ntmps - vals.toArray.size) undef) (n := n) (by simp [hn, hl])
  have hrec : ∀ a : Act, (execOp a.eval o0).run P w = .ok .recover w := fun a => by
    simp [execOp, ho, resolve, hca, invoke, builtin]
  simp only [wpOpsS, List.getElem?_toArray, List.getElem?_cons_zero]
  rw [if_pos (by simp [Region.wanted, hg]), hrec]
  simp only
  -- what is handed back
  have hback : ∃ v cs', (match recoverD (c₀ :: cs) with | some (v, cs') => (v, cs') | none => (Value.nilIface, c₀ :: cs)) = (v, cs') ∧ cs' = { c₀ with mode := u' } :: cs ∧ ∀ (A : Nat → Prop) (w : World), RO A w p v := by
    rcases hu with ⟨rfl, rfl, rfl⟩ | ⟨ch, rfl, ⟨x, rfl, hsol, A, w1, hro⟩, rfl⟩
    · refine ⟨.nilIface, c₀ :: cs, by simp [recoverD, hcu], by rw [← hcu], fun A w => .nili⟩
    · exact ⟨x, { c₀ with mode := recd [{ v := x, recovered := false }] } :: cs, by simp [recoverD, hcu, recd], rfl, fun A' w' => hro.solid hsol⟩
  obtain ⟨v, cs', e1, e2, hro⟩ := hback
  have goal : c.wpS P (bodyPostS P fn c₀ cs fun e m w' => m = u' ∧ (∃ v, e = .returned v) ∧ ∃ H' E', Ψ H' ∧ Rel P ⟨E.om, obOf E H⟩ w F ⟨0, [], H'⟩ E' #[] w') (({ tmps := vals.toArray ++ Array.replicate (fn.ntmps - vals.toArray.size) undef, defers := [] } : Act).put (some d) v) cs' w := by
    refine wpS_of_wp ?_
    have h1 := h0.putGood d (v := .pv p) (x := v) ⟨rfl, by simp [SV.on], fun o ho => by simp [SV.pts] at ho⟩ (.pv _ _ (hro _ _))
    let B0 : Bs := ⟨⟨E.om, obOf E H⟩, w, F⟩
    have hw := h (fun B d => B = B0 ∧ d = []) B0 (({ tmps := vals.toArray ++ Array.replicate (fn.ntmps - vals.toArray.size) undef, defers := [] } : Act).put (some d) v) w ⟨⟨⟨rfl, rfl⟩, (fun o ho => by
      show obOf E H o = none
      unfold obOf
      split
      · rename_i y hy
        have := List.all_eq_true.1 hH _ (look_mem hy)
        simp at this
        simp only [lim] at ho
        omega
      · rfl), hG⟩, E, h1⟩
    simp only [den] at hw
    refine wp_mono ((wpIn_wide (n := 0)).1 hw) (fun e a w' hq => ?_)
    obtain ⟨C', s', B, ⟨rfl, he, svs, rs, H', L, m, h1, h2, h3, h4, rfl, h5⟩, ⟨⟨rfl, hdf⟩, _⟩, E', hE⟩ := hq
    obtain ⟨us, k1, k2, k3⟩ := h1.sound hE
    obtain ⟨q1, E'', q2⟩ := body_out hE k2 k3 h2 h3 h4
    have hus : us = [] := List.length_eq_zero_iff.1 q1
    subst hus
    have hr : (results fn a.tmps).run P w' = .ok (pack []) w' := run_results (by rw [hres]; exact k1)
    have hfin : a.defers = [] ∧ ∃ u2, cs' = { c₀ with mode := u2 } :: cs ∧ ∃ v, (results fn a.tmps).run P w' = .ok v w' ∧ (u2 = u' ∧ (∃ v', Ending.returned v = .returned v') ∧ ∃ H' E', Ψ H' ∧ Rel P ⟨E.om, obOf E H⟩ w F ⟨0, [], H'⟩ E' #[] w') :=
      ⟨hdf, u', e2, _, hr, rfl, ⟨_, rfl⟩, H', E'', h5, q2⟩
    rcases he with rfl | rfl
    · exact hfin
    · exact hfin
  rw [hd]
  cases hrd : recoverD (c₀ :: cs) with
  | none => rw [hrd] at e1; cases e1; exact goal
  | some vc => obtain ⟨v2, cs2⟩ := vc; rw [hrd] at e1; cases e1; exact goal⟩

/-- How a body may end that defers a closure over the objects os. -/
def EndsD (P : Program) (res : List ResultVar) (H : List (Nat × HO)) (Ψ : List SV → List (Nat × HO) → Prop) (C : Cx) (g : FuncId) (os : List Nat) (e : Exit) (C' : Cx) (s' : St) : Prop :=
  C' = DCx C g os ∧ ∃ u u' H1 H2, (((e = .normal ∨ e = .ret) ∧ u = .returning) ∨ ∃ ch, e = .panic ch ∧ u = .panicking ch) ∧ settle u' = .returning ∧ FnD P g H1 (ptrS os) u u' (fun H' => H' = H2) ∧
    CallOK s' id H1 (ptrS os) [] none ∧ (namesOf H2).Nodup ∧ (∀ o ∈ namesOf H2, look o H1 = none → look o s'.hp = none) ∧
    ∃ svs rs H' L m, Rets P (behindP s' id none H1 H2) res svs ∧ Pass P (behindP s' id none H1 H2) id svs rs L m ∧ CallOK (behindP s' id none H1 H2) id H' rs L m ∧ (∀ o y, look o H = some y → ∃ z, look o H' = some z) ∧ Ψ rs H'

theorem pass_ptrS {P : Program} {s : St} : ∀ os : List Nat, Pass P s id (ptrS os) (ptrS os) [] none
  | [] => .nil
  | o :: r => .ptr rfl (pass_ptrS r)

theorem Fn.of_bodyD {P : Program} {f : FuncId} {fn : Func} {c : Code} {H : List (Nat × HO)} {args : List SV} {Ψ : List SV → List (Nat × HO) → Prop} {n : Nat} {res : List ResultVar} (g : FuncId) (os : List Nat) (hf : P.funcs[f]? = some fn) (hb : fn.body = some c) (hn : n = args.length + (fn.ntmps - args.length)) (hres : fn.results.toList = res) (hname : (fn.name == "runtime.NumGoroutine") = false) (hH : H.all (fun y => decide (1000 ≤ y.1)) = true)
    (h : ∀ C, AW P none (EndsD P res H Ψ C g os) .normal [.code c] C ⟨n, zslots args 0, H⟩) : Fn P f H args Ψ := ⟨⟨fn, hf, hname, by simp [hb]⟩, fun F w E vals hl hG hR => by
  subst hres
  refine calls_of_wp_defers hf hb ?_
  have h0 := hR.extend (u := Array.replicate (fn.ntmps - vals.toArray.size) undef) (n := n) (by simp [hn, hl])
  let B0 : Bs := ⟨⟨E.om, obOf E H⟩, w, F⟩
  have hw := h (fun B d => B = B0 ∧ d = []) B0 { tmps := vals.toArray ++ Array.replicate (fn.ntmps - vals.toArray.size) undef, defers := [] } w ⟨⟨⟨rfl, rfl⟩, (fun o ho => by
    show obOf E H o = none
    unfold obOf
    split
    · rename_i y hy
      have := List.all_eq_true.1 hH _ (look_mem hy)
      simp at this
      simp only [lim] at ho
      omega
    · rfl), hG⟩, E, h0⟩
  simp only [den] at hw
  refine wp_mono ((wpIn_wide (n := 0)).1 hw) (fun e a w' hq => ?_)
  obtain ⟨C', s', B, ⟨rfl, u, u', H1, H2, hmode, hset, hD, hok, hnd, hfr, svs, rs, H', L, m, r1, r2, r3, r4, hΨ⟩, ⟨hC, hlim, hG'⟩, E', hE⟩ := hq
  obtain ⟨_, _, bs, ⟨rfl, rfl⟩, hext, hbl, hbo, hdf⟩ := hC
  obtain ⟨x1, x2, x3, x4⟩ := hext
  have hgok : GOK P (fun b => E'.om b ∨ B.F b) w' := Rel.gok hG' hE
  obtain ⟨gfn, gf, gname, gbody⟩ := hD.1
  have hinv : (invoke (.fn (.func g) (bs.map ptrV).toArray) #[]).run P w' = .ok (.enter g (bs.map ptrV).toArray) w' := by
    have hbody' : ∃ b, gfn.body = some b := by cases hb : gfn.body with | none => simp [hb] at gbody | some b => exact ⟨b, rfl⟩
    obtain ⟨b, hb⟩ := hbody'
    have hname' : ¬ gfn.name = "runtime.NumGoroutine" := by simpa using gname
    simp [invoke, callFunc, gf, hname', hb]
  obtain ⟨F', E0, hGc, hent, f1, hback⟩ := call_core (a := a) hE hgok (ρ := id) (H := H1) (svs := ptrS os) (args := ptrS os) (L := []) (m := none) (vals := bs.map ptrV) (by simp [ptrS, hbl]) (fun i v x hi hxi => by
    simp only [ptrS, List.getElem?_map, Option.map_eq_some_iff] at hi hxi
    obtain ⟨o, ho, rfl⟩ := hi
    obtain ⟨b, hb, rfl⟩ := hxi
    have := (hE.ob o b (hbo i o b ho hb)).1
    have hr := RS.ptr (P := P) (A := fun b => E'.om b ∨ B.F b) (E := E') (w := w') o 0
    rw [this] at hr
    exact hr) (pass_ptrS os) hok
  have hcall := hD.2 F' w' E0 _ f1 hGc hent
  have hleaves : ∀ ds, ds = a.defers → u ≠ .run → Leaves P fn a.tmps (fun
      | .returned v, w' => ∃ rs H' E' us, Ψ rs H' ∧ us.length = rs.length ∧ v = pack us ∧ Rel P ⟨E.om, obOf E H⟩ w F ⟨us.length, zslots rs 0, H'⟩ E' us.toArray w'
      | .panicked _, _ => False
      | .outgrown, _ => False) ds u w' := by
    intro ds hds hur
    rw [hds, hdf]
    refine leaves_cons hur hinv (hcall.mono (fun e m2 w2 hq => ?_))
    obtain ⟨rfl, ⟨v, rfl⟩, H2', E2, rfl, hR2⟩ := hq
    obtain ⟨⟨E3, h3⟩, _⟩ := hback [] H2' E2 [] w2 rfl hR2 hnd (fun o _ o' _ h => h) hfr (.inl rfl)
    rw [x1, x2] at h3
    have h4 := h3.unpin (O0 := ⟨E.om, obOf E H⟩) x3 x4
    have h5 : Rel P ⟨E.om, obOf E H⟩ w F (behindP s' id none H1 H2') E3 a.tmps w2 := h4
    obtain ⟨us, k1, k2, k3⟩ := r1.sound h5
    obtain ⟨q1, E'', q2⟩ := body_out h5 k2 k3 r2 r3 r4
    simp only [hset, Leaves]
    exact ⟨pack us, run_results k1, rs, H', _, us, hΨ, q1, rfl, q2⟩
  rcases hmode with ⟨he, rfl⟩ | ⟨ch, rfl, rfl⟩
  · have := hleaves _ rfl (by simp)
    rcases he with rfl | rfl
    · exact this
    · exact this
  · exact hleaves _ rfl (by simp)⟩
end Go.Ck
namespace Go.Ck
section
variable {P : Program} {C : Cx} {s : St}
theorem AW.finD {res : List ResultVar} {H H1 H2 H' : List (Nat × HO)} {Ψ : List SV → List (Nat × HO) → Prop} {e : Exit} {svs rs : List SV} {L : List Place} {m : Option Place} {g : FuncId} {os : List Nat} {s' : St}
    (hD : FnD P g H1 (ptrS os) .returning .returning (fun H' => H' = H2)) (hP : Pass P s' id svs rs L m) (hΨ : Ψ rs H') (he : e = .normal ∨ e = .ret := by first | exact .inl rfl | exact .inr rfl) (hM1 : HM s id H1 := by simp only [go_sem, ↓reduceIte]; try trivial) (hB1 : okB id H1 (ptrS os) [] none = true := by simp only [go_sem, ↓reduceIte, ptrS]) (hA : okPn s id H1 [] H2 = true := by simp only [go_sem, ↓reduceIte, okPn]) (hs : behindP s id none H1 H2 = s' := by simp only [go_sem, ↓reduceIte, behindP] <;> rfl)
    (hv : retsV P s' res = some svs := by simp only [go_sem, ↓reduceIte] <;> rfl) (hM : HM s' id H' := by simp only [go_sem, ↓reduceIte]; try trivial) (hB : okB id H' rs L m = true := by simp only [go_sem, ↓reduceIte]) (hn : allIn H H' = true := by simp only [go_sem, ↓reduceIte]) : AW P none (EndsD P res H Ψ C g os) e [] (DCx C g os) s := by
  subst hs
  simp only [okPn, Bool.and_eq_true] at hA
  obtain ⟨⟨a2, a3⟩, _⟩ := hA
  exact AW.nil ⟨rfl, .returning, .returning, H1, H2, .inl ⟨he, rfl⟩, rfl, hD, .ofB hM1 hB1, (nodupB_inj a2).1, freshO_spec a3, svs, rs, H', L, m, retsV_spec hv, hP, .ofB hM hB, (fun o y hy => by
    have := List.all_eq_true.1 hn (o, y) (look_mem hy)
    simp only at this
    split at this
    · rename_i z hz; exact ⟨z, hz⟩
    · cases this), hΨ⟩
theorem AW.finDP {res : List ResultVar} {H H1 H2 H' : List (Nat × HO)} {Ψ : List SV → List (Nat × HO) → Prop} {ch : List PanicEntry} {p : PV} {svs rs : List SV} {L : List Place} {m : Option Place} {g : FuncId} {os : List Nat} {s' : St}
    (hpan : Pan ch p) (hD : FnD P g H1 (ptrS os) (.panicking ch) (recd ch) (fun H' => H' = H2)) (hP : Pass P s' id svs rs L m) (hΨ : Ψ rs H') (hM1 : HM s id H1 := by simp only [go_sem, ↓reduceIte]; try trivial) (hB1 : okB id H1 (ptrS os) [] none = true := by simp only [go_sem, ↓reduceIte, ptrS]) (hA : okPn s id H1 [] H2 = true := by simp only [go_sem, ↓reduceIte, okPn]) (hs : behindP s id none H1 H2 = s' := by simp only [go_sem, ↓reduceIte, behindP] <;> rfl)
    (hv : retsV P s' res = some svs := by simp only [go_sem, ↓reduceIte] <;> rfl) (hM : HM s' id H' := by simp only [go_sem, ↓reduceIte]; try trivial) (hB : okB id H' rs L m = true := by simp only [go_sem, ↓reduceIte]) (hn : allIn H H' = true := by simp only [go_sem, ↓reduceIte]) : AW P none (EndsD P res H Ψ C g os) (.panic ch) [] (DCx C g os) s := by
  subst hs
  simp only [okPn, Bool.and_eq_true] at hA
  obtain ⟨⟨a2, a3⟩, _⟩ := hA
  exact AW.nil ⟨rfl, .panicking ch, recd ch, H1, H2, .inr ⟨ch, rfl, rfl⟩, settle_recd hpan, hD, .ofB hM1 hB1, (nodupB_inj a2).1, freshO_spec a3, svs, rs, H', L, m, retsV_spec hv, hP, .ofB hM hB, (fun o y hy => by
    have := List.all_eq_true.1 hn (o, y) (look_mem hy)
    simp only at this
    split at this
    · rename_i z hz; exact ⟨z, hz⟩
    · cases this), hΨ⟩
end
end Go.Ck
namespace Go.Ck
attribute [go_sem] ptrS okPn behindP
end Go.Ck
namespace Go.Ck
end Go.Ck

set_option linter.unusedVariables false
namespace Go.Ck
open Go.RowKit
/-- Nothing hangs on object o's cells. -/
def apartL (o : Nat) : List (Nat × SV) → Bool
  | [] => true
  | (_, v) :: r => !(v.onO o) && apartL o r
theorem onO_on {o i : Nat} {v : SV} (h : v.onO o = false) : v.on (.cell o i) = false := by
  cases v with
  | al p => cases p <;> simp_all [SV.onO, SV.on]
  | vw p e f n => cases p <;> simp_all [SV.onO, SV.on]
  | ea p e f n => cases p <;> simp_all [SV.onO, SV.on]
  | _ => rfl
theorem kill_apart {o i : Nat} : ∀ {l : List (Nat × SV)}, apartL o l = true → killL (.cell o i) l = l
  | [], _ => rfl
  | (d, v) :: r, h => by
    simp only [apartL, Bool.and_eq_true, Bool.not_eq_true'] at h
    simp only [killL, kill_apart h.2, onO_on h.1, Bool.false_eq_true, if_false]
theorem setObj_setObj (o : Nat) (h h' : HO) : ∀ l : List (Nat × HO), setObj o h (setObj o h' l) = setObj o h l
  | [] => rfl
  | (k, v) :: r => by
    by_cases hk : k = o
    · simp [setObj, hk]
    · simp [setObj, hk, setObj_setObj o h h' r]
theorem setObj_same {o : Nat} {h : HO} : ∀ {l : List (Nat × HO)}, look o l = some h → setObj o h l = l
  | [], _ => rfl
  | (k, v) :: r, e => by
    unfold look at e
    unfold setObj
    split
    · rename_i hk; rw [if_pos hk] at e; cases e; rfl
    · rename_i hk; rw [if_neg hk] at e; rw [setObj_same e]
theorem setCells_nil (cs : List SV) (off : Nat) : setCells cs [] off = cs := by simp [setCells]
theorem setCells_cons (cs : List SV) (c : SV) (r : List SV) (off : Nat) (h : off < cs.length) : setCells (cs.set off c) r (off + 1) = setCells cs (c :: r) off := by
  unfold setCells
  rw [List.take_set, List.drop_set]
  simp only [List.length_cons]
  rw [if_pos (by omega), show off + 1 + r.length = off + (r.length + 1) by omega]
  rw [List.take_succ_eq_append_getElem h, List.set_append_right _ _ (by simp; omega)]
  simp [Nat.min_eq_left (Nat.le_of_lt h)]
theorem cellAt_apart {s : St} {o off : Nat} {e : TypeId} {cs : List SV} {v : SV} (ha : apartL o s.sl = true) (hl : look o s.hp = some (.cells e cs)) : setAt (.cell o off) v (kill (.cell o off) s) = ⟨s.n, s.sl, setObj o (.cells e (cs.set off v)) s.hp⟩ := by
  simp only [setAt, kill, hl, kill_apart ha]
theorem putCells_apart : ∀ (new : List SV) {off : Nat} {s : St} {o : Nat} {e : TypeId} {cs : List SV}, apartL o s.sl = true → look o s.hp = some (.cells e cs) → off + new.length ≤ cs.length → putCells o off new s = ⟨s.n, s.sl, setObj o (.cells e (setCells cs new off)) s.hp⟩
  | [], off, s, o, e, cs, ha, hl, hle => by rw [setCells_nil, setObj_same hl]; rfl
  | c :: r, off, s, o, e, cs, ha, hl, hle => by
    have hl' : look o (setObj o (.cells e (cs.set off c)) s.hp) = some (.cells e (cs.set off c)) := by rw [look_setObj]; simp [hl]
    simp only [putCells, cellAt_apart ha hl]
    rw [putCells_apart r (s := ⟨s.n, s.sl, setObj o (.cells e (cs.set off c)) s.hp⟩) ha hl' (by simp at hle ⊢; omega), setObj_setObj, setCells_cons _ _ _ _ (by simp at hle; omega)]

theorem allPV_map (l : List PV) : allPV (l.map SV.pv) = some l := by
  induction l with
  | nil => rfl
  | cons p r ih => simp [allPV, ih]
theorem allPlain_map {l : List PV} (h : l.all PV.one = true) : allPlain (l.map SV.pv) = true := by
  induction l with
  | nil => rfl
  | cons p r ih =>
    simp only [List.all_cons, Bool.and_eq_true] at h
    simp [allPlain, h.1, ih h.2]

section
variable {P : Program} {R : Option Nat} {Φ : Exit → Cx → St → Prop} {k : List It} {C : Cx} {s : St}
/-- Cells are read. -/
theorem AW.loadP {all : Array Oper} {o : Oper} {r : List Oper} {d t : Nat} {x : Operand} {q off : Nat} {e : TypeId} {cs : List SV} {ps : List PV} (hx : ev s x = some (.ptr q off)) (hl : look q s.hp = some (.cells e cs)) (hc : (cs.drop off).take ps.length = ps.map .pv)
    (hk : AW P R Φ .normal (.ops all r :: k) C (put d (.pv (.agg ps)) s)) (hT : tsh P t = some (ps.length, true)) (hle : off + ps.length ≤ cs.length) (hg : o.guard = none := by rfl) (hd : o.dst = some d := by rfl) (ho : o.op = .load t x := by rfl) : AW P R Φ .normal (.ops all (o :: r) :: k) C s :=
  AW.step hg (by simp only [astep, hd, ho, reads, if_true, aval, hx, aload, hl, objO, hT, hle, hc, allPV_map, aggO, putO]) hk
/-- Cells are written. -/
theorem AW.storeP {all : Array Oper} {o : Oper} {r : List Oper} {t : Nat} {x y : Operand} {q off : Nat} {e : TypeId} {cs : List SV} {ps : List PV} (hx : ev s x = some (.ptr q off)) (hl : look q s.hp = some (.cells e cs)) (hy : ev s y = some (.pv (.agg ps))) (hle : off + ps.length ≤ cs.length)
    (hk : AW P R Φ .normal (.ops all r :: k) C ⟨s.n, s.sl, setObj q (.cells e (setCells cs (ps.map .pv) off)) s.hp⟩) (hT : tsh P t = some (ps.length, true)) (h1 : ps.all PV.one = true) (ha : apartL q s.sl = true := by rfl) (hg : o.guard = none := by rfl) (hd : o.dst = none := by rfl) (ho : o.op = .store t x y := by rfl) : AW P R Φ .normal (.ops all (o :: r) :: k) C s :=
  AW.step hg (by
    have hle' : off + (ps.map SV.pv).length ≤ cs.length := by simpa using hle
    simp only [astep, hd, ho, hx, hy, astore, hl, storeO, hT, plainCells, storeAgg, List.length_map, hle, allPlain_map h1, and_self, if_true, putCells_apart _ ha hl hle']) hk

/-- A part of an array in an object. -/
theorem AW.sliceO {all : Array Oper} {o : Oper} {r : List Oper} {d t : Nat} {x : Operand} {lo hi : Option Operand} {vl vh : Option SV} {q off l h m e : Nat} {ea : Bool} {m1 m2 : Option Int} (hx : ev s x = some (.ptr q off)) (hlo : evo s lo = some vl) (hhi : evo s hi = some vh) (h1 : optInt vl = some m1) (h2 : optInt vh = some m2) (el : m1.getD 0 = (l : Int)) (eh : m2.getD (m : Int) = (h : Int)) (hlh : l ≤ h) (hhm : h ≤ m) (hlm : l < m) (ho' : ∃ y, look q s.hp = some y)
    (hk : AW P R Φ .normal (.ops all r :: k) C (put d (.os q (off + l) (h - l)) s)) (hT : tk P t = .arr m e 1 ea := by simp only [go_sem]) (hg : o.guard = none := by rfl) (hd : o.dst = some d := by rfl) (ho : o.op = .slice t x lo hi none := by rfl) : AW P R Φ .normal (.ops all (o :: r) :: k) C s := by
  refine AW.opSV hg hd (fun c hc => by rw [ho] at hc; cases hc) ⟨rfl, by simp [SV.on], fun o hpt => ?_⟩ (fun B E a w _ hE => ?_) hk
  · have : q = o := by simpa [SV.pts] using hpt
    subst this; exact ho'
  · have hp := ev_rs hE hx
    generalize hxe : a.eval x = v1 at hp
    cases hp
    obtain ⟨hu, hez⟩ := tk_arr hT
    obtain ⟨inf, hinf, hsz⟩ := info_of_cells (P := P) (t := e) (by omega)
    have hl' := optInt_sound h1 (evo_sound hE hlo)
    have hh' := optInt_sound h2 (evo_sound hE hhi)
    have hb := run_sliceBounds (P := P) (w := w) false m m m1 m2 (lo.map a.eval) (hi.map a.eval) hl' hh' (by rw [el, eh]; omega) (Nat.le_refl _)
    rw [el, eh] at hb
    refine ⟨.slice (some ⟨E.obj q, off + l, none⟩) (h - l) (m - l), ?_, .os _ _ _ _ (by omega)⟩
    have hne : ¬ (m = l) := by omega
    simp [execOp, ho, hxe, Instr.sliceAt, run_underlying hu, Instr.sureAddr, hb, run_sizeOf w hinf, hez, hne, add_mk]

/-- copy(p, xs): into a part of an array in an object. -/
theorem AW.copyO {all : Array Oper} {o : Oper} {r : List Oper} {d t t' el : Nat} {c : Call} {x y : Operand} {q off n kk : Nat} {e : TypeId} {cs : List SV} {v : SV} {xs : List PV} {ez eb : Nat} {ea : Bool} (hx : ev s x = some (.os q off n)) (hl : look q s.hp = some (.cells e cs)) (hle : off + n ≤ cs.length) (hy : ev s y = some v) (hv : cont s v = some xs) (h1 : xs.all PV.one = true) (hk' : kk = min xs.length n)
    (hk : AW P R Φ .normal (.ops all r :: k) C (put d (.pv (.int .i64 kk)) ⟨s.n, s.sl, setObj q (.cells e (setCells cs ((xs.take kk).map .pv) off)) s.hp⟩)) (hT : tk P t = .sl el 1 eb ea := by simp only [go_sem]) (ha : apartL q s.sl = true := by rfl) (hg : o.guard = none := by rfl) (hd : o.dst = some d := by rfl) (ho : o.op = .call c := by rfl) (hc : c.callee = .builtin .copy := by rfl) (hca : c.args = #[x, y] := by rfl) (hct : c.argTypes = #[t, t'] := by rfl) : AW P R Φ .normal (.ops all (o :: r) :: k) C s := fun B a w hA => by
  simp only [den]
  refine wpListIn_want (by simp [Region.wanted, hg]) (fun c hc => by rw [ho] at hc; cases hc) ?_
  obtain ⟨hdf, E, hE⟩ := hA
  have e1 := ev_rs hE hx
  generalize hxe : a.eval x = v1 at e1
  cases e1 with | os _ _ _ cap hcap => ?_
  obtain ⟨sa, scap, vs, e2, hro, hm, hz, hb, hcap2⟩ := cont_sound hE hv (ev_rs hE hy)
  obtain ⟨hu, hez, _⟩ := tk_sl hT
  obtain ⟨inf, hinf, hsz⟩ := info_of_cells (P := P) (t := el) (by omega)
  obtain ⟨us, hheap, hus, h1s, hom, hcl, hcell⟩ := hE.objCells hl
  have hfl := flat_one h1
  rw [hfl] at hro
  have hvl : vs.length = xs.length := hro.1
  have hkn : kk ≤ n := by omega
  have hkx : kk ≤ xs.length := by omega
  have hcp : CPs (fun b => E.om b ∨ B.F b) w ((xs.take kk).map .pv) (vs.take kk) := CPs.ofROs (hro.take kk)
  obtain ⟨E', _, hE'⟩ := putCells_sound ((xs.take kk).map .pv) (off := off) hE hl (by simp; omega) hcp
  rw [putCells_apart _ ha hl (by simp; omega)] at hE'
  have hrun : (execOp a.eval o).run P w = .ok (.value (goInt kk)) (w.setCells (E.obj q) off (vs.take kk)) := by
    have hcopy : (Builtin.copy_ #[t, t'] o.type #[.slice (some ⟨E.obj q, off, none⟩) n cap, .slice sa xs.length scap]).run P w = .ok (goInt kk) (w.setCells (E.obj q) off (vs.take kk)) := by
      rcases Nat.eq_zero_or_pos kk with h0 | h0
      · subst h0
        rw [List.take_zero]
        exact run_copy_none w t t' o.type el _ _ n cap xs.length scap hu (by rw [hinf]; simp [hsz, hez]) (by show Min.min xs.length n = 0; exact hk'.symm)
      · obtain ⟨ad, rfl, hs, hc0⟩ := hm 0 vs[0] (List.getElem?_eq_getElem (by omega))
        obtain ⟨ab, ao, asp⟩ := ad
        simp only at hs
        subst hs
        have hlen : (vs.take kk).length = kk := by simp; omega
        have := run_copy_cells (P := P) w t t' o.type el (E.obj q) off n cap ⟨ab, ao, none⟩ xs.length scap (vs.take kk) hu (by rw [hinf]; simp [hsz, hez]) (by rw [hlen]; exact hk') (fun j v hj => by
            rw [List.getElem?_take] at hj
            split at hj
            · obtain ⟨ad', e', _, hc'⟩ := hm j v hj
              cases e'
              rw [add_mk]; exact hc'
            · cases hj) (fun j hj => by rw [hcl, Array.getElem?_eq_getElem (by omega)]; rfl) (fun j hj => by simp [World.frozen?, hheap]) hcp.oneCell
        rw [hlen] at this
        exact this
    have hal : c.args.map a.eval = #[a.eval x, a.eval y] := by rw [hca]; simp
    simp [execOp, ho, resolve, hc, invoke, builtin, hal, hxe, e2, hct, hcopy]
  rw [hrun, Oper.uponIn_value, hd]
  exact hk B _ _ ⟨by rw [put_defers]; exact hdf, _, hE'.putGood d ⟨rfl, by simp [SV.on], fun o ho => by simp [SV.pts] at ho⟩ (.pv _ _ (.int _ _))⟩
end
end Go.Ck
