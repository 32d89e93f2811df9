/- What is proved here: parts of the proofs of this seat's statements (a verified evaluator for calls over pure values, its laws, and contracts of functions). No condition. -/
import Derived.Test.YthjibccogjggbaaKh
import Derived.RangeFuncRecord
import Derived.RangeFuncLeaves
set_option linter.all false
set_option linter.unusedVariables false
namespace Go.Ck
open Go.RowKit
/-- Whatever it comes to, it comes to in whatever world, and leaves the world alone. -/
def WI (P : Program) {α : Type} (m : Sem α) : Prop := ∀ w x w1, m.run P w = .ok x w1 → w1 = w ∧ ∀ w', m.run P w' = .ok x w'
section
variable {P : Program}
theorem WI.pure {α : Type} (x : α) : WI P (Pure.pure x : Sem α) := fun w y w1 h => by
  simp only [Sem.run_pure, Result.ok.injEq] at h
  obtain ⟨rfl, rfl⟩ := h
  exact ⟨rfl, fun w' => Sem.run_pure ..⟩
theorem WI.bind {α β : Type} {m : Sem α} {f : α → Sem β} (h : WI P m) (k : ∀ x, (∃ w, m.run P w = .ok x w) → WI P (f x)) : WI P (m >>= f) := fun w y w1 hr => by
  rw [Sem.run_bind] at hr
  cases hm : m.run P w with
  | ok x w2 =>
    rw [hm] at hr
    obtain ⟨rfl, h2⟩ := h w x w2 hm
    simp only [Result.andThen_ok] at hr
    obtain ⟨rfl, h4⟩ := k x ⟨_, hm⟩ _ y w1 hr
    exact ⟨rfl, fun w' => by rw [Sem.run_bind, h2 w', Result.andThen_ok, h4 w']⟩
  | halt x w2 => rw [hm] at hr; simp [Result.andThen] at hr
theorem WI.never {α : Type} {m : Sem α} (h : ∀ w x w1, m.run P w ≠ .ok x w1) : WI P m := fun w x w1 hr => absurd hr (h w x w1)
theorem WI.stuck {α : Type} (s : String) : WI P (Go.stuck s : Sem α) := WI.never (fun w x w1 h => by simp [Go.stuck] at h)
theorem WI.unsupported {α : Type} (s : Unsupported) : WI P (Go.unsupported s : Sem α) := WI.never (fun w x w1 h => by simp [Go.unsupported] at h)
theorem andThen_ne_ok {α β : Type} {r : Result α} {f : α → World → Result β} (h : ∀ x w y w1, f x w ≠ .ok y w1) (y : β) (w1 : World) : r.andThen f ≠ .ok y w1 := by
  cases r with
  | ok x w => exact h x w y w1
  | halt c w => simp [Result.andThen]
theorem runtimePanic_ne {α : Type} (s : RuntimeError) (w : World) (x : α) (w1 : World) : (Go.runtimePanic s : Sem α).run P w ≠ .ok x w1 := by
  unfold Go.runtimePanic
  cases s <;> simp [goPanic, program]
  all_goals (refine andThen_ne_ok ?_ _ _; intro x w y w1; first | (intro h; cases h; done) | (refine andThen_ne_ok ?_ _ _; intro x w y w1 h; cases h))
theorem WI.runtimePanic {α : Type} (s : RuntimeError) : WI P (Go.runtimePanic s : Sem α) := WI.never (runtimePanic_ne s)
theorem WI.boundsPanic {α : Type} (k : IntKind) (x y : Int) (c : BoundsCode) : WI P (Go.boundsPanic k x y c : Sem α) := WI.never (fun w z w1 => by
  unfold Go.boundsPanic
  dsimp only
  split
  · rw [Sem.run_bind]
    exact andThen_ne_ok (fun x w y w1 => runtimePanic_ne _ _ _ _) _ _
  · rw [Sem.run_bind]
    exact andThen_ne_ok (fun x w y w1 => runtimePanic_ne _ _ _ _) _ _)
theorem WI.underlying (t : TypeId) : WI P (Go.underlying t) := fun w x w1 h => by
  cases hu : P.underlying t with
  | some d => rw [run_underlying hu] at h; cases h; exact ⟨rfl, fun w' => by rw [run_underlying hu]⟩
  | none => simp [Go.underlying, program, Sem.run, hu, Go.stuck] at h
theorem WI.sizeOf (t : TypeId) : WI P (Go.sizeOf t) := fun w x w1 h => by
  cases hu : P.info? t with
  | some d => rw [run_sizeOf w hu] at h; cases h; exact ⟨rfl, fun w' => run_sizeOf w' hu⟩
  | none => simp [Go.sizeOf, typeInfo, program, Sem.run, hu, Go.stuck] at h
theorem WI.asIntOf (v : Value) : WI P (Go.asIntOf v) := by
  unfold Go.asIntOf
  split <;> first | exact .pure _ | exact .unsupported _ | exact .stuck _
theorem WI.sureAddr (v : Value) : WI P (Instr.sureAddr v) := by
  unfold Instr.sureAddr
  split <;> first | exact .pure _ | exact .stuck _
theorem WI.asAddr (v : Value) : WI P (Go.asAddr v) := by
  unfold Go.asAddr
  split <;> first | exact .pure _ | exact .stuck _ | exact .runtimePanic _
theorem WI.ite {α : Type} {c : Prop} [Decidable c] {x y : Sem α} (h : WI P x) (k : WI P y) : WI P (if c then x else y) := by split <;> assumption
theorem WI.sliceBound (x : Value) (y : Nat) (c : BoundsCode) : WI P (Instr.sliceBound x y c) := by
  unfold Instr.sliceBound
  refine .bind (.asIntOf _) (fun p _ => ?_)
  exact .ite (.pure _) (.boundsPanic _ _ _ _)
theorem WI.sliceBounds (b : Bool) (n c : Nat) (l h m : Option Value) : WI P (Instr.sliceBounds b n c l h m) := by
  unfold Instr.sliceBounds
  dsimp only
  cases l <;> cases h <;> cases m <;> dsimp only
  all_goals repeat' (first | exact WI.pure _ | exact WI.stuck _ | exact WI.sliceBound _ _ _ | refine WI.bind ?_ (fun _ _ => ?_))
theorem WI.slice (t : TypeId) (x : Value) (l h m : Option Value) : WI P (Instr.slice t x l h m) := by
  unfold Instr.slice
  dsimp only
  repeat' (first | exact WI.pure _ | exact WI.stuck _ | exact WI.sliceBounds _ _ _ _ _ _ | exact WI.sizeOf _ | exact WI.asAddr _ | exact WI.underlying _ | refine WI.bind ?_ (fun _ _ => ?_) | split)
theorem WI.sliceAt (t : TypeId) (x : Value) (l h m : Option Value) : WI P (Instr.sliceAt t x l h m) := by
  unfold Instr.sliceAt
  dsimp only
  repeat' (first | exact WI.pure _ | exact WI.stuck _ | exact WI.sliceBounds _ _ _ _ _ _ | exact WI.sizeOf _ | exact WI.sureAddr _ | exact WI.underlying _ | exact WI.slice _ _ _ _ _ | refine WI.bind ?_ (fun _ _ => ?_) | split)
theorem WI.indexAt (t : TypeId) (x i : Value) : WI P (Instr.indexAt t x i) := by
  unfold Instr.indexAt
  dsimp only
  repeat' (first | exact WI.pure _ | exact WI.stuck _ | exact WI.unsupported _ | exact WI.asIntOf _ | exact WI.sizeOf _ | exact WI.sureAddr _ | exact WI.underlying _ | exact WI.boundsPanic _ _ _ _ | refine WI.bind ?_ (fun _ _ => ?_) | split)
theorem WI.extract (x : Value) (i : Nat) : WI P (Instr.extract x i) := by
  unfold Instr.extract
  split
  · split <;> first | exact .pure _ | exact .stuck _
  · exact .stuck _
theorem WI.binInt (op : BinOp) (t : TypeId) (k k' : IntKind) (x y : Int) : WI P (binOp op t (.int k x) (.int k' y)) := by
  unfold binOp
  cases op <;> dsimp only [Op.shift, Op.intArith, Op.intDiv, Op.intBits, Op.intCmp]
  all_goals repeat' (first | exact WI.pure _ | exact WI.stuck _ | exact WI.runtimePanic _ | split)
theorem WI.eqGuardInt (op : BinOp) (t : TypeId) (x y : Operand) (k k' : IntKind) (a b : Int) : WI P (eqGuard op t x y (.int k a) (.int k' b)) := by
  unfold eqGuard
  cases op <;> exact .pure _
theorem WI.unInt (op : UnOp) (k : IntKind) (x : Int) : WI P (Op.unary op (.int k x)) := by
  unfold Op.unary
  cases op <;> first | exact .pure _ | exact .stuck _
theorem WI.unBool (op : UnOp) (x : Bool) : WI P (Op.unary op (.bool x)) := by
  unfold Op.unary
  cases op <;> first | exact .pure _ | exact .stuck _
theorem WI.convInt {t u : TypeId} {k j i : IntKind} {n : Int} (ht : P.underlying t = some (.int k)) (hu : P.underlying u = some (.int j)) : WI P (convert t u (.int i n)) := by
  refine fun w x w1 h => ?_
  simp [convert, run_underlying ht, run_underlying hu, Result.andThen, Conv.intToInt] at h ⊢
  obtain ⟨rfl, rfl⟩ := h
  exact ⟨rfl, rfl⟩
theorem WI.lenSlice {t e ty : TypeId} {a : Option Addr} {n c : Nat} (ht : P.underlying t = some (.slice e)) : WI P (Builtin.len_ #[t] ty #[.slice a n c]) := by
  refine fun w x w1 h => ?_
  simp [Builtin.len_, run_underlying ht, Result.andThen] at h ⊢
  obtain ⟨rfl, rfl⟩ := h
  exact ⟨rfl, rfl⟩
end
end Go.Ck

set_option linter.unusedVariables false
namespace Go.Ck
open Go.RowKit
def isIntO : Option SV → Bool
  | some (.pv (.int _ _)) => true
  | _ => false
def isBoolO : Option SV → Bool
  | some (.pv (.bool _)) => true
  | _ => false
def TK.isInt : TK → Bool
  | .int _ => true
  | _ => false
def TK.isSl : TK → Bool
  | .sl _ _ _ _ => true
  | _ => false
/-- Needs it no world? -/
def wiOp (P : Program) (s : St) : Op → Bool
  | .move _ => true
  | .assign _ => true
  | .binOp _ _ x y _ => isIntO (ev s x) && isIntO (ev s y)
  | .unOp _ _ x => isIntO (ev s x) || isBoolO (ev s x)
  | .convert t u x => (tk P t).isInt && (tk P u).isInt && isIntO (ev s x)
  | .fieldAddr _ _ _ => true
  | .indexAddr _ _ _ => true
  | .slice _ _ _ _ _ => true
  | .extract _ _ => true
  | .call c => (match c.callee with
    | .builtin .len => (match c.argTypes.toList with | [t] => (tk P t).isSl | _ => false)
    | _ => false)
  | _ => false

section
variable {P : Program} {O0 : Base} {F : Nat → Prop} {w0 w : World} {s : St} {E : Env} {a : Act}
theorem isIntO_spec (h : Rel P O0 w0 F s E a.tmps w) {x : Operand} (hx : isIntO (ev s x) = true) : ∃ k n, a.eval x = .int k n := by
  unfold isIntO at hx
  split at hx
  · rename_i k n he
    have := ev_rs h he
    generalize a.eval x = z at this
    cases this with | pv _ _ h => cases h; exact ⟨k, n, rfl⟩
  · cases hx
theorem isBoolO_spec (h : Rel P O0 w0 F s E a.tmps w) {x : Operand} (hx : isBoolO (ev s x) = true) : ∃ n, a.eval x = .bool n := by
  unfold isBoolO at hx
  split at hx
  · rename_i n he
    have := ev_rs h he
    generalize a.eval x = z at this
    cases this with | pv _ _ h => cases h; exact ⟨n, rfl⟩
  · cases hx

theorem wi_field (h : Rel P O0 w0 F s E a.tmps w) {t f : Nat} {x : Operand} {v r : SV} (hx : ev s x = some v) (hv : afieldAddr P t v f = some r) : WI P (Instr.fieldAt t (a.eval x) f) := by
  have hr := ev_rs h hx
  generalize a.eval x = z at hr
  unfold afieldAddr at hv
  split at hv
  · rename_i fs hT
    obtain ⟨fl, hu, rfl⟩ := tk_st hT
    split at hv
    · rename_i fo fz fa hf
      rw [List.getElem?_map] at hf
      cases hfl : fl.toList[f]? with
      | none => rw [hfl] at hf; simp at hf
      | some fd =>
        rw [hfl] at hf
        simp only [Option.map_some, Option.some.injEq] at hf
        have hfl' : fl[f]? = some fd := by simpa using hfl
        split at hv
        · simp at hv
        · rename_i hz
          obtain ⟨rfl, hts⟩ := fieldRow_parts hf hz
          obtain ⟨d, i, hud, hi, his, _⟩ := tsh_parts (w := w) hts
          have hgo : ∀ b o w', (Instr.fieldAt t (.pointer (some ⟨b, o, none⟩)) f).run P w' = .ok (.pointer (some ⟨b, o + fd.offset, none⟩)) w' := by
            intro b o w'
            have : P.cellsOf fd.type ≠ 0 := by simp [Program.cellsOf, hi, his, hz]
            simp [Instr.fieldAt, run_underlying hu, hfl', Instr.sureAddr, fieldPlace, run_sizeOf w' hi, this, add_mk]
          have fin : ∀ b o, WI P (Instr.fieldAt t (.pointer (some ⟨b, o, none⟩)) f) := fun b o w1 y w2 hr => by
            rw [hgo] at hr; cases hr; exact ⟨rfl, fun w' => hgo b o w'⟩
          cases hr <;> simp at hv <;> exact fin _ _
    · simp at hv
  · simp at hv

theorem wi_spec (h : Rel P O0 w0 F s E a.tmps w) {o : Oper} {d : Nat} {s' : St} (hd : o.dst = some d) (hw : wiOp P s o.op = true) (hs : astep P o s = some s') : WI P (execOp a.eval o) ∧ ∀ w, o.about P w a.eval = none := by
  have hab : (∀ c, o.op ≠ .call c) → ∀ w, o.about P w a.eval = none := fun hn w => by
    unfold Oper.about
    cases ho : o.op <;> first | rfl | exact absurd ho (hn _)
  have hV : ∀ {m : Sem Value}, WI P m → WI P (do pure (Next.value (← m)) : Sem Next) := fun hm => .bind hm (fun _ _ => .pure _)
  unfold astep at hs
  rw [hd] at hs
  simp only at hs
  cases ho : o.op <;> rw [ho] at hw hs <;> simp only [wiOp, Bool.false_eq_true] at hw
  case move x => exact ⟨by simp only [execOp, ho]; exact .pure _, hab (by simp [ho])⟩
  case assign x => exact ⟨by simp only [execOp, ho]; exact .pure _, hab (by simp [ho])⟩
  case binOp op t x y u =>
    simp only [Bool.and_eq_true] at hw
    obtain ⟨k1, n1, e1⟩ := isIntO_spec h hw.1
    obtain ⟨k2, n2, e2⟩ := isIntO_spec h hw.2
    refine ⟨?_, hab (by simp [ho])⟩
    simp only [execOp, ho, e1, e2]
    exact hV (.bind (.eqGuardInt _ _ _ _ _ _ _ _) (fun _ _ => .binInt _ _ _ _ _ _))
  case unOp op t x =>
    simp only [Bool.or_eq_true] at hw
    refine ⟨?_, hab (by simp [ho])⟩
    simp only [execOp, ho]
    rcases hw with hw | hw
    · obtain ⟨k1, n1, e1⟩ := isIntO_spec h hw
      rw [e1]; exact hV (.unInt _ _ _)
    · obtain ⟨n1, e1⟩ := isBoolO_spec h hw
      rw [e1]; exact hV (.unBool _ _)
  case convert t u x =>
    simp only [Bool.and_eq_true] at hw
    obtain ⟨k1, n1, e1⟩ := isIntO_spec h hw.2
    refine ⟨?_, hab (by simp [ho])⟩
    simp only [execOp, ho, e1]
    have ht : ∃ k, tk P t = .int k := by
      have := hw.1.1
      cases hk : tk P t <;> rw [hk] at this <;> simp [TK.isInt] at this
      exact ⟨_, rfl⟩
    have hu : ∃ k, tk P u = .int k := by
      have := hw.1.2
      cases hk : tk P u <;> rw [hk] at this <;> simp [TK.isInt] at this
      exact ⟨_, rfl⟩
    obtain ⟨k, ht⟩ := ht
    obtain ⟨j, hu⟩ := hu
    exact hV (.convInt (tk_int ht) (tk_int hu))
  case fieldAddr t x f =>
    refine ⟨?_, hab (by simp [ho])⟩
    simp only [reads, if_true, putO, aval] at hs
    simp only [execOp, ho]
    cases hx : ev s x with
    | none => rw [hx] at hs; simp at hs
    | some v =>
      rw [hx] at hs
      simp only at hs
      cases hr : afieldAddr P t v f with
      | none => rw [hr] at hs; simp at hs
      | some r => exact hV (wi_field h hx hr)
  case indexAddr t x i => exact ⟨by simp only [execOp, ho]; exact hV (.indexAt _ _ _), hab (by simp [ho])⟩
  case slice t x l hh m => exact ⟨by simp only [execOp, ho]; exact hV (.sliceAt _ _ _ _ _), hab (by simp [ho])⟩
  case extract x i => exact ⟨by simp only [execOp, ho]; exact hV (.extract _ _), hab (by simp [ho])⟩
  case call c =>
    split at hw
    · rename_i hc
      split at hw
      · rename_i t ht
        have hT : ∃ e ez eb ea, tk P t = .sl e ez eb ea := by
          cases hk : tk P t <;> rw [hk] at hw <;> simp [TK.isSl] at hw
          exact ⟨_, _, _, _, rfl⟩
        obtain ⟨e, ez, eb, ea, hT⟩ := hT
        obtain ⟨hu, _, _⟩ := tk_sl hT
        have hrd : reads (.call c) = true := by simp [reads, hc]
        rw [hrd] at hs
        simp only [if_true] at hs
        cases hv : aval P s o.type (.call c) with
        | none => rw [hv] at hs; simp [putO] at hs
        | some v =>
          obtain ⟨x, h1, h2⟩ := aval_put (o := o) (d := d) h (by rw [ho]; exact hv)
          have hrun : ∀ w', (execOp a.eval o).run P w' = (do pure (Next.value (← Builtin.len_ c.argTypes o.type (c.args.map a.eval))) : Sem Next).run P w' := by
            intro w'
            simp [execOp, ho, resolve, hc, invoke, builtin]
          have hat : c.argTypes = #[t] := by apply Array.ext'; simpa using ht
          refine ⟨fun w1 y w2 hr => ?_, fun w => by unfold Oper.about; rw [ho]; simp [resolve, hc, Target.leads]⟩
          rw [hrun] at hr
          have hwi : WI P (Builtin.len_ c.argTypes o.type (c.args.map a.eval)) := by
            rw [hat]
            cases hargs : c.args.toList with
            | nil =>
              have : c.args = #[] := by apply Array.ext'; simpa using hargs
              simp [aval, hc, ht, evs, this] at hv
            | cons x0 r =>
              cases r with
              | cons y r => 
                simp only [aval, hc, ht, hargs] at hv
                have hl : ∀ l vs, evs s l = some vs → vs.length = l.length := by
                  intro l
                  induction l with
                  | nil => intro vs h; simp [evs] at h; subst h; rfl
                  | cons x l ih =>
                    intro vs h
                    simp only [evs] at h
                    split at h
                    · rename_i u us _ h2
                      cases h
                      simp [ih us h2]
                    · cases h
                split at hv
                · rename_i u t1 he ht1
                  have := hl _ _ he
                  simp at this
                · cases hv
              | nil =>
                have ha : c.args = #[x0] := by apply Array.ext'; simpa using hargs
                simp only [aval, hc, ht, hargs, evs] at hv
                cases hx : ev s x0 with
                | none => rw [hx] at hv; simp at hv
                | some v0 =>
                  rw [hx] at hv
                  simp only at hv
                  have hr0 := ev_rs h hx
                  rw [ha]
                  simp only [List.map_toArray, List.map_cons, List.map_nil]
                  generalize a.eval x0 = z at hr0
                  rw [hT] at hv
                  have : ∃ b n cc, z = .slice b n cc := by
                    cases hr0 <;> simp [lenT, alen, cont, intO] at hv
                    case pv p hp =>
                      cases hp <;> simp [alen, cont] at hv
                      exact ⟨_, _, _, rfl⟩
                    case nils => exact ⟨_, _, _, rfl⟩
                    case al p =>
                      cases hpp : s.at p with
                      | none => simp [hpp] at hv
                      | some u =>
                        cases u <;> simp [hpp] at hv
                        obtain ⟨cs, h5, _⟩ := h.own hpp
                        rcases h5.2 with ⟨e1, _⟩ | ⟨g, cap, cur, e1, _⟩
                        · exact ⟨_, _, _, e1⟩
                        · exact ⟨_, _, _, e1⟩
                    case vw p e' off n hvw =>
                      obtain ⟨_, b, cap, rfl, _⟩ := hvw
                      exact ⟨_, _, _, rfl⟩
                  obtain ⟨b, n, cc, rfl⟩ := this
                  exact .lenSlice hu
          obtain ⟨q1, q2⟩ := hV hwi w1 y w2 hr
          exact ⟨q1, fun w' => by rw [hrun]; exact q2 w'⟩
      · cases hw
    · cases hw
end
end Go.Ck

set_option linter.unusedVariables false
namespace Go.Ck
open Go.RowKit
def noEnter : Op → Bool
  | .call c => (match c.callee with | .builtin _ => true | _ => false)
  | _ => true
def takeOne (P : Program) (all : Array Oper) (i : Nat) (s : St) : Option St := match all[i]? with
  | some o => (match o.dst with
    | some d => (match o.guard with
      | none => if wiOp P s o.op = true then astep P o s else none
      | some (j, want) => (match aguard all s j want with
        | some b => if b = want then (if wiOp P s o.op = true then astep P o s else none) else if noEnter o.op = true then some (put d (.tup []) s) else none
        | none => none))
    | none => none)
  | none => none
def takes (P : Program) (all : Array Oper) : List Nat → St → Option St
  | [], s => some s
  | i :: r, s => (match takeOne P all i s with
    | some s' => takes P all r s'
    | none => none)
def takeChk (all : Array Oper) : List Nat → Array Bool → Option (Array Bool)
  | [], l => some l
  | i :: r, l => if (Region.ready .any all l).contains i && Region.free .any all l i then takeChk all r (l.setIfInBounds i true) else none
def seqChk (all : Array Oper) : List Nat → Array Bool → Option (Array Bool)
  | [], l => some l
  | i :: r, l => if Region.ready .any all l = [i] then seqChk all r (l.setIfInBounds i true) else none
def pickOps (all : Array Oper) : List Nat → List Oper
  | [] => []
  | i :: r => (match all[i]? with
    | some o => o :: pickOps all r
    | none => pickOps all r)

section
variable {P : Program} {R : Option Nat} {Φ : Exit → Cx → St → Prop} {k : List It} {C : Cx} {s : St} {all : Array Oper}
theorem den_panic (hΦ : ∀ c C s, ¬ Φ (.panic c) C s) : ∀ (k : List It) (c : List PanicEntry) (a : Act) (w : World), ¬ den P R Φ k (.panic c) a w
  | [], c, a, w, h => by obtain ⟨C, s, B, h1, _⟩ := h; exact hΦ c C s h1
  | i :: k, c, a, w, h => by cases i <;> exact den_panic hΦ k c a w h

theorem AW.any0 {id : Nat} (hm : P.follows .mixedOrders = true) (h : AW P R Φ .normal (.any all all.size (Array.replicate all.size false) :: k) C s) : AW P R Φ .normal (.code (.region id all true) :: k) C s := fun B a w ha =>
  wpIn_region_any hm (h B a _ ha.drew)

theorem AW.anyDone {fuel : Nat} {listed : Array Bool} (hr : Region.ready .any all listed = []) (h : AW P R Φ .normal k C s) : AW P R Φ .normal (.any all fuel listed :: k) C s := fun B a w ha =>
  wpAnyIn_done hr (h B a w ha) fuel

theorem take_sound {i fuel : Nat} {listed : Array Bool} {s' : St} (hsel : Region.noSelect all = true) (hr : (Region.ready .any all listed).contains i = true) (hf : Region.free .any all listed i = true) (hs : takeOne P all i s = some s') (hΦ : ∀ c C s, ¬ Φ (.panic c) C s)
    (h : AW P none Φ .normal (.any all fuel (listed.setIfInBounds i true) :: k) C s') : AW P none Φ .normal (.any all (fuel + 1) listed :: k) C s := fun B a w ha => by
  obtain ⟨hd0, E, hE⟩ := ha
  unfold takeOne at hs
  split at hs
  · rename_i o ho
    split at hs
    · rename_i d hd
      have hw : (∀ j want, o.guard = some (j, want) → aguard all s j want = some want) → wiOp P s o.op = true → astep P o s = some s' → den P none Φ (.any all (fuel + 1) listed :: k) .normal a w := by
        intro hg h1 h2
        obtain ⟨hwi, hab⟩ := wi_spec hE hd h1 h2
        obtain ⟨r', x, w', E', k1, k2, k3⟩ := astep_sound hE h2
        obtain ⟨rfl, k4⟩ := hwi w r' w' k1
        have hwant : Region.wanted o (yielded all a.tmps) = true := by
          cases hgd : o.guard with
          | none => simp [Region.wanted, hgd]
          | some g =>
            obtain ⟨j, want⟩ := g
            simp [Region.wanted, hgd, aguard_sound hE (hg j want hgd)]
        rcases k2 with rfl | ⟨rfl, rfl⟩
        · exact wpAnyIn_take (F := fence none) rfl ho hsel hf hr (fun c a w hq => absurd hq (den_panic hΦ k c _ w)) ⟨.inl ⟨hwant, k4⟩, hab⟩ (h B _ _ ⟨by rw [put_defers]; exact hd0, E', k3⟩)
        · -- an operation without a value has no slot
          exfalso
          unfold astep at h2
          rw [hd] at h2
          simp only at h2
          split at h2
          · unfold putO at h2
            split at h2
            · rename_i v hv
              obtain ⟨y, q1, _⟩ := aval_put (o := o) (d := d) hE hv
              rw [q1] at k1; cases k1
            · cases h2
          · unfold orElse at h2
            split at h2
            · rename_i s2 hv
              obtain ⟨y, w2, E2, q1, _⟩ := aeff_sound (o := o) hE hv
              rw [q1] at k1; cases k1
            · split at h2
              · rename_i v hv
                obtain ⟨y, q1, _⟩ := aval_put (o := o) (d := d) hE hv
                rw [q1] at k1; cases k1
              · cases h2
      split at hs
      · rename_i hg
        split at hs
        · rename_i h1
          exact hw (fun j want hgd => by rw [hg] at hgd; cases hgd) h1 hs
        · cases hs
      · rename_i j want hg
        split at hs
        · rename_i b hb
          split at hs
          · rename_i hbw
            subst hbw
            split at hs
            · rename_i h1
              exact hw (fun j' want' hgd => by rw [hg] at hgd; cases hgd; exact hb) h1 hs
            · cases hs
          · rename_i hbw
            split at hs
            case isFalse => cases hs
            rename_i hne
            cases hs
            have hnw : Region.wanted o (yielded all a.tmps) = false := by simp [Region.wanted, hg, aguard_sound hE hb, hbw]
            have hy : Yields P all o undef a := .inr ⟨hnw, rfl⟩
            refine wpAnyIn_first (F := fence none) (v := undef) (oi := o) rfl ho (Region.noSelect_spec hsel) (fun c a w hq => absurd hq (den_panic hΦ k c _ w)) fuel listed a w (Region.free_spec ho hf) (by simpa using hr) ⟨hy, fun w => ?_⟩ ?_
            · unfold Oper.about
              split
              · rename_i c hc
                rw [hc] at hne
                simp only [noEnter] at hne
                split at hne
                · rename_i bb hbb
                  simp [resolve, hbb, Target.leads]
                · cases hne
              · rfl
            · have := h B _ w (AS.unwanted (d := d) ⟨hd0, E, hE⟩)
              rw [hd]; exact this
        · cases hs
    · cases hs
  · cases hs

/-- What needs no world is done first. -/
theorem AW.takes (pl : List Nat) {fuel : Nat} {listed listed' : Array Bool} {s' : St} (h : AW P none Φ .normal (.any all fuel listed' :: k) C s') (hs : Ck.takes P all pl s = some s') (hΦ : ∀ c C s, ¬ Φ (.panic c) C s)
    (hc : takeChk all pl listed = some listed') (hsel : Region.noSelect all = true) : AW P none Φ .normal (.any all (fuel + pl.length) listed :: k) C s := by
  induction pl generalizing listed s with
  | nil =>
    simp only [Ck.takes] at hs
    simp only [takeChk] at hc
    cases hs; cases hc
    exact h
  | cons i r ih =>
    simp only [Ck.takes] at hs
    simp only [takeChk] at hc
    split at hs
    · rename_i s1 h1
      split at hc
      · rename_i hch
        simp only [Bool.and_eq_true] at hch
        rw [List.length_cons, ← Nat.add_assoc]
        exact take_sound hsel hch.1 hch.2 h1 hΦ (ih hs hc)
      · cases hc
    · cases hs

theorem wpIn_congrQ {o : Oper} {a : Act} {w : World} {K K' : Act → World → Prop} {Q Q' : Exit → Act → World → Prop} (hQ : ∀ e a w, e ≠ .normal → Q e a w → Q' e a w) (hK : ∀ a w, K a w → K' a w) (h : o.wpIn (fence R) 0 P a w K Q) : o.wpIn (fence R) 0 P a w K' Q' := by
  refine ⟨h.1, ?_⟩
  have hh := h.2
  generalize (o.semAt (fence R).round a.eval).run P w = r at *
  have hend : ∀ (e : Ending) (w'' : World), (match e with
      | .returned v => K (a.put o.dst v) w''
      | .panicked chain => Q (.panic chain) a w''
      | .outgrown => LetsOut Q : Prop) → (match e with
      | .returned v => K' (a.put o.dst v) w''
      | .panicked chain => Q' (.panic chain) a w''
      | .outgrown => LetsOut Q' : Prop) := by
    intro e w'' he
    cases e with
    | returned v => exact hK _ _ he
    | panicked c => exact hQ _ _ _ (by simp) he
    | outgrown =>
      obtain ⟨a0, w0, hq⟩ := he
      exact ⟨a0, w0, hQ _ _ _ (by simp) hq⟩
  cases r with
  | ok x w' =>
    cases x <;> simp only [Oper.uponIn] at hh ⊢ <;>
      first
        | exact hK _ _ hh
        | exact ⟨hh.1, CallsIn.mono hh.2 (fun e w h => by have := hend e w; cases e <;> exact this h)⟩
        | exact ⟨hh.1, RowsIn.mono hh.2 (fun _ _ he => hK _ _ he)⟩
        | exact ⟨hh.1, RoundIn.mono hh.2 (fun e w h => by have := hend e w; cases e <;> exact this h)⟩
  | halt x w' => cases x <;> simp only [Oper.uponIn] at hh ⊢ <;> exact hQ _ _ _ (by simp) hh

theorem den_any {fuel : Nat} {listed : Array Bool} {e : Exit} {a : Act} {w : World} (he : e ≠ .normal) (h : den P R Φ (.any all fuel listed :: k) e a w) : den P R Φ k e a w := by
  cases e <;> first | exact absurd rfl he | exact h

/-- The next operation, whichever it is. -/
theorem AW.branch {rs : List Nat} {fuel : Nat} {listed : Array Bool} (h : ∀ i ∈ rs, AW P R Φ .normal (.ops all (pickOps all [i]) :: .any all fuel (listed.setIfInBounds i true) :: k) C s) (hr : Region.ready .any all listed = rs) (hne : rs ≠ []) :
    AW P R Φ .normal (.any all (fuel + 1) listed :: k) C s := fun B a w ha => by
  refine wpAnyIn_all hr hne (fun i hi => ?_)
  have := h i hi B a w ha
  have hir : i ∈ Region.ready .any all listed := by rw [hr]; exact hi
  obtain ⟨_, o, ho, _⟩ := mem_ready.1 hir
  simp only [pickOps, ho, den, wpListIn] at this
  unfold wpOpIn
  simp only [ho]
  split
  · rename_i hw
    rw [if_pos hw] at this
    exact wpIn_congrQ (fun e a w he hq => den_any he hq) (fun a w hq => hq) this
  · rename_i hw
    rw [if_neg hw] at this
    exact this

theorem seq_sound (pl : List Nat) {fuel : Nat} {listed listed' : Array Bool} (hc : seqChk all pl listed = some listed') : ∀ {a : Act} {w : World}, wpListIn (fence R) 0 P all (den P R Φ (.any all fuel listed' :: k)) (pickOps all pl) a w → wpAnyIn (fence R) 0 P .any all (den P R Φ k) (fuel + pl.length) listed a w := by
  induction pl generalizing listed with
  | nil =>
    intro a w h
    simp only [seqChk] at hc
    cases hc
    exact h
  | cons i r ih =>
    intro a w h
    simp only [seqChk] at hc
    split at hc
    · rename_i hr
      have hir : i ∈ Region.ready .any all listed := by rw [hr]; simp
      obtain ⟨_, o, ho, _⟩ := mem_ready.1 hir
      rw [List.length_cons, ← Nat.add_assoc]
      refine wpAnyIn_all hr (by simp) (fun j hj => ?_)
      have hj : j = i := by simpa using hj
      subst hj
      simp only [pickOps, ho, wpListIn] at h
      unfold wpOpIn
      simp only [ho]
      split
      · rename_i hw
        rw [if_pos hw] at h
        exact wpIn_congrQ (fun e a w he hq => den_any he hq) (fun a w hq => ih hc hq) h
      · rename_i hw
        rw [if_neg hw] at h
        exact ⟨h.1, ih hc h.2⟩
    · cases hc
/-- Operations whose order is told. -/
theorem AW.seqs (pl : List Nat) {fuel : Nat} {listed listed' : Array Bool} (h : AW P R Φ .normal (.ops all (pickOps all pl) :: .any all fuel listed' :: k) C s) (hc : seqChk all pl listed = some listed') : AW P R Φ .normal (.any all (fuel + pl.length) listed :: k) C s := fun B a w ha =>
  seq_sound pl hc (h B a w ha)
end
end Go.Ck

set_option linter.unusedVariables false
namespace Go.Ck
open Go.RowKit
section
variable {P : Program} {O0 : Base} {F : Nat → Prop} {w0 w : World} {s : St} {E : Env} {tmps : Array Value}
/-- The same view from a later world: others have changed what is theirs. -/
theorem Rel.sleep (h : Rel P O0 w0 F s E tmps w) {w' : World} {F' : Nat → Prop} {ob' : Nat → Option Nat} (hg : Grow F w w') (hF1 : ∀ b, F' b → b < w'.heap.size) (hF2 : ∀ b, b < w.heap.size → F' b → F b)
    (hob : ∀ o b, ob' o = some b → E.obj o = b ∧ ∃ y, look o s.hp = some y) : Rel P ⟨E.om, ob'⟩ w' F' s E tmps w' := by
  have hA : ∀ b, b < w.heap.size → ¬ (E.om b ∨ F b) → ¬ (E.om b ∨ F' b) ∧ w'.heap[b]? = w.heap[b]? := fun b hb hn =>
    ⟨fun h1 => hn (h1.imp id (hF2 b hb)), hg.block b hb (fun h1 => hn (.inr h1))⟩
  have hom : ∀ b, E.om b → w'.heap[b]? = w.heap[b]? := fun b hb => hg.block b (h.om_lt b hb).1 (h.om_lt b hb).2
  refine { place := ?_, obj := ?_, size := h.size, i1 := h.i1, i2 := h.i2, i3 := h.i3, om_lt := fun b hb => ⟨Nat.lt_of_lt_of_le (h.om_lt b hb).1 hg.size, fun h1 => (h.om_lt b hb).2 (hF2 b (h.om_lt b hb).1 h1)⟩, om0 := fun b hb => .inl hb, na := h.na, np := h.np, gr := Grow.refl _ _, flt := hF1, ob := hob }
  · intro p v hp
    obtain ⟨x, hx, hv⟩ := h.place p v hp
    refine ⟨x, ?_, ?_⟩
    · cases p with
      | slot d => exact hx
      | part d i => exact hx
      | cell o i =>
        simp only [CV] at hx ⊢
        have : ∃ y, look o s.hp = some y := by
          simp only [St.at] at hp
          cases hl : look o s.hp with
          | none => simp [hl] at hp
          | some y => exact ⟨y, rfl⟩
        obtain ⟨y, hl⟩ := this
        exact (World.cell?_of_block (w := w) (w' := w') (a := ⟨E.obj o, i, none⟩) (hom _ (h.obj o y hl).1)).trans hx
    · cases v <;> simp only [PVal] at hv ⊢
      case own e xs => exact ⟨hv.1, hv.2.1.kept hA (fun b hb => hom b (hv.2.2 b hb)), hv.2.2⟩
      case tup vs => exact hv
      all_goals exact hv.grow hA
  · intro o y hl
    obtain ⟨h1, h2⟩ := h.obj o y hl
    refine ⟨h1, ?_⟩
    have hb := hom _ h1
    cases y with
    | cells e cs =>
      obtain ⟨vs, h3, h4⟩ := h2
      exact ⟨vs, hb.trans h3, h4⟩
    | mp es =>
      obtain ⟨ms, c, h3, h4, h5⟩ := h2
      exact ⟨ms, c, hb.trans h3, h4, fun i kv m hk hm => ⟨(h5 i kv m hk hm).1.mono hA, (h5 i kv m hk hm).2.mono hA⟩⟩

/-- Blocks that nothing of the state lies in are given up: they are others' from here on. -/
theorem Rel.shrink (h : Rel P O0 w0 F s E tmps w) (M : Nat → Prop) (hM : ∀ b, M b → E.om b) (hobj : ∀ o y, look o s.hp = some y → ¬ M (E.obj o)) (hown : ∀ p e xs b, s.at p = some (.own e xs) → (E.hdr p).ownBlock = some b → ¬ M b)
    {ob' : Nat → Option Nat} (hob : ∀ o b, ob' o = some b → E.obj o = b ∧ ∃ y, look o s.hp = some y) :
    Rel P ⟨fun b => E.om b ∧ ¬ M b, ob'⟩ w (fun b => F b ∨ M b) s { E with om := fun b => E.om b ∧ ¬ M b } tmps w := by
  classical
  have hA : ∀ b, b < w.heap.size → ¬ (E.om b ∨ F b) → ¬ ((E.om b ∧ ¬ M b) ∨ (F b ∨ M b)) ∧ w.heap[b]? = w.heap[b]? := fun b _ hn =>
    ⟨fun h1 => hn (h1.elim (fun h2 => .inl h2.1) (fun h2 => h2.elim .inr (fun h3 => .inl (hM b h3)))), rfl⟩
  have hrs : ∀ {v x}, RS P (fun b => E.om b ∨ F b) E w v x → RS P (fun b => (E.om b ∧ ¬ M b) ∨ (F b ∨ M b)) { E with om := fun b => E.om b ∧ ¬ M b } w v x := by
    intro v x hv
    have h1 := hv.grow hA
    induction h1 with
    | pv p x h => exact .pv p x h
    | nils => exact .nils
    | al p => exact .al (E := { E with om := fun b => E.om b ∧ ¬ M b }) p
    | vw p e off n x h => exact .vw p e off n x h
    | ptr o off => exact .ptr (E := { E with om := fun b => E.om b ∧ ¬ M b }) o off
    | ea p e i j b h => exact .ea p e i j b h
    | ra c j vs ad hs h hm => exact .ra c j vs ad hs h hm
    | fn f caps vs hl h1 h ih => exact .fn f caps vs hl h1 (fun i c v hc hv => by
        have hc1 := List.all_eq_true.1 h1 c (List.mem_of_getElem? hc)
        have h2 := h i c v hc hv
        cases c <;> simp [SV.simple] at hc1
        · cases h2 with | pv _ _ h2 => exact .pv _ _ h2
        · cases h2; exact .ptr (E := { E with om := fun b => E.om b ∧ ¬ M b }) _ _)
    | agg cs vs hl h1 h ih => exact .agg cs vs hl h1 (fun i c v hc hv => by
        have h2 := CP.ofRS h1 (List.mem_of_getElem? hc) (h i c v hc hv)
        exact h2.rs)
    | mp o => exact .mp (E := { E with om := fun b => E.om b ∧ ¬ M b }) o
    | yl l => exact .yl l
    | os o off n cap hc => exact .os (E := { E with om := fun b => E.om b ∧ ¬ M b }) o off n cap hc
    | lit xs g cur e fr h1 h2 h3 => exact .lit xs g cur e fr h1 h2 h3
  refine { place := ?_, obj := ?_, size := h.size, i1 := h.i1, i2 := h.i2, i3 := h.i3, om_lt := fun b hb => ⟨(h.om_lt b hb.1).1, fun h1 => h1.elim (h.om_lt b hb.1).2 hb.2⟩, om0 := fun b hb => .inl hb, na := h.na, np := h.np, gr := Grow.refl _ _, flt := fun b hb => hb.elim (fun h1 => Nat.lt_of_lt_of_le (h.flt b h1) h.gr.size) (fun h1 => (h.om_lt b (hM b h1)).1), ob := hob }
  · intro p v hp
    obtain ⟨x, hx, hv⟩ := h.place p v hp
    refine ⟨x, hx, ?_⟩
    cases v <;> simp only [PVal] at hv ⊢
    case own e xs => exact ⟨hv.1, hv.2.1.kept hA (fun _ _ => rfl), fun b hb => ⟨hv.2.2 b hb, hown p e xs b hp hb⟩⟩
    case tup vs => exact hv
    all_goals exact hrs hv
  · intro o y hl
    obtain ⟨h1, h2⟩ := h.obj o y hl
    refine ⟨⟨h1, hobj o y hl⟩, ?_⟩
    cases y with
    | cells e cs => exact h2
    | mp es =>
      obtain ⟨ms, c, h3, h4, h5⟩ := h2
      exact ⟨ms, c, h3, h4, fun i kv m hk hm => ⟨(h5 i kv m hk hm).1.mono hA, (h5 i kv m hk hm).2.mono hA⟩⟩
end
/-- Nothing is deferred. -/
def plain (X : Bs → Prop) : Cx := fun B d => d = [] ∧ X B

/-- A call of yield with these values, where the others are as X tells: they are as X1 tells behind it, and it has said 'go on', or as X0 tells, and it has said 'no more'. -/
def YieldOK (P : Program) (l : Nat) (X : Bs → Prop) (ps : List PV) (X1 X0 : Bs → Prop) : Prop :=
  ∀ (B : Bs) (M : Nat → Prop) (w : World) (vals : List Value), X B → (∀ b, M b → (B.O.blk b ∨ B.w.heap.size ≤ b) ∧ b < w.heap.size ∧ ¬ B.F b) → (∀ b, B.F b → b < B.w.heap.size) → Grow B.O.blk B.w w → vals.length = ps.length →
    (∀ (i : Nat) (p : PV) (x : Value), ps[i]? = some p → vals[i]? = some x → RO (fun b => M b ∨ B.F b) w p x) →
    ∃ fn tmps assign body, (Instr.yield l vals.toArray).run P w = .ok (.round l fn tmps assign body) w ∧ RoundIn Fence.wide 0 P l fn tmps assign body w (fun e w' => ∃ (b : Bool) (F' : Nat → Prop), e = .returned (.bool b) ∧
      (if b = true then X1 else X0) ⟨⟨M, fun _ => none⟩, w', F'⟩ ∧ Grow B.F w w' ∧ (∀ b, F' b → b < w'.heap.size) ∧ (∀ b, b < w.heap.size → F' b → B.F b))

section
variable {P : Program} {Φ : Exit → Cx → St → Prop} {k : List It} {s : St}
theorem evs_pv {O0 : Base} {F : Nat → Prop} {w0 w : World} {E : Env} {a : Act} (h : Rel P O0 w0 F s E a.tmps w) : ∀ {l : List Operand} {ps : List PV}, evs s l = some (ps.map .pv) → l.length = ps.length ∧ ∀ (i : Nat) (p : PV) (x : Value), ps[i]? = some p → (l.map a.eval)[i]? = some x → RO (fun b => E.om b ∨ F b) w p x
  | [], ps, he => by
    simp [evs] at he
    subst he
    exact ⟨rfl, by simp⟩
  | x :: l, ps, he => by
    simp only [evs] at he
    split at he
    · rename_i v vs h1 h2
      cases ps with
      | nil => simp at he
      | cons p ps =>
        simp only [List.map_cons, Option.some.injEq, List.cons.injEq] at he
        obtain ⟨rfl, rfl⟩ := he
        obtain ⟨k1, k2⟩ := evs_pv h h2
        refine ⟨by simp [k1], fun i q y hq hy => ?_⟩
        cases i with
        | zero =>
          simp at hq hy
          subst hq; subst hy
          have := ev_rs h h1
          cases this with | pv _ _ h => exact h
        | succ i => exact k2 i q y (by simpa using hq) (by simpa using hy)
    · cases he

/-- A call of yield. -/
theorem AW.yield {all : Array Oper} {o : Oper} {r : List Oper} {d l : Nat} {c : Call} {fx : Operand} {ps : List PV} {X X1 X0 : Bs → Prop} (hY : YieldOK P l X ps X1 X0) (hf : ev s fx = some (.yl l)) (hx : evs s c.args.toList = some (ps.map .pv))
    (k1 : AW P none Φ .normal (.ops all r :: k) (plain X1) (put d (.pv (.bool true)) s)) (k0 : AW P none Φ .normal (.ops all r :: k) (plain X0) (put d (.pv (.bool false)) s))
    (hg : o.guard = none := by rfl) (ho : o.op = .call c := by rfl) (hd : o.dst = some d := by rfl) (hc : c.callee = .value fx := by rfl) : AW P none Φ .normal (.ops all (o :: r) :: k) (plain X) s := fun B a w ha => by
  simp only [den]
  refine wpListIn_want (by simp [Region.wanted, hg]) (fun c' hc' => by rw [ho] at hc'; cases hc') ?_
  obtain ⟨⟨⟨hdf, hX⟩, hob, hG⟩, E, h⟩ := ha
  have hgk := Rel.gok hG h
  obtain ⟨k2, k3⟩ := evs_pv h hx
  have e1 : a.eval fx = .func (.yield l) #[] #[] := by
    have := ev_rs h hf
    generalize a.eval fx = z at this
    cases this; rfl
  obtain ⟨fn, tmps, assign, body, hy, hR⟩ := hY B E.om w (c.args.toList.map a.eval) hX (fun b hb => ⟨h.om0 b hb, h.om_lt b hb⟩) h.flt h.gr (by simpa using k2) k3
  have hrun : (execOp a.eval o).run P w = .ok (.round l fn tmps assign body) w := by
    have hargs : c.args.map a.eval = (c.args.toList.map a.eval).toArray := by apply Array.ext'; simp
    rw [← hargs] at hy
    simp [execOp, ho, resolve, hc, e1, Deferred.ofValue, invoke, callFunc, hy]
  rw [hrun, Oper.uponIn_round]
  refine ⟨fun h => by simp [fence, Fence.wide] at h, RoundIn.mono hR (fun e w' he => ?_)⟩
  obtain ⟨b, F', rfl, hX', hg1, hF1, hF2⟩ := he
  have hs := h.sleep (ob' := fun _ => none) hg1 hF1 hF2 (fun o b hb => by cases hb)
  have hG' : GOK P (fun b => E.om b ∨ F' b) w' := hgk.mono (fun b hb hn => ⟨fun h1 => hn (h1.imp id (hF2 b hb)), hg1.block b hb (fun h1 => hn (.inr h1))⟩) hg1.size
  have hp := hs.putGood (v := .pv (.bool b)) d (.pv _ _) (.pv _ _ (.bool b))
  simp only
  rw [hd]
  cases b with
  | true => exact k1 ⟨⟨E.om, fun _ => none⟩, w', F'⟩ _ w' ⟨⟨⟨by rw [put_defers]; exact hdf, hX'⟩, fun o _ => rfl, hG'⟩, E, hp⟩
  | false => exact k0 ⟨⟨E.om, fun _ => none⟩, w', F'⟩ _ w' ⟨⟨⟨by rw [put_defers]; exact hdf, hX'⟩, fun o _ => rfl, hG'⟩, E, hp⟩
end
/-- An iterator that hands on xs 0, xs 1, ..: N: where it ends, or where it has been told 'no more' at the latest. -/
def Iter (P : Program) (f : FuncId) (caps : List SV) (H : List (Nat × HO)) (xs : Nat → Option (List PV)) : Prop :=
  (∃ fn, P.funcs[f]? = some fn ∧ (fn.name == "runtime.NumGoroutine") = false ∧ fn.body.isNone = false) ∧
  ∀ (l : Nat) (X : Nat → Bs → Prop) (X0 : Bs → Prop) (N : Nat), (∀ i, i < N → ∃ p, xs i = some p ∧ YieldOK P l (X i) p (X (i + 1)) X0) → (xs N = none ∨ ∀ B, ¬ X N B) →
    ∀ (B : Bs) (E : Env) (vals : List Value), vals.length = caps.length + 1 → X 0 B → (∀ o, o < 1000 → B.O.ob o = none) → GOK P (fun b => B.O.blk b ∨ B.F b) B.w →
      Rel P B.O B.w B.F ⟨vals.length, zslots (.yl l :: caps) 0, H⟩ E vals.toArray B.w →
      Calls P f vals.toArray B.w (fun e w' => ∃ v B', e = .returned v ∧ ((xs N = none ∧ X N B') ∨ X0 B') ∧ Grow B'.O.blk B'.w w' ∧ (∀ b, B'.F b → b < B'.w.heap.size))

theorem Iter.of_body {P : Program} {f : FuncId} {fn : Func} {c : Code} {caps : List SV} {H : List (Nat × HO)} {xs : Nat → Option (List PV)} {n : Nat} (hf : P.funcs[f]? = some fn) (hb : fn.body = some c) (hn : n = caps.length + 1 + (fn.ntmps - (caps.length + 1))) (hname : (fn.name == "runtime.NumGoroutine") = false) (hres : fn.results.toList = [])
    (h : ∀ (l : Nat) (X : Nat → Bs → Prop) (X0 : Bs → Prop) (N : Nat), (∀ i, i < N → ∃ p, xs i = some p ∧ YieldOK P l (X i) p (X (i + 1)) X0) → (xs N = none ∨ ∀ B, ¬ X N B) →
      AW P none (fun e C' s' => (e = .normal ∨ e = .ret) ∧ ((xs N = none ∧ C' = plain (X N)) ∨ C' = plain X0)) .normal [.code c] (plain (X 0)) ⟨n, zslots (.yl l :: caps) 0, H⟩) : Iter P f caps H xs := by
  refine ⟨⟨fn, hf, hname, by simp [hb]⟩, fun l X X0 N hY hN B E vals hl hX hob hG hR => ?_⟩
  refine calls_of_wp hf hb ?_
  have h0 := hR.extend (u := Array.replicate (fn.ntmps - vals.toArray.size) undef) (n := n) (by simp [hn, hl])
  have hw := h l X X0 N hY hN B { tmps := vals.toArray ++ Array.replicate (fn.ntmps - vals.toArray.size) undef, defers := [] } B.w ⟨⟨⟨rfl, hX⟩, hob, hG⟩, E, h0⟩
  simp only [den] at hw
  refine wp_mono ((wpIn_wide (n := 0)).1 hw) (fun e a w' hq => ?_)
  obtain ⟨C', s', B', ⟨he, hC⟩, ⟨hC', _⟩, E', hE⟩ := hq
  have hd : a.defers = [] ∧ ((xs N = none ∧ X N B') ∨ X0 B') := by
    rcases hC with ⟨h1, rfl⟩ | rfl
    · exact ⟨hC'.1, .inl ⟨h1, hC'.2⟩⟩
    · exact ⟨hC'.1, .inr hC'.2⟩
  have hrun : (results fn a.tmps).run P w' = .ok (pack []) w' := run_results (us := []) (by rw [hres]; simp)
  have fin : a.defers = [] ∧ ∃ v, (results fn a.tmps).run P w' = .ok v w' ∧ ∃ v' B', Ending.returned v = .returned v' ∧ ((xs N = none ∧ X N B') ∨ X0 B') ∧ Grow B'.O.blk B'.w w' ∧ (∀ b, B'.F b → b < B'.w.heap.size) :=
    ⟨hd.1, _, hrun, _, B', rfl, hd.2, hE.gr, hE.flt⟩
  rcases he with rfl | rfl
  · exact fin
  · exact fin
end Go.Ck

set_option linter.unusedVariables false
namespace Go.Ck
open Go.RowKit
/-- Values that stay as they are, whatever a round does. -/
def stableV : SV → Bool
  | .pv _ | .nils | .ptr _ _ | .fn _ [] => true
  | _ => false
def stableL : List (Nat × SV) → Bool
  | [] => true
  | (_, v) :: r => stableV v && stableL r
theorem stableL_spec : ∀ {sl : List (Nat × SV)}, stableL sl = true → ∀ d v, look d sl = some v → stableV v = true
  | [], _, d, v, h => by simp [look] at h
  | (k, u) :: r, hs, d, v, h => by
    simp only [stableL, Bool.and_eq_true] at hs
    simp only [look] at h
    split at h
    · cases h; exact hs.1
    · exact stableL_spec hs.2 d v h

/-- The slots of a frame that a round leaves alone. -/
def SlOK (P : Program) (A : Nat → Prop) (E : Env) (w : World) (t : Array Value) (sl : List (Nat × SV)) : Prop := ∀ d v, look d sl = some v → ∃ x, t[d]? = some x ∧ RS P A E w v x

section
variable {P : Program} {O0 : Base} {F : Nat → Prop} {w0 w : World} {s : St} {E : Env} {tmps : Array Value}
theorem Rel.slOK {n : Nat} {sl : List (Nat × SV)} {hp : List (Nat × HO)} (h : Rel P O0 w0 F ⟨n, sl, hp⟩ E tmps w) (hs : stableL sl = true) : SlOK P (fun b => E.om b ∨ F b) E w tmps sl := fun d v hl => by
  obtain ⟨x, hx, hv⟩ := h.place (.slot d) v hl
  refine ⟨x, hx, ?_⟩
  have := stableL_spec hs d v hl
  cases v <;> simp [stableV] at this <;> exact hv

theorem SlOK.move {A A' : Nat → Prop} {E E' : Env} {w w' : World} {t : Array Value} {sl : List (Nat × SV)} (h : SlOK P A E w t sl) (hs : stableL sl = true) (hA : ∀ b, b < w.heap.size → ¬ A b → ¬ A' b ∧ w'.heap[b]? = w.heap[b]?)
    (ho : ∀ d v o, look d sl = some v → v.pts o = true → E'.obj o = E.obj o) : SlOK P A' E' w' t sl := fun d v hl => by
  obtain ⟨x, hx, hv⟩ := h d v hl
  refine ⟨x, hx, ?_⟩
  have hst := stableL_spec hs d v hl
  cases v <;> simp [stableV] at hst
  · cases hv with | pv _ _ hv => exact .pv _ _ (hv.mono hA)
  · cases hv; exact .nils
  · rename_i o off
    cases hv
    have := ho d _ o hl (by simp [SV.pts])
    rw [← this]; exact .ptr (E := E') o off
  · rename_i f caps
    cases hv with | fn _ _ vs hl2 h1 h2 =>
    cases caps with
    | nil => exact .fn _ [] vs hl2 h1 (by simp)
    | cons c r => simp at hst

/-- Another frame over the same objects. -/
theorem Rel.frame {t' : Array Value} {n' : Nat} {sl' : List (Nat × SV)} (h : Rel P O0 w0 F s E tmps w) (hs : stableL sl' = true) (hsl : SlOK P (fun b => E.om b ∨ F b) E w t' sl') (hn : n' = t'.size) (hpt : ∀ d v o, look d sl' = some v → v.pts o = true → ∃ y, look o s.hp = some y) :
    Rel P O0 w0 F ⟨n', sl', s.hp⟩ E t' w := by
  have hslot : ∀ d v, look d sl' = some v → stableV v = true := fun d v hl => stableL_spec hs d v hl
  have hcell : ∀ p v, (St.mk n' sl' s.hp).at p = some v → (∃ d, p = .slot d ∧ look d sl' = some v) ∨ ((∃ o i, p = .cell o i) ∧ s.at p = some v) := by
    intro p v hp
    cases p with
    | slot d => exact .inl ⟨d, rfl, hp⟩
    | part d i =>
      simp only [St.at] at hp
      split at hp
      · rename_i vs hvs
        have := hslot d _ hvs
        simp [stableV] at this
      · cases hp
    | cell o i => exact .inr ⟨⟨o, i, rfl⟩, hp⟩
  have hown : ∀ p e xs, (St.mk n' sl' s.hp).at p = some (.own e xs) → (∃ o i, p = .cell o i) ∧ s.at p = some (.own e xs) := by
    intro p e xs hp
    rcases hcell p _ hp with ⟨d, rfl, hl⟩ | h2
    · have := hslot d _ hl
      simp [stableV] at this
    · exact h2
  refine { place := ?_, obj := h.obj, size := hn, i1 := h.i1, i2 := fun p q e xs e' ys b hp hq => h.i2 p q e xs e' ys b (hown p e xs hp).2 (hown q e' ys hq).2, i3 := fun p e xs o y b hp => h.i3 p e xs o y b (hown p e xs hp).2, om_lt := h.om_lt, om0 := h.om0, na := ?_, np := ?_, gr := h.gr, flt := h.flt, ob := h.ob }
  · intro p v hp
    rcases hcell p v hp with ⟨d, rfl, hl⟩ | ⟨⟨o, i, rfl⟩, h2⟩
    · obtain ⟨x, hx, hv⟩ := hsl d v hl
      refine ⟨x, hx, ?_⟩
      have := hslot d v hl
      cases v <;> simp [stableV] at this <;> exact hv
    · exact h.place _ v h2
  · intro p v q hp hq
    rcases hcell p v hp with ⟨d, rfl, hl⟩ | ⟨⟨o, i, rfl⟩, h2⟩
    · have := hslot d v hl
      cases v <;> simp [stableV] at this <;> simp [SV.on] at hq
    · obtain ⟨⟨d, h3⟩, _⟩ := h.na _ v q h2 hq
      cases h3
  · intro p v o hp ho
    rcases hcell p v hp with ⟨d, rfl, hl⟩ | ⟨⟨o', i, rfl⟩, h2⟩
    · exact hpt d v o hl ho
    · exact h.np _ v o h2 ho
end
/-- What a round begins with: the parameters' slots. -/
def putParams : List Tmp → List PV → List (Nat × SV) → List (Nat × SV)
  | t :: ts, p :: ps, sl => putParams ts ps ((t, .pv p) :: sl)
  | _, _, sl => sl
theorem putParams_stable : ∀ (ts : List Tmp) (ps : List PV) (sl : List (Nat × SV)), stableL sl = true → stableL (putParams ts ps sl) = true
  | [], _, sl, h => by simpa [putParams] using h
  | t :: ts, [], sl, h => by simpa [putParams] using h
  | t :: ts, p :: ps, sl, h => putParams_stable ts ps _ (by simp [stableL, stableV, h])
theorem putParams_pts : ∀ (ts : List Tmp) (ps : List PV) (sl : List (Nat × SV)) (d : Nat) (v : SV) (o : Nat), look d (putParams ts ps sl) = some v → v.pts o = true → ∃ d', look d' sl = some v
  | [], _, sl, d, v, o, h, _ => ⟨d, by simpa [putParams] using h⟩
  | t :: ts, [], sl, d, v, o, h, _ => ⟨d, by simpa [putParams] using h⟩
  | t :: ts, p :: ps, sl, d, v, o, h, hp => by
    obtain ⟨d', h1⟩ := putParams_pts ts ps _ d v o h hp
    simp only [look] at h1
    split at h1
    · cases h1; simp [SV.pts] at hp
    · exact ⟨d', h1⟩
theorem putParams_ok {P : Program} {A : Nat → Prop} {E : Env} {w : World} : ∀ (ts : List Tmp) (ps : List PV) (vals : List Value) (t : Array Value) (sl : List (Nat × SV)), vals.length = ps.length → ps.length = ts.length → (∀ x ∈ ts, x < t.size) → SlOK P A E w t sl → (∀ (i : Nat) (p : PV) (x : Value), ps[i]? = some p → vals[i]? = some x → RO A w p x) →
    SlOK P A E w ((ts.zip vals).foldl (fun tmps q => tmps.setIfInBounds q.1 q.2) t) (putParams ts ps sl)
  | [], ps, vals, t, sl, _, _, _, h, _ => by simpa [putParams] using h
  | x :: ts, [], vals, t, sl, _, h2, _, h, _ => by simp at h2
  | x :: ts, p :: ps, [], t, sl, h1, _, _, h, _ => by simp at h1
  | x :: ts, p :: ps, v :: vals, t, sl, h1, h2, h3, h, hr => by
    simp only [List.zip_cons_cons, List.foldl_cons, putParams]
    refine putParams_ok ts ps vals _ _ (by simpa using h1) (by simpa using h2) (fun y hy => by simpa using h3 y (by simp [hy])) (fun d u hl => ?_) (fun i q y hq hy => hr (i + 1) q y (by simpa using hq) (by simpa using hy))
    simp only [look] at hl
    by_cases hd : x = d
    · subst hd
      rw [if_pos rfl] at hl
      cases hl
      exact ⟨v, by simp [h3 x (by simp)], .pv _ _ (hr 0 p v rfl rfl)⟩
    · rw [if_neg hd] at hl
      obtain ⟨y, hy, hv⟩ := h d u hl
      exact ⟨y, by rw [Array.getElem?_setIfInBounds_ne hd]; exact hy, hv⟩

/-- A mark among the deferred calls. -/
def markOf (D : Nat) : Deferred := { target := .collected D, args := #[] }
/-- Behind a range over a function: the block for the rounds' deferred calls is among the deferred calls, and empty. -/
def RF (C : Cx) : Cx := fun B d => ∃ B0 d0 D, C B0 d0 ∧ d = markOf D :: d0 ∧ (∀ b, B0.F b → B.F b) ∧ (∀ b, B0.F b → b < B0.w.heap.size) ∧ (∀ b, B.O.blk b → B0.O.blk b ∨ B0.w.heap.size ≤ b) ∧ Grow B0.O.blk B0.w B.w ∧
  (∀ o b, B0.O.ob o = some b → B.O.ob o = some b) ∧ ¬ B.O.blk D ∧ D < B.w.heap.size ∧ B0.w.heap.size ≤ D ∧ B.w.heap[D]? = some (.deferred (some [])) ∧ B.F D
end Go.Ck

set_option linter.unusedVariables false
namespace Go.Ck
open Go.RowKit
/-- How the client of an iterator sleeps while the iterator runs. -/
def CL (P : Program) (B0 : Bs) (n : Nat) (sl0 : List (Nat × SV)) (os : List Nat) (t : Array Value) (l D : Nat) (r : Loop) (hp : List (Nat × HO)) (B : Bs) : Prop :=
  ∃ Ec, Rel P ⟨Ec.om, obOf Ec hp⟩ B.w (fun b => B0.F b ∨ B.O.blk b ∨ b = l ∨ b = D) ⟨n, sl0, hp⟩ Ec t B.w ∧ (∀ b, Ec.om b → B.F b) ∧ (∀ b, B0.F b → B.F b) ∧ B.F l ∧ B.F D ∧ B.w.heap[D]? = some (.deferred (some [])) ∧ B.w.heap[l]? = some (.loop r) ∧
    (∀ b, Ec.om b → B0.O.blk b ∨ B0.w.heap.size ≤ b) ∧ (∀ b, B.O.blk b → (B0.O.blk b ∨ B0.w.heap.size ≤ b) ∧ ¬ B.F b) ∧ Grow B0.O.blk B0.w B.w ∧ (∀ o b, B0.O.ob o = some b → Ec.obj o = b ∧ ∃ y, look o hp = some y) ∧ (∀ o y, look o hp = some y → o ∈ os) ∧ D ≠ l ∧ B0.w.heap.size ≤ l ∧ B0.w.heap.size ≤ D

def jumpOf : Exit → Option Code
  | .ret => some .ret
  | .exit id => some (.exit id)
  | _ => none
def allNames (os : List Nat) (hp : List (Nat × HO)) : Bool := os.all fun o => match look o hp with | some _ => true | none => false

/-- One round of the client's. -/
def RoundI (P : Program) (n : Nat) (sl0 : List (Nat × SV)) (os : List Nat) (params : List Tmp) (assign body : Code) (I I' : List (Nat × HO) → Prop) (Xj : Code → List (Nat × HO) → Prop) (p : List PV) : Prop :=
  ∀ hp, I hp → ∀ (l : Nat) (C1 : Cx), AW P (some l) (fun e C' s' => C' = C1 ∧ e = .normal ∧ ∀ C2, AW P (some l) (fun e C' s'' => C' = C2 ∧ keptH [] os s''.hp os = true ∧ allNames os s''.hp = true ∧ ((e = .normal ∧ I' (pickH os s''.hp)) ∨ (∃ j, jumpOf e = some j ∧ Xj j (pickH os s''.hp)))) .normal [.code body] C2 s')
    .normal [.code assign] C1 ⟨n, putParams params p sl0, hp⟩

theorem putObj_grow {M : Nat → Prop} {w : World} {l : Nat} {o : Obj} (hM : M l) : Grow M w (w.putObj l o) := ⟨rfl, rfl, rfl, by simp [World.putObj], fun b hb hn => World.putObj_heap_other (fun h => hn (by rw [h]; exact hM))⟩

theorem obOf_some {E : Env} {hp : List (Nat × HO)} {o b : Nat} (h : obOf E hp o = some b) : E.obj o = b ∧ ∃ y, look o hp = some y := by
  unfold obOf at h
  split at h
  · rename_i y hy; cases h; exact ⟨rfl, y, hy⟩
  · cases h

section
variable {P : Program} {B0 : Bs} {n : Nat} {sl0 : List (Nat × SV)} {os : List Nat} {t : Array Value} {l D : Nat} {params : Array Tmp} {assign body : Code} {fn : FuncId}
/-- What a round comes to in the client's state. -/
theorem cl_after {r r' : Loop} {hp : List (Nat × HO)} {B : Bs} {M : Nat → Prop} {w w3 : World} {Ec E2 : Env} {s2 : St} {t2 : Array Value}
    (hcl : CL P B0 n sl0 os t l D r hp B) (hst : stableL sl0 = true) (hn : n = t.size)
    (hEc : Rel P ⟨Ec.om, obOf Ec hp⟩ w (fun b => B0.F b ∨ M b ∨ b = l ∨ b = D) ⟨n, sl0, hp⟩ Ec t w) (hEF : ∀ b, Ec.om b → B.F b) (hE0 : ∀ b, Ec.om b → B0.O.blk b ∨ B0.w.heap.size ≤ b) (hEob : ∀ o b, B0.O.ob o = some b → Ec.obj o = b ∧ ∃ y, look o hp = some y)
    (hM : ∀ b, M b → (B.O.blk b ∨ B.w.heap.size ≤ b) ∧ b < w.heap.size ∧ ¬ B.F b) (hBF : ∀ b, B.F b → b < B.w.heap.size) (hgw : Grow B.O.blk B.w w)
    (h2 : Rel P ⟨fun b => Ec.om b ∨ b = l, obOf Ec hp⟩ w (fun b => B0.F b ∨ M b ∨ b = l ∨ b = D) s2 E2 t2 w3) (hk : keptH [] os s2.hp os = true) (hall : allNames os s2.hp = true) (hl3 : ∃ r3, w3.heap[l]? = some (.loop r3)) :
    CL P B0 n sl0 os t l D r' (pickH os s2.hp) ⟨⟨M, fun _ => none⟩, w3.putObj l (.loop r'), fun b => E2.om b ∨ B.F b⟩ ∧ Grow B.F w (w3.putObj l (.loop r')) ∧ (∀ b, (E2.om b ∨ B.F b) → b < (w3.putObj l (.loop r')).heap.size) ∧ (∀ b, b < w.heap.size → (E2.om b ∨ B.F b) → B.F b) := by
  obtain ⟨E0, g1, g2, g3, g4, g5, g6, g7, g8, g9, g10, g11, g12, g13, g14, g15⟩ := hcl
  have hnames : ∀ o, o ∈ os → ∃ y, look o s2.hp = some y := by
    intro o ho
    have := List.all_eq_true.1 hall o ho
    split at this
    · rename_i y hy; exact ⟨y, hy⟩
    · cases this
  have hkeep := h2.keepG [] os (by simp [keptS]) hk (fun o b hb => by
    obtain ⟨_, y, hy⟩ := obOf_some hb
    exact g12 o y hy)
  have hom2 : ∀ b, E2.om b → Ec.om b ∨ w.heap.size ≤ b := fun b hb => by
    rcases h2.om0 b hb with (h3 | h3) | h3
    · exact .inl h3
    · exact absurd (.inr (.inr (.inl h3))) (h2.om_lt b hb).2
    · exact .inr h3
  -- the frame of the client
  have hsz : w.heap.size ≤ w3.heap.size := h2.gr.size
  have hobj : ∀ o y, look o hp = some y → E2.obj o = Ec.obj o := by
    intro o y hy
    exact (h2.ob o (Ec.obj o) (by simp [obOf, hy])).1
  have hsl := (hEc.slOK hst).move (A' := fun b => E2.om b ∨ (B0.F b ∨ M b ∨ b = l ∨ b = D)) (E' := E2) (w' := w3) hst (fun b hb hn => ⟨fun h1 => hn (h1.elim (fun h3 => (hom2 b h3).elim .inl (fun h4 => absurd hb (by omega))) .inr), h2.gr.block b hb (fun h1 => hn (h1.elim .inl (fun h3 => .inr (.inr (.inr (.inl h3))))))⟩) (fun d v o hl ho => by
    obtain ⟨y, hy⟩ := hEc.np (.slot d) v o hl ho
    exact hobj o y hy)
  have hfr := hkeep.frame (t' := t) (n' := n) hst hsl hn (fun d v o hl ho => by
    obtain ⟨y, hy⟩ := hEc.np (.slot d) v o hl ho
    have hos := g12 o y hy
    obtain ⟨z, hz⟩ := hnames o hos
    exact ⟨z, by simp only [Ck.keepB]; rw [look_pickH, if_pos hos]; exact hz⟩)
  obtain ⟨r3, hl3⟩ := hl3
  have hlt3 : l < w3.heap.size := (Array.getElem?_eq_some_iff.1 hl3).1
  have hsz4 : (w3.putObj l (.loop r')).heap.size = w3.heap.size := by simp [World.putObj]
  have hsleep := hfr.sleep (w' := w3.putObj l (.loop r')) (F' := fun b => B0.F b ∨ M b ∨ b = l ∨ b = D) (ob' := obOf E2 (pickH os s2.hp)) (putObj_grow (.inr (.inr (.inl rfl)))) (fun b hb => by rw [hsz4]; exact Nat.lt_of_lt_of_le (h2.flt b hb) hsz) (fun b _ hb => hb) (fun o b hb => obOf_some hb)
  have hBl : B.w.heap.size ≤ w.heap.size := hgw.size
  have hE2F : ∀ b, b < w.heap.size → E2.om b → B.F b := fun b hb h3 => (hom2 b h3).elim (fun h4 => hEF b h4) (fun h4 => absurd hb (by omega))
  have hw3l : ∀ b, b < w.heap.size → ¬ B.F b → w3.heap[b]? = w.heap[b]? := fun b hb hn => h2.gr.block b hb (fun h1 => hn (h1.elim (hEF b) (fun h3 => by rw [h3]; exact g4)))
  have hDl : D < w.heap.size := by have := hBF D g5; omega
  have hD3 : w3.heap[D]? = some (.deferred (some [])) := by
    have e1 : w3.heap[D]? = w.heap[D]? := h2.gr.block D hDl (fun h1 => h1.elim (fun h3 => (hEc.om_lt D h3).2 (.inr (.inr (.inr rfl)))) (fun h3 => g13 h3))
    have e2 : w.heap[D]? = B.w.heap[D]? := hgw.block D (hBF D g5) (fun h1 => (g9 D h1).2 g5)
    rw [e1, e2]; exact g6
  refine ⟨⟨E2, ?_, fun b hb => .inl hb, fun b hb => .inr (g3 b hb), .inr g4, .inr g5, ?_, ?_, ?_, ?_, ?_, ?_, ?_, g13, g14, g15⟩, ⟨?_, ?_, ?_, ?_, ?_⟩, ?_, ?_⟩
  · exact hsleep
  · rw [World.putObj_heap_other g13]; exact hD3
  · exact World.putObj_heap_same hlt3
  · intro b hb
    rcases hom2 b hb with h3 | h3
    · exact hE0 b h3
    · have := g10.size; exact .inr (by omega)
  · intro b hb
    obtain ⟨k1, k2, k3⟩ := hM b hb
    refine ⟨k1.elim (fun h3 => (g9 b h3).1) (fun h3 => .inr (by have := g10.size; omega)), ?_⟩
    rintro (h3 | h3)
    · exact (h2.om_lt b h3).2 (.inr (.inl hb))
    · exact k3 h3
  · -- the world has grown since the client began
    have e1 : Grow B0.O.blk B0.w w := g10.trans hgw (fun b hb => (g9 b hb).1)
    have e2 : Grow B0.O.blk B0.w w3 := e1.trans h2.gr (fun b hb => hb.elim (hE0 b) (fun h3 => by rw [h3]; exact .inr g14))
    refine e2.trans (M1 := fun b => b = l) (putObj_grow rfl) (fun b hb => ?_)
    rw [hb]; exact .inr g14
  · intro o b hb
    obtain ⟨k1, y, hy⟩ := hEob o b hb
    have hos := g12 o y hy
    obtain ⟨z, hz⟩ := hnames o hos
    exact ⟨by rw [hobj o y hy]; exact k1, z, by rw [look_pickH, if_pos hos]; exact hz⟩
  · intro o y hy
    rw [look_pickH] at hy
    split at hy
    · assumption
    · cases hy
  · exact h2.gr.os
  · exact h2.gr.tape
  · exact h2.gr.output
  · rw [hsz4]; exact hsz
  · intro b hb hn
    rw [World.putObj_heap_other (by rintro rfl; exact hn g4)]
    exact hw3l b hb hn
  · rintro b (hb | hb)
    · rw [hsz4]; exact (h2.om_lt b hb).1
    · rw [hsz4]; have := hBF b hb; omega
  · rintro b hb (h3 | h3)
    · exact hE2F b hb h3
    · exact h3
end
end Go.Ck

set_option linter.unusedVariables false
namespace Go.Ck
open Go.RowKit
theorem Grow.weaken {M M' : Nat → Prop} {w w' : World} (h : Grow M w w') (hM : ∀ b, M b → M' b) : Grow M' w w' := ⟨h.os, h.tape, h.output, h.size, fun b hb hn => h.block b hb (fun h1 => hn (hM b h1))⟩

theorem foldl_zip (t : Array Value) (params : Array Tmp) (vals : List Value) : ((params.zip vals.toArray).foldl (fun tmps (q : Tmp × Value) => tmps.setIfInBounds q.1 q.2) t) = (params.toList.zip vals).foldl (fun tmps q => tmps.setIfInBounds q.1 q.2) t := by
  rw [← Array.foldl_toList, Array.toList_zip]
theorem size_foldl (l : List (Tmp × Value)) (t : Array Value) : (l.foldl (fun tmps q => tmps.setIfInBounds q.1 q.2) t).size = t.size := by
  induction l generalizing t with
  | nil => rfl
  | cons q l ih => rw [List.foldl_cons, ih]; simp

section
variable {P : Program} {B0 : Bs} {n : Nat} {sl0 : List (Nat × SV)} {os : List Nat} {t : Array Value} {l D : Nat} {params : Array Tmp} {assign body : Code} {fn : FuncId} {I I' : List (Nat × HO) → Prop} {Xj : Code → List (Nat × HO) → Prop} {p : List PV}
def recOf (fn : FuncId) (t : Array Value) (params : Array Tmp) (assign body : Code) (D : Nat) (st : LoopState) (pend : Option Code) : Loop := { state := st, pending := pend, fn, tmps := t, params, assign, body, defers := D }

theorem round_ok (hst : stableL sl0 = true) (hn : n = t.size) (hR : RoundI P n sl0 os params.toList assign body I I' Xj p) (hpl : p.length = params.size) (hpn : ∀ x ∈ params.toList, x < n) (hG0 : GOK P (fun b => B0.O.blk b ∨ B0.F b) B0.w) :
    YieldOK P l (fun B => ∃ hp, I hp ∧ CL P B0 n sl0 os t l D (recOf fn t params assign body D .ready none) hp B) p (fun B => ∃ hp, I' hp ∧ CL P B0 n sl0 os t l D (recOf fn t params assign body D .ready none) hp B)
      (fun B => ∃ j hp, Xj j hp ∧ CL P B0 n sl0 os t l D (recOf fn t params assign body D .done (some j)) hp B) := by
  rintro B M w vals ⟨hp, hI, hcl⟩ hM hBF hgw hvl hvr
  have hcl0 := hcl
  obtain ⟨Ec, g1, g2, g3, g4, g5, g6, g7, g8, g9, g10, g11, g12, g13, g14, g15⟩ := hcl
  have hsz := hgw.size
  have hlB := hBF l g4
  have hDB := hBF D g5
  have hEc := g1.sleep (w' := w) (F' := fun b => B0.F b ∨ M b ∨ b = l ∨ b = D) (ob' := obOf Ec hp) (hgw.weaken (fun b hb => .inr (.inl hb))) (fun b hb => by
      rcases hb with h | h | rfl | rfl
      · have := hBF b (g3 b h); omega
      · exact (hM b h).2.1
      · omega
      · omega) (fun b hb h => by
      rcases h with h | h | h | h
      · exact .inl h
      · rcases (hM b h).1 with h1 | h1
        · exact .inr (.inl h1)
        · omega
      · exact .inr (.inr (.inl h))
      · exact .inr (.inr (.inr h))) (fun o b hb => obOf_some hb)
  have hwl : w.heap[l]? = some (.loop (recOf fn t params assign body D .ready none)) := by
    rw [hgw.block l hlB (fun h => (g9 l h).2 g4)]; exact g7
  have hG : ∀ (om : Nat → Prop) (w' : World), (∀ b, om b → B0.O.blk b ∨ B0.w.heap.size ≤ b) → Grow (fun b => Ec.om b ∨ b = l) w w' → GOK P (fun b => om b ∨ (B0.F b ∨ M b ∨ b = l ∨ b = D)) w' := by
    intro om w' h1 h2
    refine hG0.mono (fun b hb hnb => ⟨?_, ?_⟩) (Nat.le_trans (Nat.le_trans g10.size hsz) h2.size)
    · have hbl : b ≠ l := by omega
      have hbD : b ≠ D := by omega
      rintro (h | h | h | h | h)
      · rcases h1 b h with h3 | h3
        · exact hnb (.inl h3)
        · omega
      · exact hnb (.inr h)
      · rcases (hM b h).1 with h3 | h3
        · rcases (g9 b h3).1 with h4 | h4
          · exact hnb (.inl h4)
          · omega
        · have := g10.size; omega
      · exact hbl h
      · exact hbD h
    · have e1 : B.w.heap[b]? = B0.w.heap[b]? := g10.block b hb (fun h => hnb (.inl h))
      have hbB : b < B.w.heap.size := Nat.lt_of_lt_of_le hb g10.size
      have e2 : w.heap[b]? = B.w.heap[b]? := hgw.block b hbB (fun h => (g9 b h).1.elim (fun h4 => hnb (.inl h4)) (fun h4 => by omega))
      have e3 : w'.heap[b]? = w.heap[b]? := h2.block b (by omega) (fun h => h.elim (fun h3 => (g8 b h3).elim (fun h4 => hnb (.inl h4)) (fun h4 => by omega)) (fun h3 => by omega))
      rw [e3, e2, e1]
  -- the round's frame
  let t1 := (params.toList.zip vals).foldl (fun tmps q => tmps.setIfInBounds q.1 q.2) t
  have hsl1 : SlOK P (fun b => Ec.om b ∨ (B0.F b ∨ M b ∨ b = l ∨ b = D)) Ec w t1 (putParams params.toList p sl0) :=
    putParams_ok params.toList p vals t sl0 hvl (by simpa using hpl) (fun x hx => by rw [← hn]; exact hpn x hx) (hEc.slOK hst) (fun i q x hq hx => (hvr i q x hq hx).sub (fun b hb h => hb (by
      rcases h with h | h | h | h | h
      · exact .inr (g2 b h)
      · exact .inr (g3 b h)
      · exact .inl h
      · rw [h]; exact .inr g4
      · rw [h]; exact .inr g5)))
  have hfr := hEc.frame (t' := t1) (n' := n) (putParams_stable _ _ _ hst) hsl1 (by rw [hn, size_foldl]) (fun d v o hl ho => by
    obtain ⟨d', h1⟩ := putParams_pts _ _ _ d v o hl ho
    exact hEc.np (.slot d') v o h1 ho)
  have hy := run_yield (P := P) (args := vals.toArray) hwl (by simp [recOf, hvl, hpl])
  refine ⟨fn, t1, assign, body, ?_, roundIn_of_wpIn (F := Fence.wide) trivial ?_⟩
  · rw [hy]
    have := foldl_zip t params vals
    simp only [recOf]
    exact congrArg (fun z => Result.ok (Next.round l fn z assign body) w) this
  let Bc1 : Bs := ⟨⟨Ec.om, obOf Ec hp⟩, w, fun b => B0.F b ∨ M b ∨ b = l ∨ b = D⟩
  have hA := hR hp hI l (fun B' d => d = [] ∧ B' = Bc1) Bc1 { tmps := t1, defers := [] } w ⟨⟨⟨rfl, rfl⟩, fun o ho => by simp [lim] at ho, hG Ec.om w g8 (Grow.refl _ _)⟩, Ec, hfr⟩
  simp only [den] at hA
  refine wpIn_mono hA (fun e a1 w1 hq => ?_)
  obtain ⟨C', s', B', ⟨rfl, rfl, hbody⟩, ⟨⟨hd1, rfl⟩, _, _⟩, E1, h1⟩ := hq
  have hlw : l < w.heap.size := by omega
  have hw1l : w1.heap[l]? = some (.loop (recOf fn t params assign body D .ready none)) := by
    rw [h1.gr.block l hlw (fun h => (hEc.om_lt l h).2 (.inr (.inr (.inl rfl))))]; exact hwl
  have hbr := run_beginRound (P := P) hw1l rfl
  refine ⟨_, hbr, ?_⟩
  let w2 := w1.putObj l (.loop (recOf fn t params assign body D .busy none))
  have hw2 : w2 = w1.putObj l (.loop { (recOf fn t params assign body D .ready none) with state := .busy }) := rfl
  rw [← hw2]
  have h1' := h1.sleep (w' := w2) (F' := Bc1.F) (ob' := obOf Ec hp) (putObj_grow (.inr (.inr (.inl rfl)))) (fun b hb => by
    have := h1.flt b hb
    have := h1.gr.size
    simp only [w2, World.putObj, Array.size_setIfInBounds]
    omega) (fun b _ hb => hb) h1.ob
  have hE1 : ∀ b, E1.om b → Ec.om b ∨ w.heap.size ≤ b := h1.om0
  have hg12 : Grow (fun b => Ec.om b ∨ b = l) w w2 := (h1.gr.weaken (fun b hb => .inl hb)).trans (M1 := fun b => b = l) (putObj_grow rfl) (fun b hb => .inl (.inr hb))
  let Bc2 : Bs := ⟨⟨E1.om, obOf Ec hp⟩, w2, Bc1.F⟩
  have hBd := hbody (fun B' d => d = [] ∧ B' = Bc2) Bc2 a1 w2 ⟨⟨⟨hd1, rfl⟩, fun o ho => by simp [lim] at ho, hG E1.om w2 (fun b hb => (hE1 b hb).elim (g8 b) (fun h => .inr (by have := g10.size; omega))) hg12⟩, E1, h1'⟩
  simp only [den] at hBd
  refine wpIn_mono hBd (fun e a2 w3 hq => ?_)
  obtain ⟨C', s2, B', ⟨rfl, hk, hall, hend⟩, ⟨⟨hd2, rfl⟩, _, _⟩, E2, h2⟩ := hq
  have hl12 : l < w1.heap.size := (Array.getElem?_eq_some_iff.1 hw1l).1
  have hw2l : w2.heap[l]? = some (.loop (recOf fn t params assign body D .busy none)) := World.putObj_heap_same hl12
  have hw3l : w3.heap[l]? = some (.loop (recOf fn t params assign body D .busy none)) := by
    rw [h2.gr.block l (Array.getElem?_eq_some_iff.1 hw2l).1 (fun h => (h1'.om_lt l h).2 (.inr (.inr (.inl rfl))))]; exact hw2l
  have hg13 : Grow (fun b => Ec.om b ∨ b = l) w w3 := hg12.trans h2.gr (fun b hb => (hE1 b hb).imp .inl id)
  have hE2 : ∀ b, E2.om b → Ec.om b ∨ w.heap.size ≤ b := fun b hb => by
    rcases h2.om0 b hb with h | h
    · exact hE1 b h
    · have := hg12.size
      exact .inr (Nat.le_trans this h)
  have h2' : Rel P ⟨fun b => Ec.om b ∨ b = l, obOf Ec hp⟩ w (fun b => B0.F b ∨ M b ∨ b = l ∨ b = D) s2 E2 a2.tmps w3 := h2.rebase (fun b hb => hb) (fun b hb => (hE2 b hb).imp .inl id) hg13 h1.flt h2.ob
  have fin : ∀ r', CL P B0 n sl0 os t l D r' (pickH os s2.hp) ⟨⟨M, fun _ => none⟩, w3.putObj l (.loop r'), fun b => E2.om b ∨ B.F b⟩ ∧ Grow B.F w (w3.putObj l (.loop r')) ∧ (∀ b, (E2.om b ∨ B.F b) → b < (w3.putObj l (.loop r')).heap.size) ∧ (∀ b, b < w.heap.size → (E2.om b ∨ B.F b) → B.F b) := fun r' =>
    cl_after hcl0 hst hn hEc g2 g8 g11 hM hBF hgw h2' hk hall ⟨_, hw3l⟩
  rcases hend with ⟨rfl, hI'⟩ | ⟨j, hj, hX⟩
  · obtain ⟨f1, f2, f3, f4⟩ := fin (recOf fn t params assign body D .ready none)
    exact ⟨_, _, run_endRound none hw3l, true, _, rfl, ⟨_, hI', f1⟩, f2, f3, f4⟩
  · obtain ⟨f1, f2, f3, f4⟩ := fin (recOf fn t params assign body D .done (some j))
    cases e <;> simp [jumpOf] at hj
    · subst hj
      exact ⟨_, _, run_endRound _ hw3l, false, _, rfl, ⟨_, _, hX, f1⟩, f2, f3, f4⟩
    · subst hj
      exact ⟨_, _, run_endRound _ hw3l, false, _, rfl, ⟨_, _, hX, f1⟩, f2, f3, f4⟩
end
end Go.Ck
