/- What is proved here: parts of the proofs of this seat's statements (a verified evaluator for calls over pure values, its laws, and contracts of functions). No condition. -/
import Derived.Below
import Derived.Calls
import Derived.Deep.Draws
import Derived.Laws.Strings
import Derived.WalkKit
import Derived.Laws.Append
import Derived.ChangeKeysEq
import Derived.Laws.BytesArg
import Derived.Deep.AppendSrc
import Derived.Deep.Upon
import Derived.Great.BuildSlice
set_option linter.all false
set_option linter.unusedVariables false
/-! Pure values, and how they lie in memory. -/
namespace Go.Ck

/-- A value without places: what a program computes with. -/
inductive PV where
  | int (k : IntKind) (n : Int)
  | bool (b : Bool)
  | str (s : List UInt8)
  | sl (z : Nat) (xs : List PV)
  | agg (cs : List PV)
  | iface (t : TypeId) (v : PV)
  | nili | nilp | nilf
  deriving Inhabited

def PV.cells : PV → List PV
  | .agg cs => cs
  | v => [v]
def PV.one : PV → Bool
  | .agg _ => false
  | _ => true
/-- A list's cells. -/
def flat (xs : List PV) : List PV := xs.flatMap PV.cells
theorem flat_nil : flat [] = [] := rfl
theorem flat_cons (x : PV) (xs : List PV) : flat (x :: xs) = x.cells ++ flat xs := by simp [flat]
theorem flat_append (xs ys : List PV) : flat (xs ++ ys) = flat xs ++ flat ys := by simp [flat]

/-- How a pure value is read; none of the blocks that are read is one of A. -/
inductive RO (A : Nat → Prop) (w : World) : PV → Value → Prop where
  | int (k : IntKind) (n : Int) : RO A w (.int k n) (.int k n)
  | bool (b : Bool) : RO A w (.bool b) (.bool b)
  | str (s : List UInt8) : RO A w (.str s) (.string ⟨s.toArray⟩)
  | sl (z : Nat) (xs : List PV) (vs : List Value) (a : Option Addr) (cap : Nat) (hl : vs.length = (flat xs).length)
      (h1 : ∀ c ∈ flat xs, c.one = true)
      (hr : ∀ (i : Nat) (c : PV) (v : Value), (flat xs)[i]? = some c → vs[i]? = some v → RO A w c v)
      (hm : ∀ (i : Nat) (v : Value), vs[i]? = some v → ∃ ad : Addr, a = some ad ∧ ¬ A ad.block ∧ w.cell? (ad.add i) = some v)
      (hz : ∀ x ∈ xs, x.cells.length = z) (hb : xs.length ≤ maxLen) (hcap : xs.length ≤ cap) : RO A w (.sl z xs) (.slice a xs.length cap)
  | agg (cs : List PV) (vs : Array Value) (hl : vs.size = cs.length) (h1 : ∀ c ∈ cs, c.one = true)
      (hr : ∀ (i : Nat) (c : PV) (v : Value), cs[i]? = some c → vs[i]? = some v → RO A w c v) : RO A w (.agg cs) (.agg vs)
  | iface (t : TypeId) (v : PV) (x : Value) (h : RO A w v x) : RO A w (.iface t v) (.iface t x)
  | nili : RO A w .nili .nilIface
  | nilp : RO A w .nilp (.pointer none)
  | nilf : RO A w .nilf .nilFunc

theorem add_block (a : Addr) (n : Nat) : (a.add n).block = a.block := by unfold Addr.add; split <;> rfl

theorem RO.mono {A A' : Nat → Prop} {w w' : World} (h : ∀ b, b < w.heap.size → ¬ A b → ¬ A' b ∧ w'.heap[b]? = w.heap[b]?) {p : PV} {x : Value} (hr : RO A w p x) : RO A' w' p x := by
  induction hr with
  | int k n => exact .int k n
  | bool b => exact .bool b
  | str s => exact .str s
  | sl z xs vs a cap hl h1 hr hm hz hb hcap ih =>
    refine .sl z xs vs a cap hl h1 ih (fun i v hv => ?_) hz hb hcap
    obtain ⟨ad, e, hA, hc⟩ := hm i v hv
    have hlt := World.block_lt_of_cell? w _ hc
    rw [add_block] at hlt
    obtain ⟨h2, h3⟩ := h ad.block hlt hA
    refine ⟨ad, e, h2, ?_⟩
    rw [← hc]
    exact World.cell?_of_block (by rw [add_block]; exact h3)
  | agg cs vs hl h1 hr ih => exact .agg cs vs hl h1 ih
  | iface t v x h ih => exact .iface t v x ih
  | nili => exact .nili
  | nilp => exact .nilp
  | nilf => exact .nilf

theorem RO.oneCell {A : Nat → Prop} {w : World} {p : PV} {x : Value} (hr : RO A w p x) (h1 : p.one = true) : x.oneCell' = true := by
  cases hr <;> first | rfl | simp [PV.one] at h1

theorem RO.cells_of_one {A : Nat → Prop} {w : World} {p : PV} {x : Value} (hr : RO A w p x) (h1 : p.one = true) : x.cells = #[x] ∧ p.cells = [p] := by
  cases hr <;> first | exact ⟨rfl, rfl⟩ | simp [PV.one] at h1

/-- Cells, one by one. -/
def ROs (A : Nat → Prop) (w : World) (cs : List PV) (vs : List Value) : Prop :=
  vs.length = cs.length ∧ (∀ c ∈ cs, c.one = true) ∧ ∀ (i : Nat) (c : PV) (v : Value), cs[i]? = some c → vs[i]? = some v → RO A w c v

theorem ROs.mono {A A' : Nat → Prop} {w w' : World} (h : ∀ b, b < w.heap.size → ¬ A b → ¬ A' b ∧ w'.heap[b]? = w.heap[b]?) {cs : List PV} {vs : List Value} (hr : ROs A w cs vs) : ROs A' w' cs vs :=
  ⟨hr.1, hr.2.1, fun i c v hc hv => (hr.2.2 i c v hc hv).mono h⟩

theorem ROs.nil (A : Nat → Prop) (w : World) : ROs A w [] [] := ⟨rfl, by simp, by simp⟩

theorem ROs.append {A : Nat → Prop} {w : World} {cs ds : List PV} {vs us : List Value} (h : ROs A w cs vs) (k : ROs A w ds us) : ROs A w (cs ++ ds) (vs ++ us) := by
  refine ⟨by simp [h.1, k.1], ?_, ?_⟩
  · intro c hc
    rcases List.mem_append.1 hc with hc | hc
    · exact h.2.1 c hc
    · exact k.2.1 c hc
  · intro i c v hc hv
    by_cases hi : i < cs.length
    · rw [List.getElem?_append_left hi] at hc
      rw [List.getElem?_append_left (by rw [h.1]; exact hi)] at hv
      exact h.2.2 i c v hc hv
    · rw [List.getElem?_append_right (by omega)] at hc
      rw [List.getElem?_append_right (by rw [h.1]; omega), h.1] at hv
      exact k.2.2 _ c v hc hv

theorem ROs.drop {A : Nat → Prop} {w : World} {cs : List PV} {vs : List Value} (h : ROs A w cs vs) (n : Nat) : ROs A w (cs.drop n) (vs.drop n) := by
  refine ⟨by simp [h.1], fun c hc => h.2.1 c (List.mem_of_mem_drop hc), fun i c v hc hv => ?_⟩
  rw [List.getElem?_drop] at hc hv
  exact h.2.2 _ c v hc hv

theorem ROs.take {A : Nat → Prop} {w : World} {cs : List PV} {vs : List Value} (h : ROs A w cs vs) (n : Nat) : ROs A w (cs.take n) (vs.take n) := by
  refine ⟨by simp [h.1], fun c hc => h.2.1 c (List.mem_of_mem_take hc), fun i c v hc hv => ?_⟩
  rw [List.getElem?_take] at hc hv
  split at hc
  · rename_i hi
    rw [if_pos hi] at hv
    exact h.2.2 _ c v hc hv
  · cases hc

theorem ROs.at {A : Nat → Prop} {w : World} {cs : List PV} {vs : List Value} (h : ROs A w cs vs) {i : Nat} {c : PV} (hc : cs[i]? = some c) : ∃ v, vs[i]? = some v ∧ RO A w c v := by
  have hi : i < cs.length := (List.getElem?_eq_some_iff.1 hc).1
  have hi' : i < vs.length := by rw [h.1]; exact hi
  exact ⟨vs[i], List.getElem?_eq_getElem hi', h.2.2 i c _ hc (List.getElem?_eq_getElem hi')⟩

theorem ROs.set {A : Nat → Prop} {w : World} {cs : List PV} {vs : List Value} (h : ROs A w cs vs) (i : Nat) {c : PV} {v : Value} (hr : RO A w c v) (h1 : c.one = true) : ROs A w (cs.set i c) (vs.set i v) := by
  refine ⟨by simp [h.1], fun d hd => ?_, fun j d u hd hu => ?_⟩
  · rcases List.mem_or_eq_of_mem_set hd with hd | rfl
    · exact h.2.1 d hd
    · exact h1
  · rw [List.getElem?_set] at hd hu
    split at hd
    · rename_i e
      subst e
      split at hd
      · rename_i hi
        rw [if_pos rfl, if_pos (by rw [h.1]; exact hi)] at hu
        cases hd
        cases hu
        exact hr
      · cases hd
    · rename_i e
      rw [if_neg e] at hu
      exact h.2.2 j d u hd hu

/-- A value's cells. -/
theorem RO.cellsROs {A : Nat → Prop} {w : World} {p : PV} {x : Value} (hr : RO A w p x) : ROs A w p.cells x.cells.toList := by
  cases hp : p.one with
  | true =>
    obtain ⟨e1, e2⟩ := hr.cells_of_one hp
    rw [e1, e2]
    refine ⟨rfl, by simpa using hp, fun i c v hc hv => ?_⟩
    cases i with
    | zero => simp at hc hv; subst hc; subst hv; exact hr
    | succ i => simp at hc
  | false =>
    cases hr <;> simp [PV.one] at hp
    rename_i cs vs hl h1 hr
    exact ⟨by simpa [PV.cells, Value.cells] using hl, by simpa [PV.cells] using h1, fun i c v hc hv => hr i c v (by simpa [PV.cells] using hc) (by simpa [Value.cells] using hv)⟩

/-- The reading of a slice, in one piece. -/
theorem RO.slParts {A : Nat → Prop} {w : World} {z : Nat} {xs : List PV} {x : Value} (h : RO A w (.sl z xs) x) : ∃ vs a cap, x = .slice a xs.length cap ∧ ROs A w (flat xs) vs ∧ (∀ (i : Nat) (v : Value), vs[i]? = some v → ∃ ad : Addr, a = some ad ∧ ¬ A ad.block ∧ w.cell? (ad.add i) = some v) ∧ (∀ x ∈ xs, x.cells.length = z) ∧ xs.length ≤ maxLen ∧ xs.length ≤ cap := by
  cases h with
  | sl _ _ vs a cap hl h1 hr hm hz hb hc => exact ⟨vs, a, cap, rfl, ⟨hl, h1, hr⟩, hm, hz, hb, hc⟩
theorem RO.mkSl {A : Nat → Prop} {w : World} {z : Nat} {xs : List PV} {vs : List Value} {a : Option Addr} {cap : Nat} (h : ROs A w (flat xs) vs) (hm : ∀ (i : Nat) (v : Value), vs[i]? = some v → ∃ ad : Addr, a = some ad ∧ ¬ A ad.block ∧ w.cell? (ad.add i) = some v) (hz : ∀ x ∈ xs, x.cells.length = z) (hb : xs.length ≤ maxLen) (hcap : xs.length ≤ cap) : RO A w (.sl z xs) (.slice a xs.length cap) :=
  .sl z xs vs a cap h.1 h.2.1 h.2.2 hm hz hb hcap

theorem flat_length {xs : List PV} {z : Nat} (h : ∀ x ∈ xs, x.cells.length = z) : (flat xs).length = xs.length * z := by
  induction xs with
  | nil => simp [flat]
  | cons x xs ih =>
    rw [flat_cons, List.length_append, h x (by simp), ih (fun y hy => h y (by simp [hy])), List.length_cons, Nat.add_mul, Nat.one_mul, Nat.add_comm]

theorem flat_drop {xs : List PV} {z : Nat} (h : ∀ x ∈ xs, x.cells.length = z) (n : Nat) : flat (xs.drop n) = (flat xs).drop (n * z) := by
  induction n generalizing xs with
  | zero => simp
  | succ n ih =>
    cases xs with
    | nil => simp [flat]
    | cons x xs =>
      have hx := h x (by simp)
      have e : (n + 1) * z = z + n * z := by rw [Nat.add_mul, Nat.one_mul, Nat.add_comm]
      rw [List.drop_succ_cons, ih (fun y hy => h y (by simp [hy])), flat_cons, e, ← List.drop_drop, ← hx, List.drop_left]

theorem flat_take {xs : List PV} {z : Nat} (h : ∀ x ∈ xs, x.cells.length = z) (n : Nat) : flat (xs.take n) = (flat xs).take (n * z) := by
  induction n generalizing xs with
  | zero => simp [flat]
  | succ n ih =>
    cases xs with
    | nil => simp [flat]
    | cons x xs =>
      have hx := h x (by simp)
      have e : (n + 1) * z = x.cells.length + n * z := by rw [Nat.add_mul, Nat.one_mul, Nat.add_comm, hx]
      rw [List.take_succ_cons, flat_cons, ih (fun y hy => h y (by simp [hy])), flat_cons, e, List.take_length_add_append]

theorem flat_at {xs : List PV} {z i : Nat} (h : ∀ x ∈ xs, x.cells.length = z) {x : PV} (hx : xs[i]? = some x) (j : Nat) (hj : j < z) : (flat xs)[i * z + j]? = x.cells[j]? := by
  obtain ⟨hi, he⟩ := List.getElem?_eq_some_iff.1 hx
  have e : flat xs = flat (xs.take i) ++ (x.cells ++ flat (xs.drop (i + 1))) := by
    rw [← flat_cons, ← flat_append, ← he, ← List.drop_eq_getElem_cons hi, List.take_append_drop]
  rw [e, List.getElem?_append_right (by rw [flat_length (fun y hy => h y (List.mem_of_mem_take hy))]; simp; rw [Nat.min_eq_left (by omega)]; omega), flat_length (fun y hy => h y (List.mem_of_mem_take hy)), List.length_take, Nat.min_eq_left (by omega), Nat.add_sub_cancel_left,
    List.getElem?_append_left (by rw [h x (by rw [← he]; exact List.getElem_mem hi)]; exact hj)]

theorem flat_set {xs : List PV} {z i : Nat} (h : ∀ x ∈ xs, x.cells.length = z) {x : PV} (hi : i < xs.length) (hx : x.cells.length = z) : flat (xs.set i x) = (flat xs).take (i * z) ++ x.cells ++ (flat xs).drop (i * z + z) := by
  rw [List.set_eq_take_append_cons_drop, if_pos hi, flat_append, flat_cons, flat_take h, flat_drop h, List.append_assoc, Nat.add_mul, Nat.one_mul]

end Go.Ck

set_option linter.unusedVariables false
/-! The state of a call over pure values, and what an operation does to it. -/
namespace Go.Ck

/-- Where a value lies: a slot, a part of a tuple in a slot, a cell of an object. -/
inductive Place where
  | slot (d : Nat)
  | part (d i : Nat)
  | cell (o i : Nat)
  deriving DecidableEq

inductive SV where
  | pv (p : PV)
  | own (e : TypeId) (xs : List PV)
  | nils
  | al (p : Place)
  | vw (p : Place) (e off n : Nat)
  | ptr (o off : Nat)
  | ea (p : Place) (e i j : Nat)
  | ra (c : PV) (j : Nat)
  | fn (f : FuncId) (caps : List SV)
  | tup (vs : List SV)
  | agg (cs : List SV)
  | mp (o : Nat)
  | yl (l : Nat)
  | dead
  deriving Inhabited

inductive HO where
  | cells (e : TypeId) (cs : List SV)
  | mp (es : List (PV × PV))

structure St where
  n : Nat
  sl : List (Nat × SV)
  hp : List (Nat × HO)

def look {α : Type} (d : Nat) : List (Nat × α) → Option α
  | [] => none
  | (k, v) :: r => if k = d then some v else look d r

def St.at (s : St) : Place → Option SV
  | .slot d => look d s.sl
  | .part d i => (match look d s.sl with | some (.tup vs) => vs[i]? | _ => none)
  | .cell o i => (match look o s.hp with | some (.cells _ cs) => cs[i]? | _ => none)

/-- Does a value hang on what lies at p? -/
def SV.on (p : Place) : SV → Bool
  | .al q => decide (q = p)
  | .vw q _ _ _ => decide (q = p)
  | .ea q _ _ _ => decide (q = p)
  | _ => false

/-- Does a value point into object o? -/
def SV.pts (o : Nat) : SV → Bool
  | .ptr o' _ => o' == o
  | .mp o' => o' == o
  | .fn _ caps => caps.any fun | .ptr o' _ => o' == o | _ => false
  | _ => false
/-- May it be captured? -/
def SV.simple : SV → Bool
  | .ptr _ _ => true
  | .pv _ => true
  | _ => false
def setSlot (d : Nat) (v : SV) (s : St) : St := ⟨s.n, (d, v) :: s.sl, s.hp⟩
def killL (p : Place) : List (Nat × SV) → List (Nat × SV)
  | [] => []
  | (d, v) :: r => (d, if v.on p then .dead else v) :: killL p r
def kill (p : Place) (s : St) : St := ⟨s.n, killL p s.sl, s.hp⟩
/-- Ahead of a new value in slot d. -/
def clear (d : Nat) (s : St) : St := match look d s.sl with | some (.own _ _) => kill (.slot d) s | _ => s
def put (d : Nat) (v : SV) (s : St) : St := if d < s.n then setSlot d (if v.on (.slot d) then .dead else v) (clear d s) else s
def setObj (o : Nat) (h : HO) : List (Nat × HO) → List (Nat × HO)
  | [] => []
  | (k, v) :: r => if k = o then (k, h) :: r else (k, v) :: setObj o h r
/-- What lies at p is another value now. -/
def setAt (p : Place) (v : SV) (s : St) : St := match p with
  | .slot d => setSlot d v s
  | .part d i => (match look d s.sl with | some (.tup vs) => setSlot d (.tup (vs.set i v)) s | _ => s)
  | .cell o i => (match look o s.hp with | some (.cells e cs) => ⟨s.n, s.sl, setObj o (.cells e (cs.set i v)) s.hp⟩ | _ => s)
/-- What lay at p is gone. -/
def del (p : Place) (s : St) : St := setAt p .dead (kill p s)

def ofConst : Value → Option SV
  | .int k n => some (.pv (.int k n))
  | .bool b => some (.pv (.bool b))
  | .string s => some (.pv (.str s.data.toList))
  | .slice none 0 0 => some .nils
  | .pointer none => some (.pv .nilp)
  | .nilFunc => some (.pv .nilf)
  | .nilIface => some (.pv .nili)
  | _ => none

def ev (s : St) : Operand → Option SV
  | .tmp t => match look t s.sl with
    | some (.own _ _) => some (.al (.slot t))
    | some .dead => none
    | some (.tup _) => none
    | r => r
  | .const v => ofConst v
  | .func f => some (.fn f [])
  | .global _ => none

/-- A slice's elements. -/
def cont (s : St) : SV → Option (List PV)
  | .pv (.sl _ xs) => some xs
  | .nils => some []
  | .al p => (match s.at p with | some (.own _ xs) => some xs | _ => none)
  | .vw p e off n => (match s.at p with | some (.own e' xs) => if e' = e then some ((xs.drop off).take n) else none | _ => none)
  | _ => none

/-! ### types -/
inductive TK where
  | int (k : IntKind) | bool | str
  | sl (e ez eb : Nat) (ea : Bool)
  | arr (n e ez : Nat) (ea : Bool)
  | st (fs : List (Nat × Nat × Bool))
  | ptr (e : TypeId)
  | map (k e : TypeId)
  | fn | iface | other

def isAggT (P : Program) (t : TypeId) : Bool := match P.underlying t with | some (.struct _) => true | some (.array _ _) => true | _ => false
/-- How many cells a type has, and is it a struct or an array? -/
def tsh (P : Program) (t : TypeId) : Option (Nat × Bool) := match P.underlying t, P.info? t with
  | some (.struct _), some i => some (i.size, true)
  | some (.array _ _), some i => some (i.size, true)
  | some _, some i => some (i.size, false)
  | _, _ => none
def tk (P : Program) (t : TypeId) : TK := match P.underlying t with
  | some (.int k) => .int k
  | some .bool => .bool
  | some .string => .str
  | some (.slice e) => .sl e (P.cellsOf e) (P.bytesOf e) (isAggT P e)
  | some (.array n e) => .arr n e (P.cellsOf e) (isAggT P e)
  | some (.struct fs) => .st (fs.toList.map fun f => match tsh P f.type with | some (z, ag) => (f.offset, z, ag) | none => (f.offset, 0, false))
  | some (.pointer e) => .ptr e
  | some (.map k e) => .map k e
  | some (.func _ _ _) => .fn
  | some (.interface _) => .iface
  | _ => .other
def ofConsts : List Value → Option (List SV)
  | [] => some []
  | v :: r => (match ofConst v, ofConsts r with | some x, some xs => some (x :: xs) | _, _ => none)
/-- A type's zero value, cell by cell. -/
def zcs (P : Program) (t : TypeId) : Option (List SV) := match P.info? t with
  | some i => (match i.zero with | some v => if v.cells.size = i.size then ofConsts v.cells.toList else none | none => none)
  | none => none

/-! ### numbers -/
def ibits (op : BinOp) (k : IntKind) (x y : Int) : Int :=
  let a := BitVec.ofInt k.bits x
  let b := BitVec.ofInt k.bits y
  match op with
  | .and => k.wrap (a &&& b).toNat
  | .or => k.wrap (a ||| b).toNat
  | .xor => k.wrap (a ^^^ b).toNat
  | .andNot => k.wrap (a &&& ~~~b).toNat
  | _ => 0
def shlI (k : IntKind) (x y : Int) : Int := k.wrap (x * 2 ^ (min y.toNat k.bits))
def shrI (k : IntKind) (x y : Int) : Int := x.fdiv (2 ^ (min y.toNat k.bits))
def abin (op : BinOp) (x y : PV) : Option PV := match x, y with
  | .int k a, .int k' b => match op with
    | .shl => if b < 0 then none else some (.int k (shlI k a b))
    | .shr => if b < 0 then none else some (.int k (shrI k a b))
    | .add => if k = k' then some (.int k (k.wrap (a + b))) else none
    | .sub => if k = k' then some (.int k (k.wrap (a - b))) else none
    | .mul => if k = k' then some (.int k (k.wrap (a * b))) else none
    | .quo => if k = k' then if b = 0 then none else some (.int k (k.wrap (a.tdiv b))) else none
    | .rem => if k = k' then if b = 0 then none else some (.int k (a.tmod b)) else none
    | .and => if k = k' then some (.int k (ibits .and k a b)) else none
    | .or => if k = k' then some (.int k (ibits .or k a b)) else none
    | .xor => if k = k' then some (.int k (ibits .xor k a b)) else none
    | .andNot => if k = k' then some (.int k (ibits .andNot k a b)) else none
    | .eql => if k = k' then some (.bool (a == b)) else none
    | .neq => if k = k' then some (.bool (a != b)) else none
    | .lss => if k = k' then some (.bool (decide (a < b))) else none
    | .leq => if k = k' then some (.bool (decide (a ≤ b))) else none
    | .gtr => if k = k' then some (.bool (decide (a > b))) else none
    | .geq => if k = k' then some (.bool (decide (a ≥ b))) else none
  | .str a, .str b => match op with
    | .eql => some (.bool (a == b))
    | .neq => some (.bool (!(a == b)))
    | .lss => some (.bool (Op.bytesLess a b))
    | .gtr => some (.bool (!(Op.bytesLess a b || a == b)))
    | .leq => some (.bool (Op.bytesLess a b || a == b))
    | .geq => some (.bool (!(Op.bytesLess a b)))
    | _ => none
  | .bool a, .bool b => match op with
    | .eql => some (.bool (a == b))
    | .neq => some (.bool (!(a == b)))
    | _ => none
  | _, _ => none
def pvO : Option PV → Option SV
  | some p => some (.pv p)
  | none => none
def TK.isBool : TK → Bool
  | .bool => true
  | _ => false
def TK.isPtr : TK → Bool
  | .ptr _ => true
  | _ => false
def eqSV (c : Bool) : BinOp → Option SV
  | .eql => some (.pv (.bool c))
  | .neq => some (.pv (.bool (!c)))
  | _ => none
def abinS (T : TK) (op : BinOp) (x y : SV) : Option SV := match x, y with
  | .pv (.int k a), .pv (.int k' b) => pvO (abin op (.int k a) (.int k' b))
  | .pv (.str a), .pv (.str b) => pvO (abin op (.str a) (.str b))
  | .pv (.bool a), .pv (.bool b) => if T.isBool then pvO (abin op (.bool a) (.bool b)) else none
  | .pv .nilp, .pv .nilp => if T.isPtr then eqSV true op else none
  | .ptr _ _, .pv .nilp => if T.isPtr then eqSV false op else none
  | _, _ => none
def aun (op : UnOp) (x : PV) : Option PV := match op, x with
  | .neg, .int k n => some (.int k (k.wrap (0 - n)))
  | .xor, .int k n => some (.int k (ibits .xor k (if k.signed then -1 else k.max) n))
  | .not, .bool b => some (.bool (!b))
  | _, _ => none
def numsOf : List PV → Option (List Int)
  | [] => some []
  | .int .u8 n :: r => (match numsOf r with | some l => some (n :: l) | none => none)
  | _ => none
def ofNums (l : List Int) : List UInt8 := l.map fun n => UInt8.ofNat n.toNat
def strO : Option (List Int) → Option SV
  | some l => some (.pv (.str (ofNums l)))
  | none => none
def bstrO : Option (List PV) → Option SV
  | some xs => strO (numsOf xs)
  | none => none
def convT (s : St) (x : SV) (A B : TK) (C : TypeId → TK) : Option SV := match A, B with
  | .int _, .int k => (match x with | .pv (.int _ n) => some (.pv (.int k (k.wrap n))) | _ => none)
  | .str, .str => (match x with | .pv (.str l) => some (.pv (.str l)) | _ => none)
  | .sl e _ _ _, .str => (match C e with
    | .int .u8 => bstrO (cont s x)
    | _ => none)
  | _, _ => none
def aconv (P : Program) (s : St) (src dst : TypeId) (x : SV) : Option SV := convT s x (tk P src) (tk P dst) (tk P)

/-! ### reading -/
/-- A part of an element's cells. -/
def subP (c : PV) (j : Nat) : Option (Nat × Bool) → Option PV
  | some (z, true) => if j + z ≤ c.cells.length then some (.agg ((c.cells.drop j).take z)) else none
  | some (1, false) => c.cells[j]?
  | _ => none
def allPV : List SV → Option (List PV)
  | [] => some []
  | .pv p :: r => (match allPV r with | some ps => some (p :: ps) | none => none)
  | _ :: _ => none
def aggO : Option (List PV) → Option SV
  | some ps => some (.pv (.agg ps))
  | none => none
def cellO (o off : Nat) : Option SV → Option SV
  | some (.own _ _) => some (.al (.cell o off))
  | some .dead => none
  | some (.tup _) => none
  | r => r
def elemO (j : Nat) (T : Option (Nat × Bool)) : Option PV → Option SV
  | some c => pvO (subP c j T)
  | none => none
def ownO (e i j : Nat) (T : Option (Nat × Bool)) : Option SV → Option SV
  | some (.own e' xs) => if e' = e then elemO j T xs[i]? else none
  | _ => none
def objO (o off : Nat) (T : Option (Nat × Bool)) : Option HO → Option SV
  | some (.cells _ cs) => (match T with
    | some (z, true) => if off + z ≤ cs.length then aggO (allPV ((cs.drop off).take z)) else none
    | some (1, false) => cellO o off cs[off]?
    | _ => none)
  | _ => none
def aload (T : Option (Nat × Bool)) (s : St) : SV → Option SV
  | .ra c j => pvO (subP c j T)
  | .ea p e i j => ownO e i j T (s.at p)
  | .ptr o off => objO o off T (look o s.hp)
  | _ => none
def raO : Option PV → Option SV
  | some c => some (.ra c 0)
  | none => none
def eaO (p : Place) (e k : Nat) : Option SV → Option SV
  | some (.own e' xs) => if e' = e ∧ k < xs.length then some (.ea p e k 0) else none
  | _ => none
def indexT (s : St) (k : Int) (x : SV) : TK → Option SV
  | .sl e ez _ _ => if ez = 0 then none else (match x with
    | .pv (.sl z xs) => if z = ez then raO xs[k.toNat]? else none
    | .al p => eaO p e k.toNat (s.at p)
    | .vw p e' off n => if e' = e ∧ k.toNat < n then some (.ea p e (off + k.toNat) 0) else none
    | _ => none)
  | .arr n _ ez _ => if ez = 0 then none else (match x with
    | .ptr o off => if k < n then some (.ptr o (off + k.toNat * ez)) else none
    | _ => none)
  | _ => none
def aindexAddr (P : Program) (s : St) (t : TypeId) (x : SV) : SV → Option SV
  | .pv (.int _ k) => if k < 0 then none else indexT s k x (tk P t)
  | _ => none
def afieldAddr (P : Program) (t : TypeId) (x : SV) (f : Nat) : Option SV := match tk P t with
  | .st fs => match fs[f]? with
    | some (fo, fz, _) => if fz = 0 then none else match x with
      | .ptr o off => some (.ptr o (off + fo))
      | .ea p e i j => some (.ea p e i (j + fo))
      | .ra c j => some (.ra c (j + fo))
      | _ => none
    | none => none
  | _ => none
def afield (P : Program) (t : TypeId) (x : SV) (f : Nat) : Option SV := match tk P t with
  | .st fs => match fs[f]? with
    | some (fo, fz, fa) => match x with
      | .pv (.agg cs) => if fz = 0 then none else pvO (subP (.agg cs) fo (some (fz, fa)))
      | _ => none
    | none => none
  | _ => none
def alen (s : St) : SV → Option Int
  | .pv (.str l) => some l.length
  | .mp o => (match look o s.hp with | some (.mp es) => some es.length | _ => none)
  | v => (match cont s v with | some xs => some xs.length | none => none)
def optInt : Option SV → Option (Option Int)
  | none => some none
  | some (.pv (.int _ n)) => some (some n)
  | _ => none
/-- x[lo:hi] -/
def sliceV (l n : Nat) (x : SV) : TK → Option SV
  | .sl e ez _ _ => (match x with
    | .pv (.sl z xs) => if z = ez ∧ ez ≠ 0 then some (.pv (.sl z ((xs.drop l).take n))) else none
    | .al p => if ez = 0 then none else some (.vw p e l n)
    | .vw p e' off m => if e' = e ∧ ez ≠ 0 then some (.vw p e (off + l) n) else none
    | .nils => if ez = 0 then none else some .nils
    | _ => none)
  | .str => (match x with
    | .pv (.str xs) => some (.pv (.str ((xs.drop l).take n)))
    | _ => none)
  | _ => none
def sliceB (T : TK) (x : SV) (l h n : Int) : Option SV := if 0 ≤ l ∧ l ≤ h ∧ h ≤ n then sliceV l.toNat (h - l).toNat x T else none
def sliceN (T : TK) (x : SV) (lo hi : Option (Option Int)) : Option Int → Option SV
  | some n => (match lo, hi with
    | some lo, some hi => sliceB T x (lo.getD 0) (hi.getD n) n
    | _, _ => none)
  | none => none
def aslice (P : Program) (s : St) (t : TypeId) (x : SV) (lo hi : Option SV) : Option SV := sliceN (tk P t) x (optInt lo) (optInt hi) (alen s x)
def evs (s : St) : List Operand → Option (List SV)
  | [] => some []
  | x :: r => (match ev s x, evs s r with | some v, some vs => some (v :: vs) | _, _ => none)
def evo (s : St) : Option Operand → Option (Option SV)
  | none => some none
  | some x => (match ev s x with | some v => some (some v) | none => none)
def keyEq (a b : PV) : Option Bool := match a, b with
  | .int k x, .int k' y => if k = k' then some (x == y) else none
  | .str x, .str y => some (x == y)
  | _, _ => none
def mlook (k : PV) : List (PV × PV) → Option (Option PV)
  | [] => some none
  | (a, v) :: r => (match keyEq k a with | some true => some (some v) | some false => mlook k r | none => none)
def minI : List SV → Option SV
  | [.pv (.int k a), .pv (.int k' b)] => if k = k' then some (.pv (.int k (if b < a then b else a))) else none
  | _ => none
def maxI : List SV → Option SV
  | [.pv (.int k a), .pv (.int k' b)] => if k = k' then some (.pv (.int k (if b > a then b else a))) else none
  | _ => none

def intO : Option Int → Option SV
  | some n => some (.pv (.int .i64 n))
  | none => none
def lenT (s : St) (v : SV) : TK → Option SV
  | .str => (match v with | .pv (.str l) => some (.pv (.int .i64 l.length)) | _ => none)
  | .sl _ _ _ _ => (match v with | .mp _ => none | .pv (.str _) => none | v => intO (alen s v))
  | .map _ _ => (match v with | .mp o => intO (alen s (.mp o)) | _ => none)
  | _ => none
/-- The value of an operation that reads alone. -/
def aval (P : Program) (s : St) (ty : TypeId) : Op → Option SV
  | .move x => ev s x
  | .assign x => ev s x
  | .pick c a b => (match ev s c with
    | some (.pv (.bool true)) => (match ev s a with | some (.pv p) => some (.pv p) | _ => none)
    | some (.pv (.bool false)) => (match ev s b with | some (.pv p) => some (.pv p) | _ => none)
    | _ => none)
  | .unOp op _ x => (match ev s x with | some (.pv p) => (match aun op p with | some r => some (.pv r) | none => none) | _ => none)
  | .binOp op t x y _ => (match ev s x, ev s y with | some a, some b => abinS (tk P t) op a b | _, _ => none)
  | .convert a b x => (match ev s x with | some v => aconv P s a b v | none => none)
  | .nilCheck x => (match ev s x with | some (.ptr o off) => some (.ptr o off) | some (.ea p e i j) => some (.ea p e i j) | some (.ra c j) => some (.ra c j) | _ => none)
  | .load t x => (match ev s x with | some v => aload (tsh P t) s v | none => none)
  | .fieldAddr t x f => (match ev s x with | some v => afieldAddr P t v f | none => none)
  | .field t x f => (match ev s x with | some v => afield P t v f | none => none)
  | .indexAddr t x i => (match ev s x, ev s i with | some v, some k => aindexAddr P s t v k | _, _ => none)
  | .slice t x lo hi none => (match ev s x, evo s lo, evo s hi with | some v, some l, some h => aslice P s t v l h | _, _, _ => none)
  | .extract x i => (match x with
    | .tmp t => (match s.at (.part t i) with | some (.pv p) => some (.pv p) | _ => none)
    | _ => none)
  | .makeInterface t x => (match ev s x, tk P t with | some (.pv p), .st _ => some (.pv (.iface t p)) | _, _ => none)
  | .call c => (match c.callee with
    | .builtin .len => (match evs s c.args.toList, c.argTypes.toList with | some [v], [t] => lenT s v (tk P t) | _, _ => none)
    | .builtin .min => (match evs s c.args.toList with | some vs => minI vs | none => none)
    | .builtin .max => (match evs s c.args.toList with | some vs => maxI vs | none => none)
    | _ => none)
  | _ => none
end Go.Ck

set_option linter.unusedVariables false
/-! What an operation does to the state. -/
namespace Go.Ck

/-- A value that is put into another one: an own list is nobody's from here on. -/
def freezeO (P : Program) (s : St) (p : Place) : Option SV → Option (PV × St)
  | some (.own e xs) => some (.sl (P.cellsOf e) xs, setAt p (.pv (.sl (P.cellsOf e) xs)) (del p s))
  | _ => none
/-- Cells without places, as pure values. -/
def thaw : List SV → Option (List PV)
  | [] => some []
  | .pv p :: r => if p.one then (match thaw r with | some ps => some (p :: ps) | none => none) else none
  | .nils :: r => (match thaw r with | some ps => some (.sl 1 [] :: ps) | none => none)
  | _ :: _ => none
def freezeA (s : St) : Option (List PV) → Option (PV × St)
  | some ps => some (.agg ps, s)
  | none => none
def freeze (P : Program) (s : St) : SV → Option (PV × St)
  | .pv p => some (p, s)
  | .nils => some (.sl 1 [], s)
  | .agg cs => freezeA s (thaw cs)
  | .al p => freezeO P s p (s.at p)
  | _ => none

/-- The own list at p goes to q. -/
def transfer (p q : Place) (e : TypeId) (xs : List PV) (s : St) : St :=
  let s := setAt q (.own e xs) (kill q (del p s))
  match p with
  | .slot d => setSlot d (.al q) s
  | _ => s

def setCells (cs new : List SV) (off : Nat) : List SV := cs.take off ++ new ++ cs.drop (off + new.length)
/-- The cells of what is stored as a whole: values without places. -/
def plainCells : SV → Option (List SV)
  | .pv (.agg ps) => some (ps.map .pv)
  | .agg cs => some cs
  | _ => none
def allPlain : List SV → Bool
  | [] => true
  | .pv p :: r => p.one && allPlain r
  | .nils :: r => allPlain r
  | _ :: _ => false

def setElem (c : PV) (j : Nat) (p : PV) : PV := match c with
  | .agg cs => .agg (cs.set j p)
  | _ => p

def storeCell (s : St) (o off : Nat) : SV → Option St
  | .al p => (match s.at p with
    | some (.own e' xs) => if p = .cell o off then none else some (transfer p (.cell o off) e' xs (del (.cell o off) s))
    | _ => none)
  | .pv p => if p.one then some (setAt (.cell o off) (.pv p) (kill (.cell o off) s)) else none
  | .nils => some (setAt (.cell o off) .nils (kill (.cell o off) s))
  | .ptr o' off' => some (setAt (.cell o off) (.ptr o' off') (kill (.cell o off) s))
  | .fn f caps => some (setAt (.cell o off) (.fn f caps) (kill (.cell o off) s))
  | _ => none
def putCells (o : Nat) : Nat → List SV → St → St
  | _, [], s => s
  | off, c :: r, s => putCells o (off + 1) r (setAt (.cell o off) c (kill (.cell o off) s))
def storeAgg (s : St) (o off z : Nat) (cs : List SV) : Option (List SV) → Option St
  | some new => if new.length = z ∧ off + z ≤ cs.length ∧ allPlain new = true then some (putCells o off new s) else none
  | none => none
def storeO (s : St) (o off : Nat) (T : Option (Nat × Bool)) (v : SV) : Option HO → Option St
  | some (.cells e cs) => (match T with
    | some (z, true) => storeAgg s o off z cs (plainCells v)
    | some (1, false) => if off < cs.length then storeCell s o off v else none
    | _ => none)
  | _ => none
def storeElem (s : St) (p : Place) (e : TypeId) (xs : List PV) (i j : Nat) (T : Option (Nat × Bool)) (w : PV) : Option PV → Option St
  | some c => (match T with
      | some (n, true) => if j = 0 ∧ w.cells.length = n ∧ c.cells.length = n ∧ w.one = false ∧ 0 < n then some (setAt p (.own e (xs.set i w)) s) else none
      | some (1, false) => if j < c.cells.length ∧ w.one = true then some (setAt p (.own e (xs.set i (setElem c j w))) s) else none
      | _ => none)
  | none => none
def storeE (s : St) (p : Place) (e i j : Nat) (T : Option (Nat × Bool)) (v : SV) : Option SV → Option St
  | some (.own e' xs) => if e' = e then (match v with | .pv w => storeElem s p e xs i j T w xs[i]? | _ => none) else none
  | _ => none
def astore (T : Option (Nat × Bool)) (s : St) (x v : SV) : Option St := match x with
  | .ptr o off => storeO s o off T v (look o s.hp)
  | .ea p e i j => storeE s p e i j T v (s.at p)
  | _ => none

def newObj (d : Nat) (h : HO) (s : St) : Option St := match look d s.hp with
  | none => some (put d (.ptr d 0) ⟨s.n, s.sl, (d, h) :: s.hp⟩)
  | some _ => none

/-- The cells of a part, put into a whole. -/
def partCells (P : Program) (s : St) (v : SV) : Option (List SV × St) := match v with
  | .agg cs => some (cs, s)
  | .nils => some ([.nils], s)
  | v => match freeze P s v with | some (p, s') => some (p.cells.map .pv, s') | none => none
def fillParts (P : Program) (fs : List (Nat × Nat × Bool)) : List (Nat × Operand) → List SV → St → Option (List SV × St)
  | [], cs, s => some (cs, s)
  | (i, x) :: r, cs, s => match fs[i]?, ev s x with
    | some (fo, fz, _), some v => match partCells P s v with
      | some (new, s') => if new.length = fz ∧ fo + fz ≤ cs.length then fillParts P fs r (setCells cs new fo) s' else none
      | none => none
    | _, _ => none
/-- An array's places. -/
def arrFs (ez : Nat) (n : Nat) : List (Nat × Nat × Bool) := (List.range n).map fun i => (i * ez, ez, false)
theorem arrFs_get (ez n i : Nat) : (arrFs ez n)[i]? = if i < n then some (i * ez, ez, false) else none := by
  unfold arrFs
  by_cases h : i < n
  · rw [List.getElem?_map, List.getElem?_range h, if_pos h]; rfl
  · rw [List.getElem?_map, List.getElem?_eq_none (by simpa using h), if_neg h]; rfl
def mkAgg (cs : List SV) : SV := match allPV cs with | some ps => .pv (.agg ps) | none => .agg cs

def pvOf (v : Value) : Option PV := match ofConst v with
  | some (.pv p) => some p
  | some .nils => some (.sl 1 [])
  | _ => none
def pvsOf : List Value → Option (List PV)
  | [] => some []
  | v :: r => (match pvOf v, pvsOf r with | some x, some xs => some (x :: xs) | _, _ => none)
def aggP : Option (List PV) → Option PV
  | some ps => some (.agg ps)
  | none => none
/-- A type's zero value. -/
def zeroElem (P : Program) (e : TypeId) : Option PV := match P.info? e with
  | some i => (match i.zero with
    | some (.agg vs) => if vs.size = i.size then aggP (pvsOf vs.toList) else none
    | some v => if i.size = 1 then pvOf v else none
    | none => none)
  | none => none
def fillElems (P : Program) (z : Nat) : List (Nat × Operand) → List PV → St → Option (List PV × St)
  | [], xs, s => some (xs, s)
  | (i, x) :: r, xs, s => match ev s x with
    | some v => match freeze P s v with
      | some (p, s') => if p.cells.length = z ∧ i < xs.length then fillElems P z r (xs.set i p) s' else none
      | none => none
    | none => none

def strBytes (l : List UInt8) : List PV := l.map fun b => .int .u8 b.toNat
def elemsO (P : Program) (ez : Nat) : Option SV → Option (List PV)
  | some (.own e xs) => if P.cellsOf e = ez then some xs else none
  | _ => none
/-- Elements of so many cells each. -/
def elemsOf (P : Program) (s : St) (ez : Nat) : SV → Option (List PV)
  | .pv (.str l) => if ez = 1 then some (strBytes l) else none
  | .pv (.sl z xs) => if z = ez then some xs else none
  | .nils => some []
  | .al p => elemsO P ez (s.at p)
  | .vw p e off n => if P.cellsOf e = ez then (match elemsO P ez (s.at p) with | some xs => some ((xs.drop off).take n) | none => none) else none
  | _ => none
def room : Nat := 140737488355328
def appendO (s : St) (d : Nat) (e eb : Nat) (p : Place) (ys : List PV) : Option SV → Option St
  | some (.own e' xs) => if e' = e ∧ (xs.length + ys.length) * eb ≤ room ∧ xs.length + ys.length ≤ room then some (put d (.own e (xs ++ ys)) (del p s)) else none
  | _ => none
def appendX (s : St) (d : Nat) (e eb : Nat) (x : SV) : Option (List PV) → Option St
  | some ys => (match x with
    | .nils => if ys.length * eb ≤ room ∧ ys.length ≤ room then some (put d (.own e ys) s) else none
    | .al p => appendO s d e eb p ys (s.at p)
    | _ => none)
  | none => none
/-- Has it a zero value of its size? -/
def zok (P : Program) (e : TypeId) : Bool := match P.info? e with
  | some i => (match i.zero with | some z => z.cells.size == i.size | none => false)
  | none => false
def TK.isSrc : TK → Bool
  | .sl _ _ _ _ => true
  | .str => true
  | _ => false
def aappend (P : Program) (s : St) (d : Nat) (x y : SV) : TK → Option St
  | .sl e ez eb _ => if ez ≠ 0 ∧ zok P e = true then appendX s d e eb x (elemsOf P s ez y) else none
  | _ => none

/-- An operation with a result in slot d that does more than read. -/
def aeff (P : Program) (s : St) (d : Nat) (ty : TypeId) : Op → Option St
  | .move x => (match x with
    | .tmp t => (match look t s.sl with | some (.tup vs) => if t ≠ d ∧ d < s.n then some (setSlot d (.tup vs) (setSlot t .dead (clear d s))) else none | _ => none)
    | _ => none)
  | .assign x => (match ev s x with
    | some .nils => (match tk P ty with | .sl e _ _ _ => some (put d (.own e []) s) | _ => none)
    | some (.al (.slot t)) => (match x with
      | .tmp t' => if t' = t ∧ t ≠ d ∧ d < s.n then (match look t s.sl with | some (.own e xs) => some (transfer (.slot t) (.slot d) e xs (put d .dead s)) | _ => none) else none
      | _ => none)
    | _ => none)
  | .extract x i => (match x with
    | .tmp t => (match s.at (.part t i) with | some (.own e xs) => if t = d then none else some (put d (.own e xs) (del (.part t i) s)) | _ => none)
    | _ => none)
  | .alloc t => (match zcs P t with | some cs => newObj d (.cells t cs) s | none => none)
  | .box t x => (match ev s x with
    | some (.al p) => (match s.at p with
      | some (.own e xs) => if p = .slot d then none else (match newObj d (.cells t [.dead]) s with | some s' => some (transfer p (.cell d 0) e xs s') | none => none)
      | _ => none)
    | some (.pv p) => newObj d (.cells t (p.cells.map .pv)) s
    | some (.agg cs) => newObj d (.cells t cs) s
    | some .nils => newObj d (.cells t [.nils]) s
    | some (.ptr o off) => newObj d (.cells t [.ptr o off]) s
    | some (.fn f caps) => newObj d (.cells t [.fn f caps]) s
    | _ => none)
  | .build t ps => (match tk P t, zcs P t with
    | .st fs, some z => if fs.all (fun f => f.2.1 != 0) then (match fillParts P fs ps.toList z s with | some (cs, s') => some (put d (mkAgg cs) s') | none => none) else none
    | .arr n e ez _, some z => if ez ≠ 0 then (match fillParts P (arrFs ez n) ps.toList z s with | some (cs, s') => some (put d (mkAgg cs) s') | none => none) else none
    | _, _ => none)
  | .buildSlice t n ps => (match tk P t with
    | .sl e ez eb _ => (match zeroElem P e with
      | some z => if n * ez ≤ 16777216 ∧ 0 < ez ∧ n ≤ maxLen then (match fillElems P ez ps.toList (List.replicate n z) s with | some (xs, s') => some (put d (.own e xs) s') | none => none) else none
      | none => none)
    | _ => none)
  | .makeSlice t l c => (match ev s l, ev s c, tk P t with
    | some (.pv (.int .i64 n)), some (.pv (.int .i64 m)), .sl e ez eb _ => (match zeroElem P e with
      | some z => if 0 < ez ∧ 0 ≤ n ∧ n ≤ m ∧ eb * m ≤ room ∧ m ≤ room then some (put d (.own e (List.replicate n.toNat z)) s) else none
      | none => none)
    | _, _, _ => none)
  | .makeFunc f first caps => (match f, first.toList, evs s caps.toList with
    | .func g, [], some vs => if vs.all SV.simple then some (put d (.fn g vs) s) else none
    | _, _, _ => none)
  | .makeMap t none => (match look d s.hp with | none => some (put d (.mp d) ⟨s.n, s.sl, (d, .mp []) :: s.hp⟩) | some _ => none)
  | .call c => (match c.callee with
    | .builtin .append => (match evs s c.args.toList, c.argTypes.toList with
      | some [x, y], [t, tx] => if (tk P tx).isSrc then aappend P s d x y (tk P t) else none
      | _, _ => none)
    | _ => none)
  | _ => none

/-- Is it told by aval alone? -/
def reads : Op → Bool
  | .move (.tmp _) | .assign _ | .alloc _ | .box _ _ | .build _ _ | .buildSlice _ _ _ | .makeSlice _ _ _ | .makeFunc _ _ _ | .makeMap _ _ => false
  | .extract _ _ => false
  | .call c => (match c.callee with | .builtin .append => false | _ => true)
  | _ => true
def orElse (P : Program) (s : St) (d : Nat) (ty : TypeId) (op : Op) : Option St → Option St
  | some s' => some s'
  | none => (match aval P s ty op with | some v => some (put d v s) | none => none)
def putO (d : Nat) (s : St) : Option SV → Option St
  | some v => some (put d v s)
  | none => none
/-- One operation without a guard; none: a call, or what is not told here. -/
def astep (P : Program) (o : Oper) (s : St) : Option St := match o.dst with
  | some d => if reads o.op then putO d s (aval P s o.type o.op) else orElse P s d o.type o.op (aeff P s d o.type o.op)
  | none => match o.op with
    | .store t x v => (match ev s x, ev s v with | some a, some b => astore (tsh P t) s a b | _, _ => none)
    | _ => none

mutual
/-- As many operations as are told, and what is left. -/
def arun (P : Program) : List Oper → St → St × List Oper
  | [], s => (s, [])
  | o :: r, s => match o.guard with
    | none => arunK P o r s (astep P o s)
    | some _ => (s, o :: r)
def arunK (P : Program) (o : Oper) (r : List Oper) (s : St) : Option St → St × List Oper
  | some s' => arun P r s'
  | none => (s, o :: r)
end
end Go.Ck

set_option linter.unusedVariables false
/-! How a state lies in a frame and in memory. -/
namespace Go.Ck
open Go.RowKit

structure Env where
  obj : Nat → Nat
  hdr : Place → Value
  om : Nat → Prop

/-- A view of a part of what lies at p. -/
def VW (P : Program) (h : Value) (e off n : Nat) (x : Value) : Prop :=
  (∃ a len cap, h = .slice a len cap ∧ off + n ≤ len) ∧ ∃ a cap, x = .slice a n cap ∧ n ≤ cap ∧ (0 < n → ∃ b, h.ownBlock = some b ∧ a = some ⟨b, off * P.cellsOf e, none⟩)

inductive RS (P : Program) (A : Nat → Prop) (E : Env) (w : World) : SV → Value → Prop where
  | pv (p : PV) (x : Value) (h : RO A w p x) : RS P A E w (.pv p) x
  | nils : RS P A E w .nils (.slice none 0 0)
  | al (p : Place) : RS P A E w (.al p) (E.hdr p)
  | vw (p : Place) (e off n : Nat) (x : Value) (h : VW P (E.hdr p) e off n x) : RS P A E w (.vw p e off n) x
  | ptr (o off : Nat) : RS P A E w (.ptr o off) (.pointer (some ⟨E.obj o, off, none⟩))
  | ea (p : Place) (e i j b : Nat) (h : (E.hdr p).ownBlock = some b) : RS P A E w (.ea p e i j) (.pointer (some ⟨b, i * P.cellsOf e + j, none⟩))
  | ra (c : PV) (j : Nat) (vs : List Value) (ad : Addr) (hs : ad.spot = none) (h : ROs A w c.cells vs)
      (hm : ∀ (i : Nat) (v : Value), vs[i]? = some v → ¬ A ad.block ∧ w.cell? ⟨ad.block, ad.off + i, none⟩ = some v) : RS P A E w (.ra c j) (.pointer (some ⟨ad.block, ad.off + j, none⟩))
  | fn (f : FuncId) (caps : List SV) (vs : List Value) (hl : vs.length = caps.length) (h1 : caps.all SV.simple = true)
      (h : ∀ (i : Nat) (c : SV) (v : Value), caps[i]? = some c → vs[i]? = some v → RS P A E w c v) : RS P A E w (.fn f caps) (.func (.func f) #[] vs.toArray)
  | agg (cs : List SV) (vs : List Value) (hl : vs.length = cs.length) (h1 : allPlain cs = true)
      (h : ∀ (i : Nat) (c : SV) (v : Value), cs[i]? = some c → vs[i]? = some v → RS P A E w c v) : RS P A E w (.agg cs) (.agg vs.toArray)
  | mp (o : Nat) : RS P A E w (.mp o) (.map (some (E.obj o)))
  | yl (l : Nat) : RS P A E w (.yl l) (.func (.yield l) #[] #[])

/-- The own list at a place. -/
def OwnL (P : Program) (A : Nat → Prop) (w : World) (e : TypeId) (h : Value) (xs : List PV) : Prop :=
  ∃ cs, w.ownsRow 0 e (P.cellsOf e) h xs.length cs ∧ ROs A w (flat xs) cs ∧ (∀ x ∈ xs, x.cells.length = P.cellsOf e) ∧ xs.length ≤ maxLen

def CV (E : Env) (tmps : Array Value) (w : World) : Place → Value → Prop
  | .slot d, x => tmps[d]? = some x
  | .part d i, x => ∃ vs : Array Value, tmps[d]? = some (.tuple vs) ∧ vs[i]? = some x
  | .cell o i, x => w.cell? ⟨E.obj o, i, none⟩ = some x

def PVal (P : Program) (A : Nat → Prop) (E : Env) (w : World) (p : Place) (v : SV) (x : Value) : Prop := match v with
  | .own e xs => x = E.hdr p ∧ OwnL P A w e (E.hdr p) xs ∧ ∀ b, (E.hdr p).ownBlock = some b → E.om b
  | .dead => True
  | .tup vs => ∃ us : Array Value, x = .tuple us ∧ us.size = vs.length
  | v => RS P A E w v x

structure Grow (M : Nat → Prop) (w w' : World) : Prop where
  os : w'.os = w.os
  tape : w'.tape = w.tape
  output : w'.output = w.output
  size : w.heap.size ≤ w'.heap.size
  block : ∀ b, b < w.heap.size → ¬ M b → w'.heap[b]? = w.heap[b]?

theorem Grow.refl (M : Nat → Prop) (w : World) : Grow M w w := ⟨rfl, rfl, rfl, Nat.le_refl _, fun _ _ _ => rfl⟩
theorem Grow.trans {M : Nat → Prop} {w w1 w2 : World} {M1 : Nat → Prop} (h : Grow M w w1) (k : Grow M1 w1 w2) (hm : ∀ b, M1 b → M b ∨ w.heap.size ≤ b) : Grow M w w2 :=
  ⟨k.os.trans h.os, k.tape.trans h.tape, k.output.trans h.output, Nat.le_trans h.size k.size, fun b hb hM =>
    (k.block b (Nat.lt_of_lt_of_le hb h.size) (fun hM1 => (hm b hM1).elim hM (fun h => by omega))).trans (h.block b hb hM)⟩

def oneSV : SV → Bool
  | .pv p => p.one
  | .agg _ => false
  | .tup _ => false
  | _ => true
def HOK (P : Program) (A : Nat → Prop) (E : Env) (w : World) (o : Nat) : HO → Prop
  | .cells e cs => ∃ vs : Array Value, w.heap[E.obj o]? = some (.cells vs e (0, 0)) ∧ vs.size = cs.length ∧ ∀ c ∈ cs, oneSV c = true
  | .mp es => ∃ (ms : Array MapEntry) (clock : Nat), w.heap[E.obj o]? = some (.map ms clock) ∧ ms.size = es.length ∧
      ∀ (i : Nat) (kv : PV × PV) (m : MapEntry), es[i]? = some kv → ms[i]? = some m → RO A w kv.1 m.key ∧ RO A w kv.2 m.val

/-- What a call started with: the blocks it was handed, and where its objects lie. -/
structure Base where
  blk : Nat → Prop
  ob : Nat → Option Nat

structure Rel (P : Program) (O0 : Base) (w0 : World) (F : Nat → Prop) (s : St) (E : Env) (tmps : Array Value) (w : World) : Prop where
  place : ∀ p v, s.at p = some v → ∃ x, CV E tmps w p x ∧ PVal P (fun b => E.om b ∨ F b) E w p v x
  obj : ∀ o h, look o s.hp = some h → E.om (E.obj o) ∧ HOK P (fun b => E.om b ∨ F b) E w o h
  size : s.n = tmps.size
  i1 : ∀ o o' h h', look o s.hp = some h → look o' s.hp = some h' → E.obj o = E.obj o' → o = o'
  i2 : ∀ p q e xs e' ys b, s.at p = some (.own e xs) → s.at q = some (.own e' ys) → (E.hdr p).ownBlock = some b → (E.hdr q).ownBlock = some b → p = q
  i3 : ∀ p e xs o h b, s.at p = some (.own e xs) → look o s.hp = some h → (E.hdr p).ownBlock = some b → E.obj o ≠ b
  om_lt : ∀ b, E.om b → b < w.heap.size ∧ ¬ F b
  om0 : ∀ b, E.om b → O0.blk b ∨ w0.heap.size ≤ b
  na : ∀ p v q, s.at p = some v → v.on q = true → (∃ d, p = .slot d) ∧ (∃ e xs, s.at q = some (.own e xs)) ∧ ∀ d i, q ≠ .part d i
  np : ∀ p v o, s.at p = some v → v.pts o = true → ∃ h, look o s.hp = some h
  gr : Grow O0.blk w0 w
  flt : ∀ b, F b → b < w0.heap.size
  ob : ∀ o b, O0.ob o = some b → E.obj o = b ∧ ∃ y, look o s.hp = some y

section
variable {P : Program} {O0 : Base} {F : Nat → Prop} {w0 w : World} {s : St} {E : Env} {tmps : Array Value}

/-- What an operand reads. -/
theorem Rel.ev_tmp (h : Rel P O0 w0 F s E tmps w) {t : Nat} {v : SV} (hv : ev s (.tmp t) = some v) : RS P (fun b => E.om b ∨ F b) E w v (tmps.getD t undef) := by
  unfold ev at hv
  simp only at hv
  cases hl : look t s.sl with
  | none => rw [hl] at hv; simp at hv
  | some u =>
    rw [hl] at hv
    obtain ⟨x, hc, hp⟩ := h.place (.slot t) u hl
    simp only [CV] at hc
    have hx : tmps.getD t undef = x := by simp [Array.getD_eq_getD_getElem?, hc]
    rw [hx]
    cases u <;> simp at hv <;> subst hv <;> simp only [PVal] at hp
    all_goals first
      | exact hp
      | (obtain ⟨rfl, _⟩ := hp; exact .al _)

theorem RS.ofConst {A : Nat → Prop} {c : Value} {v : SV} (hv : ofConst c = some v) : RS P A E w v c := by
  unfold Ck.ofConst at hv
  split at hv <;> simp at hv <;> subst hv
  · exact .pv _ _ (.int _ _)
  · exact .pv _ _ (.bool _)
  · rename_i l
    have : (⟨l.data.toList.toArray⟩ : ByteArray) = l := by simp
    exact .pv _ _ (by rw [← this]; simpa using RO.str (A := A) (w := w) l.data.toList)
  · exact .nils
  · exact .pv _ _ .nilp
  · exact .pv _ _ .nilf
  · exact .pv _ _ .nili
end
end Go.Ck

set_option linter.unusedVariables false
/-! What an operation that reads comes to. -/
namespace Go.Ck
open Go.RowKit

section
variable {P : Program} {w : World} {A : Nat → Prop} {E : Env}

theorem run_equalBool (w : World) (t : TypeId) (a b : Bool) (ht : P.underlying t = some .bool) : (Op.equal t (.bool a) (.bool b)).run P w = .ok (a == b) w := by
  show (Op.equalIn (9999 + 1) t (.bool a) (.bool b)).run P w = _
  rw [Op.equalIn]
  simp [run_underlying ht]
theorem run_bin {op : BinOp} {p q r : PV} {x y : Value} {t : TypeId} {u v : Operand} (hp : RO A w p x) (hq : RO A w q y) (hb : (∃ k a k' b, p = .int k a ∧ q = .int k' b) ∨ (∃ a b, p = .str a ∧ q = .str b) ∨ (∃ a b, p = .bool a ∧ q = .bool b) ∧ P.underlying t = some .bool) (h : abin op p q = some r) :
    ∃ z, (do eqGuard op t u v x y; binOp op t x y : Sem Value).run P w = .ok z w ∧ RO A w r z := by
  rcases hb with ⟨k, a, k', b, rfl, rfl⟩ | ⟨a, b, rfl, rfl⟩ | ⟨⟨a, b, rfl, rfl⟩, ht⟩
  · cases hp; cases hq
    unfold abin at h
    cases op <;> simp only at h
    all_goals
      split at h
      all_goals first
        | (exfalso; simp at h; done)
        | skip
    all_goals
      try (split at h <;> first | (exfalso; simp at h; done) | skip)
    all_goals
      simp at h
      subst h
      try subst k'
      simp [eqGuard, binOp, Op.intArith, Op.intDiv, Op.intBits, Op.intCmp, Op.shift, ibits, shlI, shrI, *]
      first | exact .int _ _ | exact .bool _
  · cases hp; cases hq
    unfold abin at h
    cases op <;> simp at h
    all_goals
      subst h
      simp [eqGuard, binOp, Op.stringOp]
      exact .bool _
  · cases hp; cases hq
    have he := run_equalBool (P := P) w t a b ht
    unfold abin at h
    cases op <;> simp only at h
    all_goals first
      | (exfalso; simp at h; done)
      | (simp only [Option.some.injEq] at h; subst h; simp only [eqGuard, binOp]; simp [Sem.run]; refine ⟨_, ?_, .bool _⟩; simp [he, Result.andThen])
end
end Go.Ck

set_option linter.unusedVariables false
namespace Go.Ck
open Go.RowKit

section
variable {P : Program} {w : World} {A : Nat → Prop} {E : Env}

theorem tsh_parts {t : TypeId} {z : Nat} {ag : Bool} (h : tsh P t = some (z, ag)) : ∃ d i, P.underlying t = some d ∧ P.info? t = some i ∧ i.size = z ∧ (isAgg t).run P w = .ok ag w := by
  unfold tsh at h
  split at h <;> simp at h
  all_goals
    obtain ⟨rfl, rfl⟩ := h
    rename_i hu hi
    refine ⟨_, _, hu, hi, rfl, ?_⟩
    simp [isAgg, run_underlying hu]

theorem add_mk (b o j : Nat) : (⟨b, o, none⟩ : Addr).add j = ⟨b, o + j, none⟩ := by unfold Addr.add; split <;> simp_all

theorem run_loadVar' {t : TypeId} {z : Nat} {ag : Bool} (h : tsh P t = some (z, ag)) (b o : Nat) (vs : List Value) (hl : vs.length = z) (hc : ∀ (j : Nat) (v : Value), vs[j]? = some v → w.cell? ⟨b, o + j, none⟩ = some v) (hz : ag = false → z = 1) :
    (loadVar t ⟨b, o, none⟩).run P w = .ok (if ag then .agg vs.toArray else vs.headD undef) w := by
  obtain ⟨d, i, hu, hi, hs, hag⟩ := tsh_parts (w := w) h
  have hsz : (sizeOf t).run P w = .ok z w := by rw [run_sizeOf w hi]; simp [Program.cellsOf, hi, hs]
  have hload := run_loadCells_list (P := P) (w := w) ⟨b, o, none⟩ vs (fun j v hv => by rw [add_mk]; exact hc j v hv)
  unfold loadVar
  cases ag with
  | true =>
    simp only [Sem.run_bind, hag, Result.andThen_ok, if_true, hsz]
    rw [hl] at hload
    simp [hload]
  | false =>
    have hz1 := hz rfl
    subst hz1
    obtain ⟨v, rfl⟩ : ∃ v, vs = [v] := by
      match vs, hl with
      | [v], _ => exact ⟨v, rfl⟩
    have := hc 0 v (by simp)
    simp only [Nat.add_zero] at this
    simp [hag, this]

theorem subP_sound {c r : PV} {j : Nat} {T : Option (Nat × Bool)} {vs : List Value} (h : subP c j T = some r) (hr : ROs A w c.cells vs) :
    ∃ z ag us, T = some (z, ag) ∧ (ag = false → z = 1) ∧ us = (vs.drop j).take z ∧ us.length = z ∧ RO A w r (if ag then .agg us.toArray else us.headD undef) := by
  unfold subP at h
  split at h
  · rename_i z
    split at h <;> simp at h
    rename_i hz
    subst h
    have hd := (hr.drop j).take z
    refine ⟨z, true, _, rfl, by simp, rfl, by simp [hr.1]; omega, ?_⟩
    exact .agg _ _ (by simp [hr.1]) hd.2.1 (fun i c v hc hv => hd.2.2 i c v hc (by simpa using hv))
  · obtain ⟨v, hv, hro⟩ := hr.at h
    have : (vs.drop j).take 1 = [v] := by
      have hj := (List.getElem?_eq_some_iff.1 hv)
      obtain ⟨hj, he⟩ := hj
      rw [List.drop_eq_getElem_cons hj, he]
      rfl
    refine ⟨1, false, _, rfl, fun _ => rfl, rfl, by rw [this]; rfl, ?_⟩
    rw [this]
    simpa using hro
  · simp at h

/-- A cell of an own list. -/
theorem OwnL.cell {e : TypeId} {h : Value} {xs : List PV} {b : Nat} (ho : OwnL P A w e h xs) (hb : h.ownBlock = some b) :
    ∃ cs, ROs A w (flat xs) cs ∧ (∀ x ∈ xs, x.cells.length = P.cellsOf e) ∧ ∀ (j : Nat) (v : Value), cs[j]? = some v → w.cell? ⟨b, j, none⟩ = some v := by
  obtain ⟨cs, h1, h2, h3, h4⟩ := ho
  refine ⟨cs, h2, h3, fun j v hv => ?_⟩
  have := h1.cells hb j v hv
  rwa [add_mk, Nat.zero_add] at this

theorem OwnL.block {e : TypeId} {h : Value} {xs : List PV} (ho : OwnL P A w e h xs) (hx : 0 < xs.length) : ∃ b cap, h = .slice (some ⟨b, 0, none⟩) xs.length cap ∧ h.ownBlock = some b := by
  obtain ⟨cs, h1, h2, h3, h4⟩ := ho
  rcases h1.2 with ⟨rfl, h0⟩ | ⟨g, cap, cur, rfl, _⟩
  · omega
  · exact ⟨g, cap, rfl, rfl⟩
theorem OwnL.form {e : TypeId} {h : Value} {xs : List PV} (ho : OwnL P A w e h xs) : ∃ a cap, h = .slice a xs.length cap ∧ xs.length ≤ cap := by
  obtain ⟨cs, h1, h2, h3, h4⟩ := ho
  rcases h1.2 with ⟨rfl, h0⟩ | ⟨g, cap, cur, rfl, _⟩
  · exact ⟨none, 0, by rw [h0], by omega⟩
  · rename_i hh; exact ⟨_, cap, rfl, hh.2.2.1⟩

/-- Cells of an element inside a row. -/
theorem cells_elem {xs : List PV} {z i : Nat} {c : PV} {cs : List Value} (hz : ∀ x ∈ xs, x.cells.length = z) (hr : ROs A w (flat xs) cs) (hc : xs[i]? = some c) : ROs A w c.cells ((cs.drop (i * z)).take z) := by
  have hcz : c.cells.length = z := hz c (List.mem_of_getElem? hc)
  have e : c.cells = ((flat xs).drop (i * z)).take z := by
    apply List.ext_getElem?
    intro j
    by_cases hj : j < z
    · rw [List.getElem?_take_of_lt hj, List.getElem?_drop, flat_at hz hc j hj]
    · rw [List.getElem?_eq_none (by omega), List.getElem?_eq_none (by simp; omega)]
  rw [e]
  exact (hr.drop _).take _
end

section
variable {P : Program} {O0 : Base} {F : Nat → Prop} {w0 w : World} {s : St} {E : Env} {tmps : Array Value}

theorem Rel.own (h : Rel P O0 w0 F s E tmps w) {p : Place} {e : TypeId} {xs : List PV} (hp : s.at p = some (.own e xs)) : OwnL P (fun b => E.om b ∨ F b) w e (E.hdr p) xs := by
  obtain ⟨x, _, _, ho, _⟩ := h.place p _ hp
  exact ho

theorem allPV_get {l : List SV} {ps : List PV} (h : allPV l = some ps) : ps.length = l.length ∧ ∀ (i : Nat) (c : PV), ps[i]? = some c → l[i]? = some (.pv c) := by
  induction l generalizing ps with
  | nil => simp [allPV] at h; subst h; simp
  | cons v r ih =>
    cases v <;> simp [allPV] at h
    rename_i p
    split at h <;> simp at h
    rename_i qs hq
    subst h
    obtain ⟨h1, h2⟩ := ih hq
    refine ⟨by simp [h1], fun i c hc => ?_⟩
    cases i with
    | zero => simpa using hc
    | succ i => simpa using h2 i c (by simpa using hc)

/-- An object's cells. -/
theorem Rel.objCells (h : Rel P O0 w0 F s E tmps w) {o : Nat} {e : TypeId} {cs : List SV} (hl : look o s.hp = some (.cells e cs)) :
    ∃ vs : Array Value, w.heap[E.obj o]? = some (.cells vs e (0, 0)) ∧ vs.size = cs.length ∧ (∀ c ∈ cs, oneSV c = true) ∧ E.om (E.obj o) ∧
      (∀ j : Nat, w.cell? ⟨E.obj o, j, none⟩ = vs[j]?) ∧
      ∀ (i : Nat) (u : SV), cs[i]? = some u → ∃ y, vs[i]? = some y ∧ PVal P (fun b => E.om b ∨ F b) E w (.cell o i) u y := by
  obtain ⟨hom, vs, hheap, hsz, h1⟩ := h.obj o _ hl
  refine ⟨vs, hheap, hsz, h1, hom, fun j => by simp [World.cell?, hheap], fun i u hu => ?_⟩
  obtain ⟨y, hy, hp⟩ := h.place (.cell o i) u (by simp [St.at, hl, hu])
  exact ⟨y, by simpa [CV, World.cell?, hheap] using hy, hp⟩

theorem aload_sound (h : Rel P O0 w0 F s E tmps w) {t : TypeId} {v r : SV} {x : Value} (hv : aload (tsh P t) s v = some r) (hx : RS P (fun b => E.om b ∨ F b) E w v x) :
    ∃ y, (Instr.loadAt t x).run P w = .ok y w ∧ RS P (fun b => E.om b ∨ F b) E w r y := by
  cases hx <;> simp only [aload] at hv <;> try (simp at hv; done)
  case ptr o off =>
    unfold objO at hv
    split at hv
    · rename_i e cs hlk
      obtain ⟨vs, hheap, hsz, h1, hom, hcl, hcell⟩ := h.objCells hlk
      split at hv
      · rename_i z hT
        split at hv
        · rename_i hz
          unfold aggO at hv
          split at hv <;> simp at hv
          rename_i ps hps
          subst hv
          obtain ⟨hl, hg⟩ := allPV_get hps
          have hl' : ps.length = z := by rw [hl]; simp; omega
          have hlen : ((vs.toList.drop off).take z).length = z := by simp; omega
          have hone : ∀ (i : Nat) (c : PV), ps[i]? = some c → c.one = true ∧ ∃ y, vs[off + i]? = some y ∧ RO (fun b => E.om b ∨ F b) w c y := by
            intro i c hc
            have h2 := hg i c hc
            have hi : i < z := by have := (List.getElem?_eq_some_iff.1 hc).1; omega
            rw [List.getElem?_take_of_lt hi, List.getElem?_drop] at h2
            obtain ⟨y, hy, hp⟩ := hcell _ _ h2
            simp only [PVal] at hp
            have h3 := h1 _ (List.mem_of_getElem? h2)
            cases hp with
            | pv _ _ hp => exact ⟨h3, y, hy, hp⟩
          refine ⟨.agg ((vs.toList.drop off).take z).toArray, ?_, ?_⟩
          · simp only [Instr.loadAt, Instr.sureAddr, Sem.run_bind, Sem.run_pure, Result.andThen_ok]
            have := run_loadVar' (w := w) hT (E.obj o) off ((vs.toList.drop off).take z) hlen (fun j u hu => by
              rw [List.getElem?_take] at hu
              split at hu
              · rw [List.getElem?_drop] at hu; rw [hcl]; simpa using hu
              · cases hu) (by simp)
            simpa using this
          · refine .pv _ _ (.agg _ _ (by simp [hl']; omega) (fun c hc => ?_) (fun i c u hc hu => ?_))
            · obtain ⟨i, hi⟩ := List.getElem?_of_mem hc
              exact (hone i c hi).1
            · obtain ⟨_, y, hy, hro⟩ := hone i c hc
              have hi : i < z := by have := (List.getElem?_eq_some_iff.1 hc).1; omega
              have : u = y := by
                have hu' : ((vs.toList.drop off).take z)[i]? = some u := by simpa using hu
                rw [List.getElem?_take_of_lt hi, List.getElem?_drop] at hu'
                have : vs[off + i]? = some u := by simpa using hu'
                rw [hy] at this
                simpa using this.symm
              rw [this]
              exact hro
        · simp at hv
      · rename_i hT
        unfold cellO at hv
        have hgo : ∀ u y, cs[off]? = some u → vs[off]? = some y → (Instr.loadAt t (.pointer (some ⟨E.obj o, off, none⟩))).run P w = .ok y w := by
          intro u y hu hy
          simp only [Instr.loadAt, Instr.sureAddr, Sem.run_bind, Sem.run_pure, Result.andThen_ok]
          have := run_loadVar' (w := w) hT (E.obj o) off [y] rfl (fun j v hv => by
            cases j with
            | zero => simp at hv; subst hv; rw [hcl]; exact hy
            | succ j => simp at hv) (fun _ => rfl)
          simpa using this
        cases hc : cs[off]? with
        | none => rw [hc] at hv; simp at hv
        | some u =>
          rw [hc] at hv
          obtain ⟨y, hy, hp⟩ := hcell off u hc
          refine ⟨y, hgo u y hc hy, ?_⟩
          cases u <;> simp at hv <;> subst hv <;> simp only [PVal] at hp
          all_goals first
            | exact hp
            | (obtain ⟨rfl, _⟩ := hp; exact .al _)
      · simp at hv
    · simp at hv
  case ea p e0 i j b hb =>
    unfold ownO at hv
    split at hv
    · rename_i e xs hp
      split at hv
      · rename_i he
        subst he
        unfold elemO at hv
        split at hv
        · rename_i c hc
          unfold pvO at hv
          split at hv <;> simp at hv
          rename_i q hq
          subst hv
          obtain ⟨cs, hro, hz, hcell⟩ := (h.own hp).cell hb
          have hce := cells_elem hz hro hc
          obtain ⟨n, ag, us, hT, h1, hus, hul, hr⟩ := subP_sound hq hce
          refine ⟨_, ?_, .pv _ _ hr⟩
          simp only [Instr.loadAt, Instr.sureAddr, Sem.run_bind, Sem.run_pure, Result.andThen_ok]
          refine run_loadVar' hT b (i * P.cellsOf e + j) us hul (fun k v hk => ?_) h1
          rw [hus, List.getElem?_take] at hk
          split at hk
          · rw [List.getElem?_drop, List.getElem?_take] at hk
            split at hk
            · rw [List.getElem?_drop] at hk
              have := hcell _ _ hk
              rw [← Nat.add_assoc] at this
              exact this
            · cases hk
          · cases hk
        · simp at hv
      · simp at hv
    · simp at hv
  case ra c j vs ad hs hr hm =>
    unfold pvO at hv
    split at hv <;> simp at hv
    rename_i q hq
    subst hv
    obtain ⟨n, ag, us, hT, h1, hus, hul, hr'⟩ := subP_sound hq hr
    refine ⟨_, ?_, .pv _ _ hr'⟩
    simp only [Instr.loadAt, Instr.sureAddr, Sem.run_bind, Sem.run_pure, Result.andThen_ok]
    refine run_loadVar' hT ad.block (ad.off + j) us hul (fun k v hk => ?_) h1
    rw [hus, List.getElem?_take] at hk
    split at hk
    · rw [List.getElem?_drop] at hk
      have := (hm _ _ hk).2
      rwa [← Nat.add_assoc] at this
    · cases hk
end
end Go.Ck

set_option linter.unusedVariables false
namespace Go.Ck
open Go.RowKit

section
variable {P : Program} {O0 : Base} {F : Nat → Prop} {w0 w : World} {s : St} {E : Env} {tmps : Array Value}

theorem tk_sl {t e ez eb : Nat} {ea : Bool} (h : tk P t = .sl e ez eb ea) : P.underlying t = some (.slice e) ∧ P.cellsOf e = ez ∧ P.bytesOf e = eb := by
  unfold tk at h
  split at h <;> simp at h
  rename_i hu
  obtain ⟨rfl, rfl, rfl, rfl⟩ := h
  exact ⟨hu, rfl, rfl⟩
theorem tk_arr {t n e ez : Nat} {ea : Bool} (h : tk P t = .arr n e ez ea) : P.underlying t = some (.array n e) ∧ P.cellsOf e = ez := by
  unfold tk at h
  split at h <;> simp at h
  rename_i hu
  obtain ⟨rfl, rfl, rfl, rfl⟩ := h
  exact ⟨hu, rfl⟩
def fieldRow (P : Program) (f : Field) : Nat × Nat × Bool := match tsh P f.type with | some (z, ag) => (f.offset, z, ag) | none => (f.offset, 0, false)
theorem fieldRow_parts {f : Field} {fo fz : Nat} {fa : Bool} (h : fieldRow P f = (fo, fz, fa)) (hz : fz ≠ 0) : fo = f.offset ∧ tsh P f.type = some (fz, fa) := by
  unfold fieldRow at h
  split at h <;> simp at h
  · rename_i z ag ht
    obtain ⟨rfl, rfl, rfl⟩ := h
    exact ⟨rfl, ht⟩
  · omega
theorem tk_st {t : Nat} {fs : List (Nat × Nat × Bool)} (h : tk P t = .st fs) : ∃ fl : Array Field, P.underlying t = some (.struct fl) ∧ fs = fl.toList.map (fieldRow P) := by
  unfold tk at h
  split at h <;> simp at h
  rename_i hu
  exact ⟨_, hu, h.symm⟩
theorem tk_int {t : Nat} {k : IntKind} (h : tk P t = .int k) : P.underlying t = some (.int k) := by
  unfold tk at h
  split at h <;> simp at h
  rename_i hu
  subst h
  exact hu
theorem tk_str {t : Nat} (h : tk P t = .str) : P.underlying t = some .string := by
  unfold tk at h
  split at h <;> simp at h
  assumption
theorem info_of_cells {t : Nat} (h : 0 < P.cellsOf t) : ∃ i, P.info? t = some i ∧ i.size = P.cellsOf t := by
  unfold Program.cellsOf at h ⊢
  cases hi : P.info? t with
  | none => rw [hi] at h; simp at h
  | some i => exact ⟨i, rfl, by simp⟩

theorem run_part' {t : TypeId} {z : Nat} {ag : Bool} (h : tsh P t = some (z, ag)) (cs : Array Value) (o : Nat) (us : List Value) (hu : us = (cs.toList.drop o).take z) (hl : us.length = z) (hz : ag = false → z = 1) :
    (part t cs o).run P w = .ok (if ag then .agg us.toArray else us.headD undef) w := by
  obtain ⟨d, i, hud, hi, hs, hag⟩ := tsh_parts (w := w) h
  have hsz : (sizeOf t).run P w = .ok z w := by rw [run_sizeOf w hi]; simp [Program.cellsOf, hi, hs]
  unfold part
  cases ag with
  | true =>
    simp only [Sem.run_bind, hag, Result.andThen_ok, if_true, hsz, Sem.run_pure]
    congr 2
    apply Array.ext'
    simp [hu, Array.toList_extract, List.extract_eq_take_drop]
  | false =>
    have hz1 := hz rfl
    subst hz1
    obtain ⟨v, rfl⟩ : ∃ v, us = [v] := by
      match us, hl with
      | [v], _ => exact ⟨v, rfl⟩
    have : cs[o]? = some v := by
      have : ((cs.toList.drop o).take 1)[0]? = some v := by rw [← hu]; rfl
      rw [List.getElem?_take_of_lt (by omega), List.getElem?_drop] at this
      simpa using this
    simp [hag, this]

theorem afieldAddr_sound {t : TypeId} {v r : SV} {x : Value} {f : Nat} (hv : afieldAddr P t v f = some r) (hx : RS P (fun b => E.om b ∨ F b) E w v x) :
    ∃ y, (Instr.fieldAt t x f).run P w = .ok y w ∧ RS P (fun b => E.om b ∨ F b) E w r y := by
  unfold afieldAddr at hv
  split at hv
  · rename_i fs hT
    obtain ⟨fl, hu, rfl⟩ := tk_st hT
    split at hv
    · rename_i fo fz fa hf
      rw [List.getElem?_map] at hf
      cases hfl : fl.toList[f]? with
      | none => rw [hfl] at hf; simp at hf
      | some fd =>
        rw [hfl] at hf
        simp only [Option.map_some, Option.some.injEq] at hf
        have hfl' : fl[f]? = some fd := by simpa using hfl
        split at hv
        · simp at hv
        · rename_i hz
          obtain ⟨rfl, hts⟩ := fieldRow_parts hf hz
          obtain ⟨d, i, hud, hi, his, _⟩ := tsh_parts (w := w) hts
          have hgo : ∀ b o, (Instr.fieldAt t (.pointer (some ⟨b, o, none⟩)) f).run P w = .ok (.pointer (some ⟨b, o + fd.offset, none⟩)) w := by
            intro b o
            have : P.cellsOf fd.type ≠ 0 := by simp [Program.cellsOf, hi, his, hz]
            simp [Instr.fieldAt, run_underlying hu, hfl', Instr.sureAddr, fieldPlace, run_sizeOf w hi, this, add_mk]
          cases hx <;> simp at hv <;> subst hv
          · exact ⟨_, hgo _ _, .ptr _ _⟩
          · exact ⟨_, hgo _ _, by rw [Nat.add_assoc]; exact .ea _ _ _ _ _ ‹_›⟩
          · exact ⟨_, hgo _ _, by rw [Nat.add_assoc]; exact .ra _ _ _ _ ‹_› ‹_› ‹_›⟩
    · simp at hv
  · simp at hv

theorem afield_sound {t : TypeId} {v r : SV} {x : Value} {f : Nat} (hv : afield P t v f = some r) (hx : RS P (fun b => E.om b ∨ F b) E w v x) :
    ∃ y, (Instr.field t x f).run P w = .ok y w ∧ RS P (fun b => E.om b ∨ F b) E w r y := by
  unfold afield at hv
  split at hv
  · rename_i fs hT
    obtain ⟨fl, hu, rfl⟩ := tk_st hT
    split at hv
    · rename_i fo fz fa hf
      rw [List.getElem?_map] at hf
      cases hfl : fl.toList[f]? with
      | none => rw [hfl] at hf; simp at hf
      | some fd =>
        rw [hfl] at hf
        simp only [Option.map_some, Option.some.injEq] at hf
        have hfl' : fl[f]? = some fd := by simpa using hfl
        split at hv
        · rename_i cs
          split at hv
          · simp at hv
          · rename_i hz
            obtain ⟨rfl, hts⟩ := fieldRow_parts hf hz
            unfold pvO at hv
            split at hv <;> simp at hv
            rename_i q hq
            subst hv
            cases hx with
            | pv _ _ hx =>
              have hce := hx.cellsROs
              obtain ⟨n, ag, us, hT', h1, hus, hul, hr⟩ := subP_sound hq hce
              simp only [Option.some.injEq, Prod.mk.injEq] at hT'
              obtain ⟨rfl, rfl⟩ := hT'
              cases hx with
              | agg _ vs hl h2 hr' =>
                refine ⟨_, ?_, .pv _ _ hr⟩
                have := run_part' (w := w) hts vs fd.offset us hus hul h1
                simp [Instr.field, run_underlying hu, hfl', asAgg, this]
        · simp at hv
    · simp at hv
  · simp at hv

theorem spot_none {a : Addr} {v : Value} (h : w.cell? a = some v) : a.spot = none := by
  unfold World.cell? at h
  split at h
  · split at h
    · cases h
    · rename_i hs; cases hsp : a.spot with
      | none => rfl
      | some q => simp [hsp] at hs
  · cases h
theorem plainAddr {A : Nat → Prop} {a : Option Addr} {vs : List Value} (hm : ∀ (i : Nat) (v : Value), vs[i]? = some v → ∃ ad : Addr, a = some ad ∧ ¬ A ad.block ∧ w.cell? (ad.add i) = some v) :
    ∀ (i : Nat) (v : Value), vs[i]? = some v → ∃ ad : Addr, a = some ad ∧ ad.spot = none ∧ ¬ A ad.block ∧ w.cell? ⟨ad.block, ad.off + i, none⟩ = some v := by
  intro i v hv
  have hlt := (List.getElem?_eq_some_iff.1 hv).1
  obtain ⟨ad0, e0, hA0, h0⟩ := hm 0 vs[0] (List.getElem?_eq_getElem (by omega))
  have hs : ad0.spot = none := by
    have : ad0.add 0 = ad0 := by simp [Addr.add]
    rw [this] at h0
    exact spot_none h0
  obtain ⟨ad, e, hA, hc⟩ := hm i v hv
  rw [e0] at e
  cases e
  refine ⟨ad0, e0, hs, hA, ?_⟩
  obtain ⟨b, o, sp⟩ := ad0
  simp only at hs
  subst hs
  rw [add_mk] at hc
  exact hc

theorem cont_sound (h : Rel P O0 w0 F s E tmps w) {v : SV} {x : Value} {xs : List PV} (hv : cont s v = some xs) (hx : RS P (fun b => E.om b ∨ F b) E w v x) :
    ∃ a cap vs, x = .slice a xs.length cap ∧ ROs (fun b => E.om b ∨ F b) w (flat xs) vs ∧ (∀ (i : Nat) (v : Value), vs[i]? = some v → ∃ ad : Addr, a = some ad ∧ ad.spot = none ∧ w.cell? ⟨ad.block, ad.off + i, none⟩ = some v) ∧ (∃ z, ∀ x ∈ xs, x.cells.length = z) ∧ xs.length ≤ maxLen ∧ xs.length ≤ cap := by
  cases hx <;> try (simp [cont] at hv; done)
  case pv p hx =>
    cases p <;> simp [cont] at hv
    subst hv
    obtain ⟨vs, a, cap, rfl, hr, hm, hz, hb, hcap⟩ := hx.slParts
    exact ⟨a, cap, vs, rfl, hr, fun i v hv => (plainAddr (A := fun b => E.om b ∨ F b) hm i v hv).imp fun ad h => ⟨h.1, h.2.1, h.2.2.2⟩, ⟨_, hz⟩, hb, hcap⟩
  case nils =>
    simp [cont] at hv
    subst hv
    exact ⟨none, 0, [], rfl, ROs.nil _ _, by simp, ⟨0, by simp⟩, by simp [maxLen], by simp⟩
  case al p =>
    simp only [cont] at hv
    split at hv <;> simp at hv
    rename_i e ys hp
    subst hv
    have ho := h.own hp
    obtain ⟨a, cap, hf, hcap⟩ := ho.form
    obtain ⟨cs, h1, h2, h3, h4⟩ := ho
    rw [hf] at h1 ⊢
    refine ⟨a, cap, cs, rfl, h2, fun i v hv => ?_, ⟨_, h3⟩, h4, hcap⟩
    rcases h1.2 with ⟨h5, h6⟩ | ⟨g, cap', cur, h5, _⟩
    · have : cs = [] := List.eq_nil_of_length_eq_zero (by rw [h1.1, h6, Nat.zero_mul])
      rw [this] at hv; simp at hv
    · cases h5
      refine ⟨_, rfl, rfl, ?_⟩
      have := h1.cells (g := g) rfl i v hv
      rwa [add_mk] at this
  case vw p e0 off n hw =>
    simp only [cont] at hv
    split at hv <;> simp at hv
    rename_i e ys hp
    obtain ⟨rfl, rfl⟩ := hv
    have ho := h.own hp
    obtain ⟨a0, cap0, hf, hcap0⟩ := ho.form
    obtain ⟨⟨a1, len, cap1, hh, hle⟩, a, cap, rfl, hnc, hn⟩ := hw
    rw [hf] at hh
    cases hh
    obtain ⟨cs, h1, h2, h3, h4⟩ := ho
    have hlen : ((ys.drop off).take n).length = n := by simp; omega
    have hz' : ∀ x ∈ (ys.drop off), x.cells.length = P.cellsOf e := fun x hx => h3 x (List.mem_of_mem_drop hx)
    refine ⟨a, cap, (cs.drop (off * P.cellsOf e)).take (n * P.cellsOf e), by rw [hlen], ?_, fun i v hv => ?_, ⟨_, fun x hx => hz' x (List.mem_of_mem_take hx)⟩, by rw [hlen]; omega, by rw [hlen]; exact hnc⟩
    · rw [flat_take hz', flat_drop h3]
      exact (h2.drop _).take _
    · rw [List.getElem?_take] at hv
      split at hv
      · rename_i hi
        have hn0 : 0 < n := by
          rcases Nat.eq_zero_or_pos n with rfl | h0
          · simp at hi
          · exact h0
        obtain ⟨b, hb, rfl⟩ := hn hn0
        refine ⟨_, rfl, rfl, ?_⟩
        rw [List.getElem?_drop] at hv
        have := h1.cells hb _ v hv
        rw [add_mk] at this
        simpa using this
      · cases hv

theorem alen_sound (h : Rel P O0 w0 F s E tmps w) {v : SV} {x : Value} {n : Int} {t : TypeId} (hv : alen s v = some n) (hx : RS P (fun b => E.om b ∨ F b) E w v x) :
    0 ≤ n ∧ ((∃ l, v = .pv (.str l) ∧ x = .string ⟨l.toArray⟩ ∧ n = l.length) ∨ (∃ o ms clock, v = .mp o ∧ x = .map (some (E.obj o)) ∧ w.heap[E.obj o]? = some (.map ms clock) ∧ n = ms.size) ∨ (∃ xs a cap, cont s v = some xs ∧ x = .slice a xs.length cap ∧ n = xs.length ∧ xs.length ≤ maxLen ∧ xs.length ≤ cap)) := by
  unfold alen at hv
  split at hv
  · simp at hv; subst hv
    cases hx with
    | pv _ _ hx => cases hx; exact ⟨by omega, .inl ⟨_, rfl, rfl, rfl⟩⟩
  · split at hv <;> simp at hv
    rename_i o _ es hl
    subst hv
    cases hx
    obtain ⟨hom, ms, clock, hh, hs, _⟩ := h.obj _ _ hl
    exact ⟨by omega, .inr (.inl ⟨_, ms, clock, rfl, rfl, hh, by rw [hs]⟩)⟩
  · split at hv <;> simp at hv
    rename_i xs hc
    subst hv
    obtain ⟨a, cap, vs, rfl, _, _, _, hb, hb2⟩ := cont_sound h hc hx
    exact ⟨by omega, .inr (.inr ⟨xs, a, cap, hc, rfl, rfl, hb, hb2⟩)⟩

theorem aindexAddr_sound (h : Rel P O0 w0 F s E tmps w) {t : TypeId} {v k r : SV} {x y : Value} (hv : aindexAddr P s t v k = some r) (hx : RS P (fun b => E.om b ∨ F b) E w v x) (hk : RS P (fun b => E.om b ∨ F b) E w k y) :
    ∃ z, (Instr.indexAt t x y).run P w = .ok z w ∧ RS P (fun b => E.om b ∨ F b) E w r z := by
  unfold aindexAddr at hv
  split at hv
  · rename_i _ ik i
    cases hk with
    | pv _ _ hk =>
    cases hk
    split at hv
    · simp at hv
    · rename_i hi
      unfold indexT at hv
      split at hv
      · rename_i e ez eb ea hT
        obtain ⟨hu, hez, _⟩ := tk_sl hT
        split at hv
        · simp at hv
        · rename_i hz0
          obtain ⟨inf, hinf, hsz⟩ := info_of_cells (P := P) (t := e) (by omega)
          have hgo : ∀ (ad : Addr) (len cap : Nat), i.toNat < len → (Instr.indexAt t (.slice (some ad) len cap) (.int ik i)).run P w = .ok (.pointer (some (ad.add (i.toNat * P.cellsOf e)))) w := by
            intro ad len cap hl
            have : 0 ≤ i ∧ i < (len : Int) := by omega
            simp [Instr.indexAt, asIntOf, run_underlying hu, run_sizeOf w hinf, this]
          cases hx <;> try (simp at hv; done)
          case pv p hx =>
            cases p <;> simp at hv
            rename_i z xs
            obtain ⟨hzz, hv⟩ := hv
            unfold raO at hv
            split at hv <;> simp at hv
            rename_i c hc
            subst hv
            obtain ⟨vs, a, cap, rfl, hr, hm, hz, hb⟩ := hx.slParts
            have hzz : z = P.cellsOf e := by rw [hez, hzz]
            subst hzz
            have hlt : i.toNat < xs.length := (List.getElem?_eq_some_iff.1 hc).1
            have hpl := plainAddr (A := fun b => E.om b ∨ F b) hm
            have hlen : vs.length = xs.length * P.cellsOf e := by rw [hr.1, flat_length hz]
            have hpos : i.toNat * P.cellsOf e < vs.length := by
              rw [hlen]; exact Nat.mul_lt_mul_of_pos_right hlt (by omega)
            obtain ⟨ad, rfl, hs, hA, hc0⟩ := hpl _ _ (List.getElem?_eq_getElem hpos)
            obtain ⟨ab, ao, asp⟩ := ad
            simp only at hs hA hc0
            subst hs
            refine ⟨_, hgo _ _ _ hlt, ?_⟩
            rw [add_mk]
            have hce := cells_elem hz hr hc
            have := RS.ra (P := P) (E := E) c 0 _ ⟨ab, ao + i.toNat * P.cellsOf e, none⟩ rfl hce (fun j v hv => by
              rw [List.getElem?_take] at hv
              split at hv
              · rw [List.getElem?_drop] at hv
                obtain ⟨ad', e', _, hA', hc'⟩ := hpl _ v hv
                cases e'
                rw [← Nat.add_assoc] at hc'
                exact ⟨hA', hc'⟩
              · cases hv)
            exact this
          case al p =>
            change eaO p e i.toNat (s.at p) = some r at hv
            unfold eaO at hv
            split at hv <;> simp at hv
            rename_i e' xs hp
            obtain ⟨⟨rfl, hlt⟩, rfl⟩ := hv
            have ho := h.own hp
            obtain ⟨b, cap, hf, hb⟩ := ho.block (by omega)
            rw [hf]
            refine ⟨_, hgo _ _ _ hlt, ?_⟩
            rw [add_mk]
            have := RS.ea (P := P) (A := fun b => E.om b ∨ F b) (E := E) (w := w) p e' i.toNat 0 b hb
            simpa using this
          case vw p e0 off n hw =>
            simp at hv
            obtain ⟨⟨rfl, hlt⟩, rfl⟩ := hv
            obtain ⟨_, a, cap, rfl, _, hn⟩ := hw
            obtain ⟨b, hb, rfl⟩ := hn (by omega)
            refine ⟨_, hgo _ _ _ hlt, ?_⟩
            rw [add_mk]
            have := RS.ea (P := P) (A := fun b => E.om b ∨ F b) (E := E) (w := w) p e0 (off + i.toNat) 0 b hb
            simpa [Nat.add_mul] using this
      · rename_i n e ez ea hT
        obtain ⟨hu, hez⟩ := tk_arr hT
        split at hv
        · simp at hv
        · rename_i hz0
          obtain ⟨inf, hinf, hsz⟩ := info_of_cells (P := P) (t := e) (by omega)
          cases hx <;> simp at hv
          rename_i o off
          obtain ⟨hlt, rfl⟩ := hv
          have : 0 ≤ i ∧ i < (n : Int) := by omega
          refine ⟨_, ?_, .ptr _ _⟩
          simp [Instr.indexAt, asIntOf, run_underlying hu, run_sizeOf w hinf, this, Instr.sureAddr, add_mk, hez]
      · simp at hv
  · simp at hv
end
end Go.Ck

set_option linter.unusedVariables false
namespace Go.Ck
open Go.RowKit

section
variable {P : Program} {O0 : Base} {F : Nat → Prop} {w0 w : World} {s : St} {E : Env} {tmps : Array Value}

theorem extract_str (l : List UInt8) (a b : Nat) : (⟨l.toArray⟩ : ByteArray).extract a b = ⟨((l.drop a).take (b - a)).toArray⟩ := by
  apply ByteArray.ext
  rw [ByteArray.data_extract]
  simp [List.extract_eq_take_drop]

def RSo (P : Program) (A : Nat → Prop) (E : Env) (w : World) : Option SV → Option Value → Prop
  | none, none => True
  | some v, some y => RS P A E w v y
  | _, _ => False
def IVo : Option Int → Option Value → Prop
  | none, none => True
  | some n, some y => ∃ k, y = .int k n
  | _, _ => False
theorem optInt_sound {o : Option SV} {m : Option Int} {x : Option Value} (h : optInt o = some m) (hx : RSo P (fun b => E.om b ∨ F b) E w o x) : IVo m x := by
  cases o with
  | none => simp [optInt] at h; subst h; cases x <;> simp_all [RSo, IVo]
  | some v =>
    cases x with
    | none => simp [RSo] at hx
    | some y =>
      simp only [RSo] at hx
      cases v <;> simp [optInt] at h
      rename_i p
      cases p <;> simp at h
      subst h
      cases hx with
      | pv _ _ hx => cases hx; exact ⟨_, rfl⟩

theorem run_sliceBounds (isSlice : Bool) (n cap : Nat) (lo hi : Option Int) (xl xh : Option Value) (hl : IVo lo xl) (hh : IVo hi xh) (h : 0 ≤ lo.getD 0 ∧ lo.getD 0 ≤ hi.getD n ∧ hi.getD n ≤ n) (hc : n ≤ cap) :
    (Instr.sliceBounds isSlice n cap xl xh none).run P w = .ok ((lo.getD 0).toNat, (hi.getD n).toNat, cap) w := by
  obtain ⟨h1, h2, h3⟩ := h
  have e1 : ∀ (k : IntKind) (m : Int) (c : BoundsCode) (y : Nat), 0 ≤ m → m ≤ y → (Instr.sliceBound (.int k m) y c).run P w = .ok m.toNat w := by
    intro k m c y h0 h1
    simp [Instr.sliceBound, asIntOf, h0, h1]
  cases lo with
  | none =>
    cases xl with
    | some _ => simp [IVo] at hl
    | none =>
      cases hi with
      | none =>
        cases xh with
        | some _ => simp [IVo] at hh
        | none => simp [Instr.sliceBounds]
      | some b =>
        cases xh with
        | none => simp [IVo] at hh
        | some y =>
          obtain ⟨k, rfl⟩ := hh
          simp at h2 h3 h1
          simp [Instr.sliceBounds, e1 k b _ cap h2 (by omega)]
  | some a =>
    cases xl with
    | none => simp [IVo] at hl
    | some y =>
      obtain ⟨k, rfl⟩ := hl
      simp at h1
      cases hi with
      | none =>
        cases xh with
        | some _ => simp [IVo] at hh
        | none =>
          simp at h2
          simp [Instr.sliceBounds, e1 k a _ n h1 h2]
      | some b =>
        cases xh with
        | none => simp [IVo] at hh
        | some y =>
          obtain ⟨k', rfl⟩ := hh
          simp at h2 h3
          have hb : 0 ≤ b := by omega
          simp [Instr.sliceBounds, e1 k' b _ cap hb (by omega), e1 k a _ b.toNat h1 (by omega)]

theorem aslice_sound (h : Rel P O0 w0 F s E tmps w) {t : TypeId} {v r : SV} {x : Value} {lo hi : Option SV} {xl xh : Option Value} (hv : aslice P s t v lo hi = some r) (hx : RS P (fun b => E.om b ∨ F b) E w v x)
    (hl : RSo P (fun b => E.om b ∨ F b) E w lo xl) (hh : RSo P (fun b => E.om b ∨ F b) E w hi xh) :
    ∃ z, (Instr.sliceAt t x xl xh none).run P w = .ok z w ∧ RS P (fun b => E.om b ∨ F b) E w r z := by
  unfold aslice at hv
  unfold sliceN at hv
  split at hv
  · rename_i n hn
    split at hv
    · rename_i m1 m2 e1 e2
      have hl' := optInt_sound e1 hl
      have hh' := optInt_sound e2 hh
      unfold sliceB at hv
      split at hv
      · rename_i hb
        obtain ⟨hn0, hcase⟩ := alen_sound (t := t) h hn hx
        unfold sliceV at hv
        split at hv
        · rename_i e ez eb ea hT
          obtain ⟨hu, hez, _⟩ := tk_sl hT
          have hgo : ∀ (a : Option Addr) (N cap : Nat), n = (N : Int) → N ≤ cap → 0 < P.cellsOf e → (Instr.sliceAt t (.slice a N cap) xl xh none).run P w =
              .ok (.slice (if cap = (m1.getD 0).toNat then a else a.map (·.add ((m1.getD 0).toNat * P.cellsOf e))) ((m2.getD n).toNat - (m1.getD 0).toNat) (cap - (m1.getD 0).toNat)) w := by
            intro a N cap hN hc hp
            subst hN
            obtain ⟨inf, hinf, hsz⟩ := info_of_cells (P := P) (t := e) hp
            have := run_sliceBounds (P := P) (w := w) true N cap m1 m2 xl xh hl' hh' hb hc
            simp [Instr.sliceAt, Instr.slice, run_underlying hu, this, run_sizeOf w hinf]
          have hto : ∀ (N : Nat), n = (N : Int) → (m1.getD 0).toNat + (m2.getD n - m1.getD 0).toNat ≤ N ∧ (m2.getD n).toNat - (m1.getD 0).toNat = (m2.getD n - m1.getD 0).toNat := by
            intro N hN
            omega
          have hcs : ∀ xs, cont s v = some xs → ∃ a cap, x = .slice a xs.length cap ∧ n = (xs.length : Int) ∧ xs.length ≤ cap := by
            intro xs hxs
            rcases hcase with ⟨l, rfl, _⟩ | ⟨o, ms, c, rfl, _⟩ | ⟨ys, a', cap', hc', hx', hn', _, hcp⟩
            · simp [cont] at hxs
            · simp [cont] at hxs
            · rw [hxs] at hc'; cases hc'; exact ⟨a', cap', hx', hn', hcp⟩
          cases hx <;> try (simp at hv; done)
          case pv p hx =>
            cases p <;> simp at hv
            rename_i z xs
            obtain ⟨⟨hz, hz0⟩, rfl⟩ := hv
            obtain ⟨vs, a, cap, rfl, hr, hm, hzz, hb', hcap⟩ := hx.slParts
            obtain ⟨_, _, _, hn, _⟩ := hcs xs rfl
            obtain ⟨ht1, ht2⟩ := hto _ hn
            refine ⟨_, hgo a _ cap hn hcap (Nat.pos_of_ne_zero (hez ▸ hz0)), ?_⟩
            rw [ht2]
            have hlen : ((xs.drop (m1.getD 0).toNat).take (m2.getD n - m1.getD 0).toNat).length = (m2.getD n - m1.getD 0).toNat := by simp; omega
            have hzz' : z = P.cellsOf e := by rw [hz, hez]
            subst hzz'
            have hz' : ∀ x ∈ (xs.drop (m1.getD 0).toNat), x.cells.length = P.cellsOf e := fun x hx => hzz x (List.mem_of_mem_drop hx)
            have := RO.mkSl (A := fun b => E.om b ∨ F b) (w := w) (xs := (xs.drop (m1.getD 0).toNat).take (m2.getD n - m1.getD 0).toNat) (vs := (vs.drop ((m1.getD 0).toNat * P.cellsOf e)).take ((m2.getD n - m1.getD 0).toNat * P.cellsOf e))
              (a := if cap = (m1.getD 0).toNat then a else a.map (·.add ((m1.getD 0).toNat * P.cellsOf e))) (cap := cap - (m1.getD 0).toNat) (by
                rw [flat_take hz', flat_drop hzz]
                exact (hr.drop _).take _) (fun i u hu => by
                  rw [List.getElem?_take] at hu
                  split at hu
                  · rename_i hi
                    rw [List.getElem?_drop] at hu
                    obtain ⟨ad, rfl, hs, hA, hc⟩ := plainAddr (A := fun b => E.om b ∨ F b) hm _ _ hu
                    have hne : cap ≠ (m1.getD 0).toNat := by
                      intro he
                      have : (m2.getD n - m1.getD 0).toNat = 0 := by omega
                      rw [this] at hi
                      omega
                    obtain ⟨ab, ao, asp⟩ := ad
                    simp only at hs hA hc
                    subst hs
                    refine ⟨⟨ab, ao + (m1.getD 0).toNat * P.cellsOf e, none⟩, by rw [if_neg hne]; simp [add_mk], hA, ?_⟩
                    rw [add_mk, Nat.add_assoc]
                    exact hc
                  · cases hu) (fun x hx => hz' x (List.mem_of_mem_take hx)) (by rw [hlen]; omega) (by rw [hlen]; omega)
            rw [hlen] at this
            exact .pv _ _ this
          case al p =>
            change (if ez = 0 then none else some (SV.vw p e (m1.getD 0).toNat (m2.getD n - m1.getD 0).toNat)) = some r at hv
            split at hv
            · simp at hv
            · rename_i hz0
              simp at hv
              subst hv
              cases hc : cont s (.al p) with
              | none =>
                rcases hcase with ⟨l, hl1, _⟩ | ⟨o, ms, c, hl1, _⟩ | ⟨ys, a', cap', hc', _⟩
                · cases hl1
                · cases hl1
                · rw [hc] at hc'; cases hc'
              | some xs =>
                obtain ⟨a, cap, he, hn, hcap⟩ := hcs xs hc
                obtain ⟨ht1, ht2⟩ := hto _ hn
                have hx2 := hcs xs hc
                simp only [cont] at hc
                split at hc <;> simp at hc
                rename_i e1 ys hp
                subst hc
                have ho := h.own hp
                rw [he]
                refine ⟨_, hgo a _ cap hn hcap (Nat.pos_of_ne_zero (hez ▸ hz0)), ?_⟩
                rw [ht2]
                refine .vw _ _ _ _ _ ⟨⟨a, ys.length, cap, he, by omega⟩, _, _, rfl, by omega, fun hpos => ?_⟩
                obtain ⟨b, cap', hf, hb⟩ := ho.block (by omega)
                refine ⟨b, hb, ?_⟩
                rw [he] at hf
                cases hf
                have hne : cap ≠ (m1.getD 0).toNat := by omega
                rw [if_neg hne]
                simp [add_mk]
          case vw p e0 off m hw =>
            change (if e0 = e ∧ ez ≠ 0 then some (SV.vw p e (off + (m1.getD 0).toNat) (m2.getD n - m1.getD 0).toNat) else none) = some r at hv
            split at hv
            · rename_i hz0
              obtain ⟨rfl, hz0⟩ := hz0
              simp at hv
              subst hv
              obtain ⟨⟨a0, len0, cap0, hh0, hle0⟩, a, cap, rfl, hmc, hn⟩ := hw
              have hnm : n = (m : Int) := by
                rcases hcase with ⟨l, hl1, _⟩ | ⟨o, ms, c, hl1, _⟩ | ⟨ys, a', cap', hc', hx', hn', _⟩
                · cases hl1
                · cases hl1
                · cases hx'; exact hn'
              obtain ⟨ht1, ht2⟩ := hto _ hnm
              refine ⟨_, hgo a _ cap hnm hmc (Nat.pos_of_ne_zero (hez ▸ hz0)), ?_⟩
              rw [ht2]
              refine .vw _ _ _ _ _ ⟨⟨a0, len0, cap0, hh0, by omega⟩, _, _, rfl, by omega, fun hpos => ?_⟩
              obtain ⟨b, hb, rfl⟩ := hn (by omega)
              refine ⟨b, hb, ?_⟩
              have hne : cap ≠ (m1.getD 0).toNat := by omega
              rw [if_neg hne]
              simp [add_mk, Nat.add_mul]
            · simp at hv
          case nils =>
            simp at hv
            obtain ⟨hv0, rfl⟩ := hv
            have hv0 : 0 < P.cellsOf e := by omega
            obtain ⟨a, cap, he, hn, hcap⟩ := hcs [] rfl
            cases he
            simp at hn
            subst hn
            obtain ⟨hb1, hb2, hb3⟩ := hb
            have e1 : m1.getD 0 = 0 := by omega
            have e2 : m2.getD 0 = 0 := by omega
            by_cases hpz : 0 < P.cellsOf e
            · refine ⟨_, hgo none 0 0 rfl (by omega) hpz, ?_⟩
              simp [e1, e2]
              exact .nils
            · exact absurd hv0 hpz
        · rename_i hT
          have hu := tk_str hT
          cases hx <;> try (simp at hv; done)
          case pv p hx =>
            cases p <;> simp at hv
            rename_i l
            subst hv
            cases hx
            have hn : n = (l.length : Int) := by
              rcases hcase with ⟨l', hl1, hx1, hn1⟩ | ⟨o, ms, c, hl1, _⟩ | ⟨ys, a', cap', hc', _⟩
              · cases hl1; exact hn1
              · cases hl1
              · simp [cont] at hc'
            subst hn
            have := run_sliceBounds (P := P) (w := w) false l.length l.length m1 m2 xl xh hl' hh' hb (Nat.le_refl _)
            refine ⟨.string ((⟨l.toArray⟩ : ByteArray).extract (m1.getD 0).toNat (m2.getD (l.length : Int)).toNat), ?_, ?_⟩
            · have hs : (⟨l.toArray⟩ : ByteArray).size = l.length := by simp [ByteArray.size]
              simp [Instr.sliceAt, Instr.slice, run_underlying hu, hs, this]
            · rw [extract_str]
              have : (m2.getD (l.length : Int)).toNat - (m1.getD 0).toNat = (m2.getD (l.length : Int) - m1.getD 0).toNat := by omega
              rw [this]
              exact .pv _ _ (.str _)
        · simp at hv
      · simp at hv
    · simp at hv
  · simp at hv
end
end Go.Ck

set_option linter.unusedVariables false
namespace Go.Ck
open Go.RowKit

section
variable {P : Program} {O0 : Base} {F : Nat → Prop} {w0 w : World} {s : St} {E : Env} {a : Act}

theorem ev_rs (h : Rel P O0 w0 F s E a.tmps w) {x : Operand} {v : SV} (hv : ev s x = some v) : RS P (fun b => E.om b ∨ F b) E w v (a.eval x) := by
  cases x with
  | tmp t => exact h.ev_tmp hv
  | const c => exact RS.ofConst hv
  | global g => simp [ev] at hv
  | func f =>
    simp [ev] at hv
    subst hv
    exact RS.fn (P := P) (A := fun b => E.om b ∨ F b) (E := E) (w := w) f [] [] rfl rfl (by simp)

theorem RO.bool_eq {A : Nat → Prop} {b : Bool} {x : Value} (h : RO A w (.bool b) x) : x = .bool b := by
  generalize hp : PV.bool b = p at h
  cases h <;> simp_all

theorem RO.int_eq {A : Nat → Prop} {k : IntKind} {n : Int} {x : Value} (h : RO A w (.int k n) x) : x = .int k n := by
  generalize hp : PV.int k n = p at h
  cases h <;> simp_all

theorem ev_pv (h : Rel P O0 w0 F s E a.tmps w) {x : Operand} {p : PV} (hv : ev s x = some (.pv p)) : RO (fun b => E.om b ∨ F b) w p (a.eval x) := by
  have := ev_rs h hv
  cases this with
  | pv _ _ h => exact h

theorem evo_sound (h : Rel P O0 w0 F s E a.tmps w) {x : Option Operand} {v : Option SV} (hv : evo s x = some v) : RSo P (fun b => E.om b ∨ F b) E w v (x.map a.eval) := by
  cases x with
  | none => simp [evo] at hv; subst hv; trivial
  | some x =>
    simp only [evo] at hv
    split at hv <;> simp at hv
    rename_i u hu
    subst hv
    exact ev_rs h hu

theorem evs_sound (h : Rel P O0 w0 F s E a.tmps w) : ∀ {xs : List Operand} {vs : List SV}, evs s xs = some vs → vs.length = xs.length ∧ ∀ (i : Nat) (x : Operand) (v : SV), xs[i]? = some x → vs[i]? = some v → ev s x = some v
  | [], vs, hv => by simp [evs] at hv; subst hv; simp
  | x :: r, vs, hv => by
    simp only [evs] at hv
    split at hv <;> simp at hv
    rename_i v us h1 h2
    subst hv
    obtain ⟨h3, h4⟩ := evs_sound h h2
    refine ⟨by simp [h3], fun i y u hy hu => ?_⟩
    cases i with
    | zero => simp at hy hu; subst hy; subst hu; exact h1
    | succ i => exact h4 i y u (by simpa using hy) (by simpa using hu)

theorem numsOf_sound {A : Nat → Prop} {xs : List PV} {l : List Int} {vs : List Value} (h : numsOf xs = some l) (hr : ROs A w (flat xs) vs) : vs.length = xs.length ∧ l.length = xs.length ∧ ∀ i, i < xs.length → vs[i]? = some (.int .u8 (l.getD i 0)) := by
  induction xs generalizing l vs with
  | nil => simp [numsOf] at h; subst h; have := hr.1; simp [flat] at this; subst this; simp
  | cons x xs ih =>
    cases x <;> try (simp [numsOf] at h; done)
    rename_i k n
    cases k <;> try (simp [numsOf] at h; done)
    simp only [numsOf] at h
    split at h <;> simp at h
    rename_i l' hl'
    subst h
    have e : flat (PV.int .u8 n :: xs) = PV.int .u8 n :: flat xs := by simp [flat_cons, PV.cells]
    rw [e] at hr
    match vs, hr.1 with
    | v :: us, hlen =>
      have h0 := hr.2.2 0 _ v rfl rfl
      cases h0
      have hr' : ROs A w (flat xs) us := by
        have := hr.drop 1
        simpa using this
      obtain ⟨h2, h3, h4⟩ := ih hl' hr'
      refine ⟨by simp [h2], by simp [h3], fun i hi => ?_⟩
      cases i with
      | zero => simp
      | succ i => simpa using h4 i (by simpa using hi)

theorem aconv_sound (h : Rel P O0 w0 F s E a.tmps w) {src dst : TypeId} {v r : SV} {x : Value} (hv : aconv P s src dst v = some r) (hx : RS P (fun b => E.om b ∨ F b) E w v x) :
    ∃ z, (convert src dst x).run P w = .ok z w ∧ RS P (fun b => E.om b ∨ F b) E w r z := by
  unfold aconv at hv
  unfold convT at hv
  split at hv
  · rename_i k' k h1 h2
    have hu1 := tk_int h1
    have hu2 := tk_int h2
    split at hv <;> simp at hv
    subst hv
    cases hx with
    | pv _ _ hx =>
      cases hx
      refine ⟨_, ?_, .pv _ _ (.int _ _)⟩
      simp [convert, run_underlying hu1, run_underlying hu2, Conv.intToInt]
  · rename_i h1 h2
    have hu1 := tk_str h1
    have hu2 := tk_str h2
    split at hv <;> simp at hv
    subst hv
    cases hx with
    | pv _ _ hx =>
      cases hx
      refine ⟨_, ?_, .pv _ _ (.str _)⟩
      simp [convert, run_underlying hu1, run_underlying hu2]
  · rename_i e ez eb ea h1 h2
    obtain ⟨hu1, _, _⟩ := tk_sl h1
    have hu2 := tk_str h2
    split at hv
    · rename_i he
      have hue := tk_int he
      unfold bstrO at hv
      split at hv
      · rename_i xs hc
        unfold strO at hv
        split at hv <;> simp at hv
        rename_i l hl
        subst hv
        obtain ⟨ad, cap, vs, rfl, hr, hm, _, _⟩ := cont_sound h hc hx
        obtain ⟨h3, h4, h5⟩ := numsOf_sound hl hr
        have hs : strOfNums l = ⟨(ofNums l).toArray⟩ := by simp [strOfNums, ofNums]
        refine ⟨.string (strOfNums l), ?_, by rw [hs]; exact .pv _ _ (.str _)⟩
        cases ad with
        | none =>
          have : xs = [] := by
            match xs, h5 with
            | [], _ => rfl
            | y :: ys, h5 => obtain ⟨_, e, _⟩ := hm 0 _ (h5 0 (by simp)); cases e
          subst this
          have : l = [] := List.eq_nil_of_length_eq_zero (by simpa using h4)
          subst this
          rw [run_convert_bytes_nil w src e hu1 hue _ _ dst hu2]
          simp [strOfNums, ByteArray.empty, ByteArray.emptyWithCapacity]
          rfl
        | some ad =>
          by_cases hx0 : xs = []
          · subst hx0
            have : l = [] := List.eq_nil_of_length_eq_zero (by simpa using h4)
            subst this
            simp [convert, run_underlying hu1, run_underlying hu2, run_underlying hue, Conv.bytesToString, loadCells, loadCellsFrom, strOfNums, ByteArray.empty, ByteArray.emptyWithCapacity]
            rfl
          · have hpos : 0 < xs.length := List.length_pos_iff.2 hx0
            obtain ⟨ad', e', hsp, _⟩ := hm 0 _ (h5 0 hpos)
            cases e'
            obtain ⟨ab, ao, asp⟩ := ad
            simp only at hsp
            subst hsp
            exact run_convert_bytes_arg w src e hu1 hue ab ao xs.length cap l h4 (fun i hi => by
              obtain ⟨ad', e', _, hcc⟩ := hm i _ (h5 i hi)
              cases e'
              exact hcc) dst hu2
      · simp at hv
    · simp at hv
  · simp at hv

theorem run_un {op : UnOp} {p r : PV} {x : Value} {A : Nat → Prop} (hp : RO A w p x) (h : aun op p = some r) : ∃ z, (Op.unary op x).run P w = .ok z w ∧ RO A w r z := by
  unfold aun at h
  split at h <;> simp at h <;> subst h <;> cases hp
  · exact ⟨_, by simp [Op.unary, Op.intArith], .int _ _⟩
  · exact ⟨_, by simp [Op.unary, Op.intBits, ibits], .int _ _⟩
  · exact ⟨_, by simp [Op.unary], .bool _⟩

theorem pvO_some {o : Option PV} {r : SV} (h : pvO o = some r) : ∃ p, o = some p ∧ r = .pv p := by
  cases o with
  | none => simp [pvO] at h
  | some p => simp [pvO] at h; exact ⟨p, rfl, h.symm⟩

theorem run_eqPtr {A : Nat → Prop} {op : BinOp} {t : TypeId} {r : SV} {ou ov : Operand} (c : Bool) (a b : Option Addr) (hT : (tk P t).isPtr = true) (he : ∀ e, P.underlying t = some (.pointer e) → (Op.equal t (.pointer a) (.pointer b)).run P w = .ok c w) (hr : eqSV c op = some r) :
    ∃ z, (do eqGuard op t ou ov (.pointer a) (.pointer b); binOp op t (.pointer a) (.pointer b) : Sem Value).run P w = .ok z w ∧ RS P A E w r z := by
  have hu : ∃ e, P.underlying t = some (.pointer e) := by
    unfold tk at hT
    split at hT <;> simp [TK.isPtr] at hT
    exact ⟨_, ‹_›⟩
  obtain ⟨e, hu⟩ := hu
  have he := he e hu
  cases op <;> simp [eqSV] at hr <;> subst hr
  · refine ⟨.bool c, ?_, .pv _ _ (.bool _)⟩
    simp only [eqGuard, binOp]
    simp [Sem.run, he, Result.andThen]
  · refine ⟨.bool (!c), ?_, .pv _ _ (.bool _)⟩
    simp only [eqGuard, binOp]
    simp [Sem.run, he, Result.andThen]

theorem run_binS {op : BinOp} {A : Nat → Prop} {x y : SV} {r : SV} {u v : Value} {t : TypeId} {ou ov : Operand} (hx : RS P A E w x u) (hy : RS P A E w y v) (hb : abinS (tk P t) op x y = some r) :
    ∃ z, (do eqGuard op t ou ov u v; binOp op t u v : Sem Value).run P w = .ok z w ∧ RS P A E w r z := by
  unfold abinS at hb
  split at hb
  · obtain ⟨p, hbb, rfl⟩ := pvO_some hb
    cases hx with | pv _ _ hx => cases hy with | pv _ _ hy =>
    obtain ⟨z, h1, h2⟩ := run_bin (t := t) (u := ou) (v := ov) hx hy (.inl ⟨_, _, _, _, rfl, rfl⟩) hbb
    exact ⟨z, h1, .pv _ _ h2⟩
  · obtain ⟨p, hbb, rfl⟩ := pvO_some hb
    cases hx with | pv _ _ hx => cases hy with | pv _ _ hy =>
    obtain ⟨z, h1, h2⟩ := run_bin (t := t) (u := ou) (v := ov) hx hy (.inr (.inl ⟨_, _, rfl, rfl⟩)) hbb
    exact ⟨z, h1, .pv _ _ h2⟩
  · by_cases hT : (tk P t).isBool = true
    · rw [if_pos hT] at hb
      obtain ⟨p, hbb, rfl⟩ := pvO_some hb
      have hu : P.underlying t = some .bool := by
        unfold tk at hT
        split at hT <;> simp [TK.isBool] at hT
        assumption
      cases hx with | pv _ _ hx => cases hy with | pv _ _ hy =>
      obtain ⟨z, h1, h2⟩ := run_bin (t := t) (u := ou) (v := ov) hx hy (.inr (.inr ⟨⟨_, _, rfl, rfl⟩, hu⟩)) hbb
      exact ⟨z, h1, .pv _ _ h2⟩
    · rw [if_neg hT] at hb; cases hb
  · by_cases hT : (tk P t).isPtr = true
    · rw [if_pos hT] at hb
      cases hx with | pv _ _ hx =>
      cases hx
      cases hy with | pv _ _ hy =>
      cases hy
      exact run_eqPtr true none none hT (fun e hu => by
        show (Op.equalIn (9999 + 1) t _ _).run P w = _
        rw [Op.equalIn]; simp [run_underlying hu]) hb
    · rw [if_neg hT] at hb; cases hb
  · by_cases hT : (tk P t).isPtr = true
    · rw [if_pos hT] at hb
      cases hy with | pv _ _ hy =>
      cases hy
      cases hx
      exact run_eqPtr false (some _) none hT (fun e hu => by
        show (Op.equalIn (9999 + 1) t _ _).run P w = _
        rw [Op.equalIn]; simp [run_underlying hu]) hb
    · rw [if_neg hT] at hb; cases hb
  · cases hb

theorem tk_map {t k e : Nat} (h : tk P t = .map k e) : P.underlying t = some (.map k e) := by
  unfold tk at h
  split at h <;> simp at h
  rename_i hu
  obtain ⟨rfl, rfl⟩ := h
  exact hu
theorem run_getObj_map {r : Nat} {ms : Array MapEntry} {c : Nat} (h : w.heap[r]? = some (.map ms c)) : (getObj r).run P w = .ok (.map ms c) w := by
  simp [getObj, Sem.run, h]
theorem lenT_sound (h : Rel P O0 w0 F s E a.tmps w) {v r : SV} {x : Value} {t ty : TypeId} (hv : lenT s v (tk P t) = some r) (hx : RS P (fun b => E.om b ∨ F b) E w v x) :
    ∃ z, (Builtin.len_ #[t] ty #[x]).run P w = .ok z w ∧ RS P (fun b => E.om b ∨ F b) E w r z := by
  unfold lenT at hv
  split at hv
  · rename_i hT
    have hu := tk_str hT
    split at hv <;> simp at hv
    subst hv
    cases hx with
    | pv _ _ hx =>
      cases hx
      refine ⟨_, ?_, .pv _ _ (.int _ _)⟩
      rename_i l
      have hs : (⟨l.toArray⟩ : ByteArray).size = l.length := by simp [ByteArray.size]
      simp [Builtin.len_, run_underlying hu, goInt, hs]
  · rename_i hT
    obtain ⟨hu, _, _⟩ := tk_sl hT
    split at hv
    · cases hv
    · cases hv
    · rename_i hn1 hn2
      unfold intO at hv
      split at hv <;> simp at hv
      rename_i n hn
      subst hv
      obtain ⟨h0, hc⟩ := alen_sound (t := t) h hn hx
      rcases hc with ⟨l, rfl, _⟩ | ⟨o, ms, c, rfl, _⟩ | ⟨xs, ad, cap, hc, rfl, rfl, _⟩
      · exact absurd rfl (hn2 l)
      · exact absurd rfl (hn1 o)
      · refine ⟨_, ?_, .pv _ _ (.int _ _)⟩
        simp [Builtin.len_, run_underlying hu, goInt]
  · rename_i hT
    have hu := tk_map hT
    split at hv
    · rename_i o
      unfold intO at hv
      split at hv <;> simp at hv
      rename_i n hn
      subst hv
      obtain ⟨h0, hc⟩ := alen_sound (t := t) h hn hx
      rcases hc with ⟨l, h1, _⟩ | ⟨o', ms, c, h1, rfl, hh, rfl⟩ | ⟨xs, ad, cap, hc, rfl, rfl, _⟩
      · cases h1
      · cases h1
        refine ⟨_, ?_, .pv _ _ (.int _ _)⟩
        simp [Builtin.len_, run_underlying hu, goInt, run_getObj_map hh]
      · simp [cont] at hc
    · cases hv
  · cases hv

theorem aval_sound (h : Rel P O0 w0 F s E a.tmps w) {o : Oper} {v : SV} (hv : aval P s o.type o.op = some v) :
    ∃ x, (execOp a.eval o).run P w = .ok (.value x) w ∧ RS P (fun b => E.om b ∨ F b) E w v x := by
  unfold aval at hv
  unfold execOp
  split at hv
  case h_1 x he => rw [he]; exact ⟨_, rfl, ev_rs h hv⟩
  case h_2 x he => rw [he]; exact ⟨_, rfl, ev_rs h hv⟩
  case h_3 c x y he =>
    rw [he]
    split at hv
    · rename_i hc
      have e := (ev_pv h hc).bool_eq
      split at hv <;> simp at hv
      rename_i hx
      subst hv
      exact ⟨_, by simp [e, asBool], .pv _ _ (ev_pv h hx)⟩
    · rename_i hc
      have e := (ev_pv h hc).bool_eq
      split at hv <;> simp at hv
      rename_i hx
      subst hv
      exact ⟨_, by simp [e, asBool], .pv _ _ (ev_pv h hx)⟩
    · cases hv
  case h_4 op t x he =>
    rw [he]
    split at hv
    · rename_i p hx
      split at hv <;> simp at hv
      rename_i r hr
      subst hv
      obtain ⟨z, h1, h2⟩ := run_un (P := P) (w := w) (ev_pv h hx) hr
      exact ⟨z, by simp [h1], .pv _ _ h2⟩
    · cases hv
  case h_5 op t x y t' he =>
    rw [he]
    split at hv
    · rename_i p q hp hq
      obtain ⟨z, h1, h2⟩ := run_binS (ou := x) (ov := y) (ev_rs h hp) (ev_rs h hq) hv
      refine ⟨z, ?_, h2⟩
      simp only [Sem.run_bind] at h1 ⊢
      rw [h1]
      rfl
    · cases hv
  case h_6 t1 t2 x he =>
    rw [he]
    split at hv
    · rename_i p hp
      obtain ⟨z, h1, h2⟩ := aconv_sound h hv (ev_rs h hp)
      exact ⟨z, by simp [h1], h2⟩
    · cases hv
  case h_7 x he =>
    rw [he]
    split at hv <;> simp at hv <;> rename_i hx <;> subst hv
    all_goals
      have hr := ev_rs h hx
      cases e : a.eval x <;> rw [e] at hr <;> try (cases hr; done)
    all_goals
      rename_i ad
      cases ad with
      | none => cases hr
      | some ad => exact ⟨.pointer (some ad), by simp [e], hr⟩
  case h_8 t x he =>
    rw [he]
    split at hv
    · rename_i p hp
      obtain ⟨z, h1, h2⟩ := aload_sound h hv (ev_rs h hp)
      exact ⟨z, by simp [h1], h2⟩
    · cases hv
  case h_9 t x f he =>
    rw [he]
    split at hv
    · rename_i p hp
      obtain ⟨z, h1, h2⟩ := afieldAddr_sound (w := w) hv (ev_rs h hp)
      exact ⟨z, by simp [h1], h2⟩
    · cases hv
  case h_10 t x f he =>
    rw [he]
    split at hv
    · rename_i p hp
      obtain ⟨z, h1, h2⟩ := afield_sound (w := w) hv (ev_rs h hp)
      exact ⟨z, by simp [h1], h2⟩
    · cases hv
  case h_11 t x i he =>
    rw [he]
    split at hv
    · rename_i p q hp hq
      obtain ⟨z, h1, h2⟩ := aindexAddr_sound h hv (ev_rs h hp) (ev_rs h hq)
      exact ⟨z, by simp [h1], h2⟩
    · cases hv
  case h_12 t x lo hi he =>
    rw [he]
    split at hv
    · rename_i p l u hp hl hu
      obtain ⟨z, h1, h2⟩ := aslice_sound h hv (ev_rs h hp) (evo_sound h hl) (evo_sound h hu)
      exact ⟨z, by simp [h1], h2⟩
    · cases hv
  case h_13 x i he =>
    rw [he]
    split at hv
    · rename_i t
      split at hv <;> simp at hv
      rename_i p hp
      subst hv
      obtain ⟨y, ⟨vs, h1, h2⟩, h3⟩ := h.place _ _ hp
      simp only [PVal] at h3
      refine ⟨y, ?_, h3⟩
      have : a.eval (.tmp t) = .tuple vs := by simp [Act.eval, Array.getD_eq_getD_getElem?, h1]
      simp [this, Instr.extract, h2]
    · cases hv
  case h_14 t x he =>
    rw [he]
    split at hv <;> simp at hv
    rename_i p fs hp hT
    subst hv
    obtain ⟨fl, hu, _⟩ := tk_st hT
    exact ⟨.iface t (a.eval x), by simp [Instr.makeInterface, run_underlying hu], .pv _ _ (.iface _ _ _ (ev_pv h hp))⟩
  case h_15 c he =>
    rw [he]
    split at hv
    · rename_i hc
      split at hv
      · rename_i v t hvs hts
        obtain ⟨h1, h2⟩ := evs_sound h hvs
        have hal : c.args = #[c.args.toList[0]'(by rw [← h1]; simp)] := by
          apply Array.ext'
          match hcl : c.args.toList, h1 with
          | [x], _ => simp
        have hat : c.argTypes = #[t] := by apply Array.ext'; rw [hts]
        have hx := ev_rs h (h2 0 _ v (List.getElem?_eq_getElem (by rw [← h1]; simp)) rfl)
        obtain ⟨z, h3, h4⟩ := lenT_sound (ty := o.type) h hv hx
        refine ⟨z, ?_, h4⟩
        rw [← hat] at h3
        generalize c.args.toList[0]'(by rw [← h1]; simp) = x0 at hal h3
        simp [resolve, hc, invoke, builtin, hal, h3]
      · cases hv
    · rename_i hc
      split at hv
      · rename_i vs hvs
        unfold minI at hv
        split at hv
        · rename_i k x k' y
          split at hv <;> simp at hv
          rename_i hk
          subst hk
          subst hv
          obtain ⟨h1, h2⟩ := evs_sound h hvs
          match hcl : c.args.toList, h1 with
          | [x0, x1], _ =>
            have e0 := ev_pv h (h2 0 x0 _ (by rw [hcl]; rfl) rfl)
            have e1 := ev_pv h (h2 1 x1 _ (by rw [hcl]; rfl) rfl)
            have hal : c.args = #[x0, x1] := by apply Array.ext'; rw [hcl]
            have e0 := e0.int_eq
            have e1 := e1.int_eq
            refine ⟨_, ?_, .pv _ _ (.int _ _)⟩
            simp [resolve, hc, invoke, builtin, hal, Builtin.min_, Builtin.min2, e0, e1]
        · cases hv
      · cases hv
    · rename_i hc
      split at hv
      · rename_i vs hvs
        unfold maxI at hv
        split at hv
        · rename_i k x k' y
          split at hv <;> simp at hv
          rename_i hk
          subst hk
          subst hv
          obtain ⟨h1, h2⟩ := evs_sound h hvs
          match hcl : c.args.toList, h1 with
          | [x0, x1], _ =>
            have e0 := ev_pv h (h2 0 x0 _ (by rw [hcl]; rfl) rfl)
            have e1 := ev_pv h (h2 1 x1 _ (by rw [hcl]; rfl) rfl)
            have hal : c.args = #[x0, x1] := by apply Array.ext'; rw [hcl]
            have e0 := e0.int_eq
            have e1 := e1.int_eq
            refine ⟨_, ?_, .pv _ _ (.int _ _)⟩
            simp [resolve, hc, invoke, builtin, hal, Builtin.max_, Builtin.max2, e0, e1]
        · cases hv
      · cases hv
    · cases hv
  case h_16 => cases hv
end
end Go.Ck

set_option linter.unusedVariables false
/-! What keeps the relation. -/
namespace Go.Ck
open Go.RowKit

theorem look_killL (q : Place) (d : Nat) : ∀ l : List (Nat × SV), look d (killL q l) = (look d l).map fun v => if v.on q then .dead else v
  | [] => rfl
  | (k, v) :: r => by
    simp only [killL, look]
    split
    · rfl
    · exact look_killL q d r

theorem at_kill (q : Place) (s : St) (p : Place) (v : SV) (h : (kill q s).at p = some v) : (v = .dead ∧ ∃ u, s.at p = some u) ∨ (s.at p = some v ∧ ∀ d, p = .slot d → v.on q = false) := by
  cases p with
  | slot d =>
    simp only [St.at, kill, look_killL, Option.map_eq_some_iff] at h
    obtain ⟨u, hu, he⟩ := h
    split at he
    · exact .inl ⟨he.symm, u, hu⟩
    · rename_i ho
      subst he
      exact .inr ⟨hu, fun _ _ => by simpa using ho⟩
  | part d i =>
    refine .inr ⟨?_, by simp⟩
    simp only [St.at, kill, look_killL] at h ⊢
    cases hl : look d s.sl with
    | none => simp [hl] at h
    | some u =>
      simp only [hl, Option.map_some] at h
      by_cases ho : u.on q = true
      · simp [ho] at h
      · simp only [ho] at h
        exact h
  | cell o i => exact .inr ⟨h, by simp⟩

theorem kill_own (q : Place) (s : St) {p : Place} {e : TypeId} {xs : List PV} (h : s.at p = some (.own e xs)) : (kill q s).at p = some (.own e xs) := by
  cases p with
  | slot d => simp only [St.at, kill, look_killL] at h ⊢; simp [h, SV.on]
  | part d i =>
    simp only [St.at, kill, look_killL] at h ⊢
    cases hl : look d s.sl with
    | none => simp [hl] at h
    | some u => cases u <;> simp [hl] at h; simp [SV.on, h]
  | cell o i => exact h

section
variable {P : Program} {O0 : Base} {F : Nat → Prop} {w0 w : World} {s : St} {E : Env} {tmps : Array Value}

/-- Less is known. -/
theorem Rel.forget (h : Rel P O0 w0 F s E tmps w) {s' : St} (hn : s'.n = s.n) (hat : ∀ p v, s'.at p = some v → v = .dead ∨ s.at p = some v ∨ ∃ vs us, v = .tup vs ∧ s.at p = some (.tup us) ∧ vs.length = us.length) (hho : ∀ o x, look o s'.hp = some x → look o s.hp = some x)
    (hna : ∀ p v q, s'.at p = some v → v.on q = true → ∃ e xs, s'.at q = some (.own e xs)) (hnp : ∀ p v o, s'.at p = some v → v.pts o = true → ∃ x, look o s'.hp = some x) 
    (hcv : ∀ p, (∃ v, s'.at p = some v) → ∃ v, s.at p = some v) (hob : ∀ o x, look o s.hp = some x → ∃ y, look o s'.hp = some y) : Rel P O0 w0 F s' E tmps w where
  place p v hp := by
    rcases hat p v hp with rfl | h1 | ⟨vs, us, rfl, h1, h2⟩
    · obtain ⟨u, hu⟩ := hcv p ⟨_, hp⟩
      obtain ⟨x, hx, _⟩ := h.place p u hu
      exact ⟨x, hx, trivial⟩
    · exact h.place p v h1
    · obtain ⟨x, hx, hv⟩ := h.place p _ h1
      simp only [PVal] at hv ⊢
      obtain ⟨xs, rfl, h3⟩ := hv
      exact ⟨_, hx, xs, rfl, h3.trans h2.symm⟩
  obj o x hx := by
    obtain ⟨h1, h2⟩ := h.obj o x (hho o x hx)
    exact ⟨h1, h2⟩
  size := hn.trans h.size
  i1 o o' x x' hx hx' := h.i1 o o' x x' (hho _ _ hx) (hho _ _ hx')
  i2 p q e xs e' ys b hp hq := by
    have h1 : s.at p = some (.own e xs) := by rcases hat p _ hp with h1 | h1 | ⟨_, _, h1, _⟩ <;> first | (cases h1; done) | exact h1
    have h2 : s.at q = some (.own e' ys) := by rcases hat q _ hq with h1 | h1 | ⟨_, _, h1, _⟩ <;> first | (cases h1; done) | exact h1
    exact h.i2 p q e xs e' ys b h1 h2
  i3 p e xs o x b hp hx := by
    have h1 : s.at p = some (.own e xs) := by rcases hat p _ hp with h1 | h1 | ⟨_, _, h1, _⟩ <;> first | (cases h1; done) | exact h1
    exact h.i3 p e xs o x b h1 (hho _ _ hx)
  om_lt := h.om_lt
  om0 := h.om0
  na p v q hp hq := by
    rcases hat p v hp with rfl | h1 | ⟨_, _, rfl, _⟩
    · simp [SV.on] at hq
    · obtain ⟨h2, h3, h4⟩ := h.na p v q h1 hq
      exact ⟨h2, hna p v q hp hq, h4⟩
    · simp [SV.on] at hq
  np := hnp
  gr := h.gr
  flt := h.flt
  ob o b hb := ⟨(h.ob o b hb).1, let ⟨_, y, hy⟩ := h.ob o b hb; hob o y hy⟩

theorem Rel.kill (h : Rel P O0 w0 F s E tmps w) (q : Place) : Rel P O0 w0 F (kill q s) E tmps w := by
  refine h.forget rfl (fun p v hp => ?_) (fun o x hx => hx) (fun p v r hp hr => ?_) (fun p v o hp ho => ?_) (fun p ⟨v, hp⟩ => ?_) (fun o x hx => ⟨x, hx⟩)
  · rcases at_kill q s p v hp with ⟨rfl, _⟩ | ⟨h1, _⟩
    · exact .inl rfl
    · exact .inr (.inl h1)
  · rcases at_kill q s p v hp with ⟨rfl, _⟩ | ⟨h1, h2⟩
    · simp [SV.on] at hr
    · obtain ⟨_, ⟨e, xs, h3⟩, _⟩ := h.na p v r h1 hr
      exact ⟨e, xs, kill_own q s h3⟩
  · rcases at_kill q s p v hp with ⟨rfl, _⟩ | ⟨h1, _⟩
    · simp [SV.pts] at ho
    · exact h.np p v o h1 ho
  · rcases at_kill q s p v hp with ⟨_, u, hu⟩ | ⟨h1, _⟩
    · exact ⟨u, hu⟩
    · exact ⟨v, h1⟩

/-- Nothing hangs on what lies at p. -/
def Free (p : Place) (s : St) : Prop := ∀ q v, s.at q = some v → v.on p = false

theorem Rel.free_kill (h : Rel P O0 w0 F s E tmps w) (p : Place) : Free p (Ck.kill p s) := by
  intro q v hq
  cases hv : v.on p with
  | false => rfl
  | true =>
    rcases at_kill p s q v hq with ⟨rfl, _⟩ | ⟨h1, h2⟩
    · simp [SV.on] at hv
    · obtain ⟨⟨d, rfl⟩, _⟩ := h.na q v p h1 hv
      rw [h2 d rfl] at hv
      cases hv

theorem Rel.free_of (h : Rel P O0 w0 F s E tmps w) {p : Place} (hp : ∀ e xs, s.at p ≠ some (.own e xs)) : Free p s := by
  intro q v hq
  cases hv : v.on p with
  | false => rfl
  | true =>
    obtain ⟨_, ⟨e, xs, h1⟩, _⟩ := h.na q v p hq hv
    exact absurd h1 (hp e xs)

theorem Rel.free_part (h : Rel P O0 w0 F s E tmps w) (d i : Nat) : Free (.part d i) s := by
  intro q v hq
  cases hv : v.on (.part d i) with
  | false => rfl
  | true =>
    obtain ⟨_, _, h1⟩ := h.na q v _ hq hv
    exact absurd rfl (h1 d i)

theorem Rel.clear (h : Rel P O0 w0 F s E tmps w) (d : Nat) : Rel P O0 w0 F (clear d s) E tmps w ∧ Free (.slot d) (Ck.clear d s) := by
  unfold Ck.clear
  split
  · exact ⟨h.kill _, h.free_kill _⟩
  · rename_i hn
    exact ⟨h, h.free_of (fun e xs he => hn e xs he)⟩

theorem clear_n (d : Nat) (s : St) : (Ck.clear d s).n = s.n := by unfold Ck.clear; split <;> rfl
theorem clear_hp (d : Nat) (s : St) : (Ck.clear d s).hp = s.hp := by unfold Ck.clear; split <;> rfl

theorem at_setSlot (d : Nat) (v : SV) (s : St) (p : Place) : (setSlot d v s).at p = match p with
    | .slot d' => if d = d' then some v else s.at p
    | .part d' i => if d = d' then (match v with | .tup vs => vs[i]? | _ => none) else s.at p
    | .cell _ _ => s.at p := by
  cases p with
  | slot d' => simp only [St.at, setSlot, look]
  | part d' i =>
    by_cases hd : d = d'
    · simp only [St.at, setSlot, look, hd, if_true]
      cases v <;> rfl
    · simp only [St.at, setSlot, look, hd, if_false]
  | cell o i => rfl

/-- Values with nothing of their own may go into a slot that nothing hangs on. -/
def SV.easy : SV → Bool
  | .own _ _ | .tup _ => false
  | _ => true

theorem RS.al_inv {A : Nat → Prop} {p : Place} {x : Value} (h : RS P A E w (.al p) x) : x = E.hdr p := by cases h; rfl

/-- An easy value, whose place is there, in a slot. -/
theorem Rel.easySlot (h : Rel P O0 w0 F s E tmps w) {d : Nat} {v : SV} {x : Value} (hd : d < s.n) (hf : Free (.slot d) s) (he : v.easy = true) (hr : v = .dead ∨ RS P (fun b => E.om b ∨ F b) E w v x)
    (hon : ∀ q, v.on q = true → q ≠ .slot d ∧ (∃ e xs, s.at q = some (.own e xs)) ∧ ∀ d i, q ≠ .part d i) (hpt : ∀ o, v.pts o = true → ∃ y, look o s.hp = some y) :
    Rel P O0 w0 F (setSlot d v s) E (tmps.setIfInBounds d x) w := by
  have hsz : d < tmps.size := by rw [← h.size]; exact hd
  have hat : ∀ p u, (Ck.setSlot d v s).at p = some u → (p = .slot d ∧ u = v) ∨ ((∀ i, p ≠ .part d i) ∧ p ≠ .slot d ∧ s.at p = some u) := by
    intro p u hp
    rw [at_setSlot] at hp
    cases p with
    | slot d' =>
      simp only at hp
      split at hp
      · rename_i e; subst e; simp at hp; exact .inl ⟨rfl, hp.symm⟩
      · rename_i e; exact .inr ⟨by simp, by simpa using fun h => e h.symm, hp⟩
    | part d' i =>
      simp only at hp
      split at hp
      · cases v <;> simp [SV.easy] at he hp
      · rename_i e; exact .inr ⟨fun i => by simpa using fun h => absurd h.symm e, by simp, hp⟩
    | cell o i => exact .inr ⟨by simp, by simp, hp⟩
  have hcv : ∀ p y, (∀ i, p ≠ .part d i) → p ≠ .slot d → CV E tmps w p y → CV E (tmps.setIfInBounds d x) w p y := by
    intro p y h1 h2 hc
    cases p with
    | slot d' =>
      simp only [CV] at hc ⊢
      rw [Array.getElem?_setIfInBounds_ne (by rintro rfl; exact h2 rfl)]
      exact hc
    | part d' i =>
      simp only [CV] at hc ⊢
      obtain ⟨vs, h3, h4⟩ := hc
      exact ⟨vs, by rw [Array.getElem?_setIfInBounds_ne (by rintro rfl; exact h1 i rfl)]; exact h3, h4⟩
    | cell o i => exact hc
  have hown : ∀ p e xs, (Ck.setSlot d v s).at p = some (.own e xs) → s.at p = some (.own e xs) := by
    intro p e xs hp
    rcases hat p _ hp with ⟨_, rfl⟩ | ⟨_, _, h1⟩
    · simp [SV.easy] at he
    · exact h1
  have hkeep : ∀ q e xs, q ≠ .slot d → (∀ d i, q ≠ .part d i) → s.at q = some (.own e xs) → (Ck.setSlot d v s).at q = some (.own e xs) := by
    intro q e xs h1 h2 hq
    rw [at_setSlot]
    cases q with
    | slot d' => simp only; rw [if_neg (by rintro rfl; exact h1 rfl)]; exact hq
    | part d' i => exact absurd rfl (h2 d' i)
    | cell o i => exact hq
  refine { place := ?_, obj := h.obj, size := by simp [Ck.setSlot, h.size], i1 := h.i1, i2 := ?_, i3 := ?_, om_lt := h.om_lt, om0 := h.om0, na := ?_, np := ?_, gr := h.gr, flt := h.flt, ob := h.ob }
  · intro p u hp
    rcases hat p u hp with ⟨rfl, rfl⟩ | ⟨h1, h2, h3⟩
    · refine ⟨x, by simp [CV, hsz], ?_⟩
      cases u <;> simp [SV.easy] at he <;> first | exact trivial | exact hr.resolve_left (by simp)
    · obtain ⟨y, hy, hpv⟩ := h.place p u h3
      exact ⟨y, hcv p y h1 h2 hy, hpv⟩
  · exact fun p q e xs e' ys b hp hq => h.i2 p q e xs e' ys b (hown _ _ _ hp) (hown _ _ _ hq)
  · exact fun p e xs o y b hp => h.i3 p e xs o y b (hown _ _ _ hp)
  · intro p u q hp hq
    rcases hat p u hp with ⟨rfl, rfl⟩ | ⟨h1, h2, h3⟩
    · obtain ⟨h4, ⟨e, xs, h5⟩, h6⟩ := hon q hq
      exact ⟨⟨d, rfl⟩, ⟨e, xs, hkeep q e xs h4 h6 h5⟩, h6⟩
    · obtain ⟨h4, ⟨e, xs, h5⟩, h6⟩ := h.na p u q h3 hq
      have : q ≠ .slot d := by
        rintro rfl
        rw [hf p u h3] at hq
        cases hq
      exact ⟨h4, ⟨e, xs, hkeep q e xs this h6 h5⟩, h6⟩
  · intro p u o hp ho
    rcases hat p u hp with ⟨rfl, rfl⟩ | ⟨h1, h2, h3⟩
    · exact hpt o ho
    · exact h.np p u o h3 ho
end
end Go.Ck

set_option linter.unusedVariables false
namespace Go.Ck
open Go.RowKit

def Env.setHdr (E : Env) (p : Place) (x : Value) : Env := { E with hdr := fun q => if q = p then x else E.hdr q }
def Env.addOm (E : Env) (N : Nat → Prop) : Env := { E with om := fun b => E.om b ∨ N b }
theorem Env.setHdr_same (E : Env) (p : Place) (x : Value) : (E.setHdr p x).hdr p = x := by simp [Env.setHdr]
theorem Env.setHdr_ne (E : Env) {p q : Place} (x : Value) (h : q ≠ p) : (E.setHdr p x).hdr q = E.hdr q := by simp [Env.setHdr, h]

theorem RS.setHdr {P : Program} {A : Nat → Prop} {E : Env} {w : World} {p : Place} {x : Value} {v : SV} {y : Value} (h : RS P A E w v y) (hp : v.on p = false) : RS P A (E.setHdr p x) w v y := by
  induction h with
  | pv q y h => exact .pv q y h
  | nils => exact .nils
  | al q =>
    have hq : q ≠ p := by simpa [SV.on] using hp
    have := RS.al (P := P) (A := A) (E := E.setHdr p x) (w := w) q
    rwa [Env.setHdr_ne _ _ hq] at this
  | vw q e off n y h =>
    have hq : q ≠ p := by simpa [SV.on] using hp
    exact .vw q e off n y (by rw [Env.setHdr_ne _ _ hq]; exact h)
  | ptr o off => exact .ptr (E := E.setHdr p x) o off
  | ea q e i j b h =>
    have hq : q ≠ p := by simpa [SV.on] using hp
    exact .ea q e i j b (by rw [Env.setHdr_ne _ _ hq]; exact h)
  | ra c j vs ad hs h hm => exact .ra c j vs ad hs h hm
  | fn f caps vs hl h1 h ih =>
    refine .fn f caps vs hl h1 (fun i c v hc hv => ih i c v hc hv ?_)
    have := List.all_eq_true.1 h1 c (List.mem_of_getElem? hc)
    cases c <;> simp [SV.simple] at this <;> rfl
  | agg cs vs hl h1 h ih =>
    refine .agg cs vs hl h1 (fun i c v hc hv => ih i c v hc hv ?_)
    have : ∀ (l : List SV), allPlain l = true → ∀ c ∈ l, c.on p = false := by
      intro l
      induction l with
      | nil => simp
      | cons d r ih =>
        intro hl c hc
        cases d <;> simp [allPlain] at hl
        · rcases List.mem_cons.1 hc with rfl | hc
          · rfl
          · exact ih hl.2 c hc
        · rcases List.mem_cons.1 hc with rfl | hc
          · rfl
          · exact ih hl c hc
    exact this cs h1 c (List.mem_of_getElem? hc)
  | mp o => exact .mp (E := E.setHdr p x) o
  | yl l => exact .yl l

/-- The world has grown; a block that is changed is one that nothing reads. -/
theorem RS.world {P : Program} {A A' : Nat → Prop} {E : Env} {w w' : World} {v : SV} {y : Value} {N : Nat → Prop} (hg : ∀ b, b < w.heap.size → ¬ A b → ¬ A' b ∧ w'.heap[b]? = w.heap[b]?) (h : RS P A E w v y) : RS P A' (E.addOm N) w' v y := by
  induction h with
  | pv q y h => exact .pv q y (h.mono hg)
  | nils => exact .nils
  | al q => exact .al (E := E.addOm N) q
  | vw q e off n y h => exact .vw q e off n y h
  | ptr o off => exact .ptr (E := E.addOm N) o off
  | ea q e i j b h => exact .ea q e i j b h
  | ra c j vs ad hs h hm =>
    refine .ra c j vs ad hs (h.mono hg) (fun i v hv => ?_)
    obtain ⟨hA, hc⟩ := hm i v hv
    have hlt := World.block_lt_of_cell? w _ hc
    obtain ⟨hA', hb⟩ := hg _ hlt hA
    refine ⟨hA', ?_⟩
    rw [World.cell?_of_block (w := w) hb]
    exact hc
  | fn f caps vs hl h1 h ih => exact .fn f caps vs hl h1 ih
  | agg cs vs hl h1 h ih => exact .agg cs vs hl h1 ih
  | mp o => exact .mp (E := E.addOm N) o
  | yl l => exact .yl l

section
variable {P : Program} {O0 : Base} {F : Nat → Prop} {w0 w : World} {s : St} {E : Env} {tmps : Array Value}

/-- A block of ours that nothing in the state lies in. -/
def Unused (s : St) (E : Env) (b : Nat) : Prop := (∀ o h, look o s.hp = some h → E.obj o ≠ b) ∧ ∀ p e xs, s.at p = some (.own e xs) → (E.hdr p).ownBlock ≠ some b

theorem OwnL.kept {A A' : Nat → Prop} {w w' : World} {e : TypeId} {h : Value} {xs : List PV} (ho : OwnL P A w e h xs) (hg : ∀ b, b < w.heap.size → ¬ A b → ¬ A' b ∧ w'.heap[b]? = w.heap[b]?) (hb : ∀ b, h.ownBlock = some b → w'.heap[b]? = w.heap[b]?) : OwnL P A' w' e h xs := by
  obtain ⟨cs, h1, h2, h3, h4⟩ := ho
  refine ⟨cs, ⟨h1.1, ?_⟩, h2.mono hg, h3, h4⟩
  rcases h1.2 with h5 | ⟨g, cap, cur, rfl, h6, h7, h8⟩
  · exact .inl h5
  · exact .inr ⟨g, cap, cur, rfl, h6, by rw [hb g rfl]; exact h7, h8⟩

/-- The world has grown: new blocks, and changes in blocks of ours that nothing lies in. -/
theorem Rel.world (h : Rel P O0 w0 F s E tmps w) {w' : World} {M : Nat → Prop} (hg : Grow M w w') (hM : ∀ b, M b → E.om b ∧ Unused s E b) (N : Nat → Prop) (hN : ∀ b, N b → w.heap.size ≤ b ∧ b < w'.heap.size) :
    Rel P O0 w0 F s (E.addOm N) tmps w' := by
  have hA : ∀ b, b < w.heap.size → ¬ (E.om b ∨ F b) → ¬ ((E.addOm N).om b ∨ F b) ∧ w'.heap[b]? = w.heap[b]? := by
    intro b hb hn
    refine ⟨?_, hg.block b hb (fun hm => hn (.inl (hM b hm).1))⟩
    rintro ((h1 | h1) | h1)
    · exact hn (.inl h1)
    · have := (hN b h1).1; omega
    · exact hn (.inr h1)
  have hobj : ∀ o y, look o s.hp = some y → w'.heap[E.obj o]? = w.heap[E.obj o]? := by
    intro o y hl
    have := h.obj o y hl
    exact hg.block _ (h.om_lt _ this.1).1 (fun hm => (hM _ hm).2.1 o y hl rfl)
  refine { place := ?_, obj := ?_, size := h.size, i1 := h.i1, i2 := h.i2, i3 := h.i3, om_lt := ?_, om0 := ?_, na := h.na, np := h.np, gr := ?_, flt := h.flt, ob := h.ob }
  · intro p v hp
    obtain ⟨x, hx, hv⟩ := h.place p v hp
    refine ⟨x, ?_, ?_⟩
    · cases p with
      | slot d => exact hx
      | part d i => exact hx
      | cell o i =>
        simp only [CV] at hx ⊢
        have : ∃ y, look o s.hp = some y := by
          simp only [St.at] at hp
          cases hl : look o s.hp with
          | none => simp [hl] at hp
          | some y => exact ⟨y, rfl⟩
        obtain ⟨y, hl⟩ := this
        have hb := hobj o y hl
        exact (World.cell?_of_block (w := w) (w' := w') (a := ⟨E.obj o, i, none⟩) hb).trans hx
    · cases v <;> simp only [PVal] at hv ⊢
      case own e xs =>
        obtain ⟨h1, h2, h3⟩ := hv
        refine ⟨h1, h2.kept hA (fun b hb => hg.block b (h.om_lt b (h3 b hb)).1 (fun hm => (hM b hm).2.2 p e xs hp hb)), fun b hb => .inl (h3 b hb)⟩
      case tup vs => exact hv
      all_goals exact hv.world hA
  · intro o y hl
    obtain ⟨h1, h2⟩ := h.obj o y hl
    refine ⟨.inl h1, ?_⟩
    have hb := hobj o y hl
    cases y with
    | cells e cs =>
      obtain ⟨vs, h3, h4⟩ := h2
      exact ⟨vs, hb.trans h3, h4⟩
    | mp es =>
      obtain ⟨ms, c, h3, h4, h5⟩ := h2
      exact ⟨ms, c, hb.trans h3, h4, fun i kv m hk hm => ⟨(h5 i kv m hk hm).1.mono hA, (h5 i kv m hk hm).2.mono hA⟩⟩
  · rintro b (hb | hb)
    · have := h.om_lt b hb
      exact ⟨Nat.lt_of_lt_of_le this.1 hg.size, this.2⟩
    · have := hN b hb
      refine ⟨this.2, fun hf => ?_⟩
      have h1 := h.flt b hf
      have h2 := h.gr.size
      omega
  · rintro b (hb | hb)
    · exact h.om0 b hb
    · have := hN b hb
      have h2 := h.gr.size
      exact .inr (by omega)
  · exact h.gr.trans hg (fun b hb => h.om0 b (hM b hb).1)
end
end Go.Ck

set_option linter.unusedVariables false
namespace Go.Ck
open Go.RowKit

section
variable {P : Program} {O0 : Base} {F : Nat → Prop} {w0 w : World} {s : St} {E : Env} {tmps : Array Value}

theorem PVal.setHdr {A : Nat → Prop} {p q : Place} {x y : Value} {v : SV} (h : PVal P A E w q v y) (hv : v.on p = false) (hq : q ≠ p ∨ ∀ e xs, v ≠ .own e xs) : PVal P A (E.setHdr p x) w q v y := by
  cases v <;> simp only [PVal] at h ⊢
  case own e xs =>
    rcases hq with hq | hq
    · rw [Env.setHdr_ne _ _ hq]; exact h
    · exact absurd rfl (hq e xs)
  case tup vs => exact h
  all_goals exact h.setHdr hv

/-- An own list in a slot that nothing hangs on. -/
theorem Rel.setOwnSlot (h : Rel P O0 w0 F s E tmps w) {d : Nat} {e : TypeId} {xs : List PV} {x : Value} (hd : d < s.n) (hf : Free (.slot d) s) (ho : OwnL P (fun b => E.om b ∨ F b) w e x xs)
    (hb : ∀ b, x.ownBlock = some b → E.om b ∧ Unused s E b) : Rel P O0 w0 F (setSlot d (.own e xs) s) (E.setHdr (.slot d) x) (tmps.setIfInBounds d x) w := by
  have hsz : d < tmps.size := by rw [← h.size]; exact hd
  have hat : ∀ p u, (Ck.setSlot d (.own e xs) s).at p = some u → (p = .slot d ∧ u = .own e xs) ∨ ((∀ i, p ≠ .part d i) ∧ p ≠ .slot d ∧ s.at p = some u) := by
    intro p u hp
    rw [at_setSlot] at hp
    cases p with
    | slot d' =>
      simp only at hp
      split at hp
      · rename_i e; subst e; simp at hp; exact .inl ⟨rfl, hp.symm⟩
      · rename_i e; exact .inr ⟨by simp, by simpa using fun h => e h.symm, hp⟩
    | part d' i =>
      simp only at hp
      split at hp
      · cases hp
      · rename_i e; exact .inr ⟨fun i => by simpa using fun h => absurd h.symm e, by simp, hp⟩
    | cell o i => exact .inr ⟨by simp, by simp, hp⟩
  have hcv : ∀ p y, (∀ i, p ≠ .part d i) → p ≠ .slot d → CV E tmps w p y → CV (E.setHdr (.slot d) x) (tmps.setIfInBounds d x) w p y := by
    intro p y h1 h2 hc
    cases p with
    | slot d' =>
      simp only [CV] at hc ⊢
      rw [Array.getElem?_setIfInBounds_ne (by rintro rfl; exact h2 rfl)]
      exact hc
    | part d' i =>
      simp only [CV] at hc ⊢
      obtain ⟨vs, h3, h4⟩ := hc
      exact ⟨vs, by rw [Array.getElem?_setIfInBounds_ne (by rintro rfl; exact h1 i rfl)]; exact h3, h4⟩
    | cell o i => exact hc
  refine { place := ?_, obj := ?_, size := by simp [Ck.setSlot, h.size], i1 := h.i1, i2 := ?_, i3 := ?_, om_lt := h.om_lt, om0 := h.om0, na := ?_, np := ?_, gr := h.gr, flt := h.flt, ob := h.ob }
  · intro p u hp
    rcases hat p u hp with ⟨rfl, rfl⟩ | ⟨h1, h2, h3⟩
    · refine ⟨x, by simp [CV, hsz], ?_⟩
      simp only [PVal, Env.setHdr_same]
      exact ⟨trivial, ho, fun b hb' => (hb b hb').1⟩
    · obtain ⟨y, hy, hpv⟩ := h.place p u h3
      exact ⟨y, hcv p y h1 h2 hy, hpv.setHdr (hf p u h3) (.inl h2)⟩
  · intro o y hl
    obtain ⟨h1, h2⟩ := h.obj o y hl
    refine ⟨h1, ?_⟩
    cases y <;> exact h2
  · intro p q e' xs' e'' ys b hp hq h1 h2
    rcases hat p _ hp with ⟨rfl, _⟩ | ⟨_, hp2, hp3⟩
    · rcases hat q _ hq with ⟨rfl, _⟩ | ⟨_, hq2, hq3⟩
      · rfl
      · rw [Env.setHdr_same] at h1
        rw [Env.setHdr_ne _ _ hq2] at h2
        exact absurd h2 ((hb b h1).2.2 q _ _ hq3)
    · rw [Env.setHdr_ne _ _ hp2] at h1
      rcases hat q _ hq with ⟨rfl, _⟩ | ⟨_, hq2, hq3⟩
      · rw [Env.setHdr_same] at h2
        exact absurd h1 ((hb b h2).2.2 p _ _ hp3)
      · rw [Env.setHdr_ne _ _ hq2] at h2
        exact h.i2 p q _ _ _ _ b hp3 hq3 h1 h2
  · intro p e' xs' o y b hp hl h1
    rcases hat p _ hp with ⟨rfl, _⟩ | ⟨_, hp2, hp3⟩
    · rw [Env.setHdr_same] at h1
      exact (hb b h1).2.1 o y hl
    · rw [Env.setHdr_ne _ _ hp2] at h1
      exact h.i3 p _ _ o y b hp3 hl h1
  · intro p u q hp hq
    rcases hat p u hp with ⟨rfl, rfl⟩ | ⟨h1, h2, h3⟩
    · simp [SV.on] at hq
    · obtain ⟨h4, ⟨e', xs', h5⟩, h6⟩ := h.na p u q h3 hq
      have hne : q ≠ .slot d := by
        rintro rfl
        rw [hf p u h3] at hq
        cases hq
      refine ⟨h4, ⟨e', xs', ?_⟩, h6⟩
      rw [at_setSlot]
      cases q with
      | slot d' => simp only; rw [if_neg (by rintro rfl; exact hne rfl)]; exact h5
      | part d' i => exact absurd rfl (h6 d' i)
      | cell o i => exact h5
  · intro p u o hp ho'
    rcases hat p u hp with ⟨rfl, rfl⟩ | ⟨h1, h2, h3⟩
    · simp [SV.pts] at ho'
    · exact h.np p u o h3 ho'

/-- A slot that nothing hangs on holds nothing that is told. -/
theorem Rel.setDead (h : Rel P O0 w0 F s E tmps w) {d : Nat} (x : Value) (hd : d < s.n) (hf : Free (.slot d) s) : Rel P O0 w0 F (setSlot d .dead s) E (tmps.setIfInBounds d x) w :=
  h.easySlot hd hf rfl (.inl rfl) (by simp [SV.on]) (by simp [SV.pts])
end
end Go.Ck

set_option linter.unusedVariables false
namespace Go.Ck
open Go.RowKit

theorem RS.env {P : Program} {A : Nat → Prop} {E E' : Env} {w : World} {v : SV} {y : Value} (ho : E'.obj = E.obj) (hh : E'.hdr = E.hdr) (h : RS P A E w v y) : RS P A E' w v y := by
  have := RS.world (A' := A) (w' := w) (N := E'.om) (fun b _ hn => ⟨hn, rfl⟩) h
  induction h with
  | pv q y h => exact .pv q y h
  | nils => exact .nils
  | al q => rw [← hh]; exact .al q
  | vw q e off n y h => exact .vw q e off n y (by rw [hh]; exact h)
  | ptr o off => rw [← ho]; exact .ptr o off
  | ea q e i j b h => exact .ea q e i j b (by rw [hh]; exact h)
  | ra c j vs ad hs h hm => exact .ra c j vs ad hs h hm
  | fn f caps vs hl h1 h ih => exact .fn f caps vs hl h1 (fun i c v hc hv => ih i c v hc hv (RS.world (A' := A) (w' := w) (N := E'.om) (fun b _ hn => ⟨hn, rfl⟩) (h i c v hc hv)))
  | agg cs vs hl h1 h ih => exact .agg cs vs hl h1 (fun i c v hc hv => ih i c v hc hv (RS.world (A' := A) (w' := w) (N := E'.om) (fun b _ hn => ⟨hn, rfl⟩) (h i c v hc hv)))
  | mp o => rw [← ho]; exact .mp o
  | yl l => exact .yl l

theorem RS.grow {P : Program} {A A' : Nat → Prop} {E : Env} {w w' : World} {v : SV} {y : Value} (hg : ∀ b, b < w.heap.size → ¬ A b → ¬ A' b ∧ w'.heap[b]? = w.heap[b]?) (h : RS P A E w v y) : RS P A' E w' v y :=
  RS.env (E := E.addOm fun _ => False) rfl rfl (h.world hg)

theorem look_setObj (o : Nat) (x : HO) : ∀ (l : List (Nat × HO)) (o' : Nat), look o' (setObj o x l) = if o' = o then (look o l).map fun _ => x else look o' l
  | [], o' => by simp [setObj, look]
  | (k, v) :: r, o' => by
    simp only [setObj]
    by_cases hk : k = o
    · subst hk
      simp only [if_true, look]
      by_cases h1 : k = o'
      · subst h1; simp
      · simp [h1, Ne.symm h1]
    · simp only [hk, if_false, look]
      by_cases h1 : k = o'
      · subst h1; simp [hk]
      · rw [if_neg h1, look_setObj o x r o']
        simp [h1]

section
variable {P : Program} {O0 : Base} {F : Nat → Prop} {w0 w : World} {s : St} {E : Env} {tmps : Array Value}

theorem at_setCell {o i : Nat} {e : TypeId} {cs : List SV} (hl : look o s.hp = some (.cells e cs)) (v : SV) (p : Place) : (setAt (.cell o i) v s).at p = match p with
    | .cell o' j => if o' = o then (cs.set i v)[j]? else s.at p
    | p => s.at p := by
  simp only [setAt, hl]
  cases p with
  | slot d => rfl
  | part d j => rfl
  | cell o' j =>
    by_cases h1 : o' = o
    · subst h1; simp [St.at, look_setObj, hl]
    · simp only [St.at, look_setObj, h1, if_false]

theorem setCell_heap (w : World) (b i : Nat) (y : Value) (k : Nat) : (w.setCell ⟨b, i, none⟩ y).heap[k]? = if k = b then (w.heap[b]?).map (fun | .cells c e f => .cells (c.setIfInBounds i y) e f | o => o) else w.heap[k]? := by
  simp only [World.setCell, Array.getElem?_modify]
  by_cases h : k = b
  · subst h
    simp
    cases w.heap[k]? with
    | none => rfl
    | some o => cases o <;> rfl
  · rw [if_neg (fun h' => h h'.symm), if_neg h]

/-- A cell of an object is written. -/
theorem Rel.writeCell (h : Rel P O0 w0 F s E tmps w) {o i : Nat} {e : TypeId} {cs : List SV} {v : SV} {y : Value} (hl : look o s.hp = some (.cells e cs)) (hi : i < cs.length) (hf : Free (.cell o i) s) (h1 : oneSV v = true)
    (hv : PVal P (fun b => E.om b ∨ F b) (E.setHdr (.cell o i) y) w (.cell o i) v y) (hon : ∀ q, v.on q = false) (hb : (∃ e' xs, v = .own e' xs) → ∀ b, y.ownBlock = some b → E.om b ∧ Unused s E b) (hpt : ∀ o', v.pts o' = true → ∃ z, look o' s.hp = some z) :
    Rel P O0 w0 F (setAt (.cell o i) v s) (E.setHdr (.cell o i) y) tmps (w.setCell ⟨E.obj o, i, none⟩ y) := by
  obtain ⟨vs, hheap, hsz, hone, hom, hcl, hcell⟩ := h.objCells hl
  have hA : ∀ b, b < w.heap.size → ¬ (E.om b ∨ F b) → ¬ (E.om b ∨ F b) ∧ (w.setCell ⟨E.obj o, i, none⟩ y).heap[b]? = w.heap[b]? := by
    intro b hb' hn
    refine ⟨hn, ?_⟩
    rw [setCell_heap, if_neg (by rintro rfl; exact hn (.inl hom))]
  have hblk : ∀ b, b ≠ E.obj o → (w.setCell ⟨E.obj o, i, none⟩ y).heap[b]? = w.heap[b]? := by
    intro b hb'; rw [setCell_heap, if_neg hb']
  have hobj : (w.setCell ⟨E.obj o, i, none⟩ y).heap[E.obj o]? = some (.cells (vs.setIfInBounds i y) e (0, 0)) := by
    rw [setCell_heap, if_pos rfl, hheap]; rfl
  have hat : ∀ p u, (setAt (.cell o i) v s).at p = some u → (p = .cell o i ∧ u = v) ∨ (p ≠ .cell o i ∧ s.at p = some u) := by
    intro p u hp
    rw [at_setCell hl] at hp
    cases p with
    | slot d => exact .inr ⟨by simp, hp⟩
    | part d j => exact .inr ⟨by simp, hp⟩
    | cell o' j =>
      simp only at hp
      split at hp
      · rename_i ho; subst ho
        rw [List.getElem?_set] at hp
        split at hp
        · rename_i hj; subst hj
          simp [hi] at hp
          exact .inl ⟨rfl, hp.symm⟩
        · rename_i hj
          exact .inr ⟨by simpa using fun h => hj h.symm, by simp [St.at, hl, hp]⟩
      · rename_i ho
        exact .inr ⟨by simp [ho], hp⟩
  have hkeep : ∀ p u, p ≠ .cell o i → s.at p = some u → (setAt (.cell o i) v s).at p = some u := by
    intro p u hne hp
    rw [at_setCell hl]
    cases p with
    | slot d => exact hp
    | part d j => exact hp
    | cell o' j =>
      simp only
      split
      · rename_i ho; subst ho
        rw [List.getElem?_set, if_neg (by rintro rfl; exact hne rfl)]
        simpa [St.at, hl] using hp
      · exact hp
  have hhp : ∀ o' z, look o' (setAt (.cell o i) v s).hp = some z → (o' = o ∧ z = .cells e (cs.set i v)) ∨ (o' ≠ o ∧ look o' s.hp = some z) := by
    intro o' z hz
    simp only [setAt, hl, look_setObj] at hz
    split at hz
    · rename_i ho; subst ho; simp [hl] at hz; exact .inl ⟨rfl, hz.symm⟩
    · rename_i ho; exact .inr ⟨ho, hz⟩
  have hhp' : ∀ o' z, look o' s.hp = some z → ∃ z', look o' (setAt (.cell o i) v s).hp = some z' := by
    intro o' z hz
    simp only [setAt, hl, look_setObj]
    split
    · rename_i ho; subst ho; simp [hl]
    · exact ⟨z, hz⟩
  have hlk : ∀ o' z, look o' (setAt (.cell o i) v s).hp = some z → ∃ z', look o' s.hp = some z' := by
    intro o' z hz
    rcases hhp o' z hz with ⟨rfl, _⟩ | ⟨_, h2⟩
    · exact ⟨_, hl⟩
    · exact ⟨_, h2⟩
  have hPV : ∀ p u x, PVal P (fun b => E.om b ∨ F b) (E.setHdr (.cell o i) y) w p u x → (∀ e' xs, u = .own e' xs → ∀ b, ((E.setHdr (.cell o i) y).hdr p).ownBlock = some b → b ≠ E.obj o) → PVal P (fun b => E.om b ∨ F b) (E.setHdr (.cell o i) y) (w.setCell ⟨E.obj o, i, none⟩ y) p u x := by
    intro p u x hp hne
    cases u <;> simp only [PVal] at hp ⊢
    case own e' xs =>
      obtain ⟨h2, h3, h4⟩ := hp
      exact ⟨h2, h3.kept hA (fun b hb' => hblk b (hne e' xs rfl b hb')), h4⟩
    case tup us => exact hp
    all_goals exact hp.grow hA
  refine { place := ?_, obj := ?_, size := by simp [setAt, hl, h.size], i1 := ?_, i2 := ?_, i3 := ?_, om_lt := ?_, om0 := h.om0, na := ?_, np := ?_, gr := ?_, flt := h.flt, ob := ?_ }
  · intro p u hp
    rcases hat p u hp with ⟨rfl, rfl⟩ | ⟨hne, h3⟩
    · refine ⟨y, ?_, hPV _ _ _ hv ?_⟩
      · simp only [CV]
        show (w.setCell ⟨E.obj o, i, none⟩ y).cell? ⟨E.obj o, i, none⟩ = some y
        simp [World.cell?, hobj, hsz, hi]
      · intro e' xs he b hb'
        rw [Env.setHdr_same] at hb'
        exact fun hbo => (hb ⟨e', xs, he⟩ b hb').2.1 o _ hl hbo.symm
    · obtain ⟨x, hx, hpv⟩ := h.place p u h3
      refine ⟨x, ?_, hPV _ _ _ (hpv.setHdr (hf p u h3) (.inl hne)) ?_⟩
      · cases p with
        | slot d => exact hx
        | part d j => exact hx
        | cell o' j =>
          simp only [CV] at hx ⊢
          show (w.setCell ⟨E.obj o, i, none⟩ y).cell? ⟨E.obj o', j, none⟩ = some x
          by_cases ho : o' = o
          · subst ho
            rw [hcl] at hx
            have hj : j ≠ i := by rintro rfl; exact hne rfl
            simp [World.cell?, hobj, Array.getElem?_setIfInBounds_ne (Ne.symm hj), hx]
          · have : ∃ z, look o' s.hp = some z := by
              simp only [St.at] at h3
              cases hl' : look o' s.hp with
              | none => simp [hl'] at h3
              | some z => exact ⟨z, rfl⟩
            obtain ⟨z, hz⟩ := this
            have hne' : E.obj o' ≠ E.obj o := fun he => ho (h.i1 o' o z _ hz hl he)
            have hb' := hblk (E.obj o') hne'
            exact (World.cell?_of_block (w := w) (a := ⟨E.obj o', j, none⟩) hb').trans hx
      · intro e' xs he b hb'
        rw [Env.setHdr_ne _ _ hne] at hb'
        subst he
        exact fun hbo => h.i3 p e' xs o _ b h3 hl hb' hbo.symm
  · intro o' z hz
    rcases hhp o' z hz with ⟨rfl, rfl⟩ | ⟨hne, hz'⟩
    · refine ⟨hom, vs.setIfInBounds i y, hobj, by simp [hsz], fun c hc => ?_⟩
      rcases List.mem_or_eq_of_mem_set hc with hc | rfl
      · exact hone c hc
      · exact h1
    · obtain ⟨h2, h3⟩ := h.obj o' z hz'
      refine ⟨h2, ?_⟩
      have hne' : E.obj o' ≠ E.obj o := fun he => hne (h.i1 o' o z _ hz' hl he)
      have hb' := hblk (E.obj o') hne'
      cases z with
      | cells e' cs' =>
        obtain ⟨us, h4, h5⟩ := h3
        exact ⟨us, hb'.trans h4, h5⟩
      | mp es =>
        obtain ⟨ms, c, h4, h5, h6⟩ := h3
        exact ⟨ms, c, hb'.trans h4, h5, fun j kv m hk hm => ⟨(h6 j kv m hk hm).1.mono hA, (h6 j kv m hk hm).2.mono hA⟩⟩
  · intro a b x x' hx hx' he
    obtain ⟨z, hz⟩ := hlk a x hx
    obtain ⟨z', hz'⟩ := hlk b x' hx'
    exact h.i1 a b z z' hz hz' he
  · intro p q e' xs e'' ys b hp hq hbp hbq
    rcases hat p _ hp with ⟨rfl, he⟩ | ⟨hpn, hp'⟩
    · rcases hat q _ hq with ⟨rfl, _⟩ | ⟨hqn, hq'⟩
      · rfl
      · rw [Env.setHdr_same] at hbp
        rw [Env.setHdr_ne _ _ hqn] at hbq
        exact absurd hbq ((hb ⟨_, _, he.symm⟩ b hbp).2.2 q _ _ hq')
    · rw [Env.setHdr_ne _ _ hpn] at hbp
      rcases hat q _ hq with ⟨rfl, he⟩ | ⟨hqn, hq'⟩
      · rw [Env.setHdr_same] at hbq
        exact absurd hbp ((hb ⟨_, _, he.symm⟩ b hbq).2.2 p _ _ hp')
      · rw [Env.setHdr_ne _ _ hqn] at hbq
        exact h.i2 p q _ _ _ _ b hp' hq' hbp hbq
  · intro p e' xs o' z b hp hz hbp
    obtain ⟨z', hz'⟩ := hlk o' z hz
    rcases hat p _ hp with ⟨rfl, he⟩ | ⟨hpn, hp'⟩
    · rw [Env.setHdr_same] at hbp
      exact (hb ⟨_, _, he.symm⟩ b hbp).2.1 o' z' hz'
    · rw [Env.setHdr_ne _ _ hpn] at hbp
      exact h.i3 p _ _ o' z' b hp' hz' hbp
  · intro b hb'
    have := h.om_lt b hb'
    simpa using this
  · intro p u q hp hq
    rcases hat p u hp with ⟨rfl, rfl⟩ | ⟨hne, hp'⟩
    · rw [hon q] at hq; cases hq
    · obtain ⟨h4, ⟨e', xs', h5⟩, h6⟩ := h.na p u q hp' hq
      have hqn : q ≠ .cell o i := by
        rintro rfl
        rw [hf p u hp'] at hq
        cases hq
      exact ⟨h4, ⟨e', xs', hkeep q _ hqn h5⟩, h6⟩
  · intro p u o' hp ho'
    rcases hat p u hp with ⟨rfl, rfl⟩ | ⟨hne, hp'⟩
    · obtain ⟨z, hz⟩ := hpt o' ho'
      exact hhp' o' z hz
    · obtain ⟨z, hz⟩ := h.np p u o' hp' ho'
      exact hhp' o' z hz
  · refine h.gr.trans (M1 := fun b => b = E.obj o) ⟨rfl, rfl, rfl, by simp, fun b _ hb' => hblk b hb'⟩ (fun b hb' => ?_)
    subst hb'
    exact h.om0 _ hom
  · intro o' k hok
    obtain ⟨h1, y, hy⟩ := h.ob o' k hok
    exact ⟨h1, hhp' o' y hy⟩
end
end Go.Ck

set_option linter.unusedVariables false
namespace Go.Ck
open Go.RowKit

def SV.isTup : SV → Bool
  | .tup _ => true
  | _ => false

theorem setAt_inv {p : Place} {u v : SV} {s : St} (hp : s.at p = some u) (hu : u.isTup = false) (hv : v.isTup = false) {r : Place} {y : SV} (hr : (setAt p v s).at r = some y) :
    (r = p ∧ y = v) ∨ (r ≠ p ∧ s.at r = some y) ∨ ∃ d i vs, p = .part d i ∧ r = .slot d ∧ s.at r = some (.tup vs) ∧ y = .tup (vs.set i v) := by
  cases p with
  | slot d =>
    simp only [setAt, at_setSlot] at hr
    cases r with
    | slot d' =>
      simp only at hr
      split at hr
      · rename_i e; subst e; simp at hr; exact .inl ⟨rfl, hr.symm⟩
      · rename_i e; exact .inr (.inl ⟨by simpa using fun h => e h.symm, hr⟩)
    | part d' i =>
      simp only at hr
      split at hr
      · cases v <;> simp [SV.isTup] at hv hr
      · exact .inr (.inl ⟨by simp, hr⟩)
    | cell o i => exact .inr (.inl ⟨by simp, hr⟩)
  | part d i =>
    simp only [St.at] at hp
    cases hl : look d s.sl with
    | none => simp [hl] at hp
    | some x =>
      cases x <;> simp [hl] at hp
      rename_i vs
      simp only [setAt, hl, at_setSlot] at hr
      cases r with
      | slot d' =>
        simp only at hr
        split at hr
        · rename_i e; subst e; simp at hr; exact .inr (.inr ⟨d, i, vs, rfl, rfl, hl, hr.symm⟩)
        · rename_i e; exact .inr (.inl ⟨by simp, hr⟩)
      | part d' j =>
        simp only at hr
        split at hr
        · rename_i e; subst e
          rw [List.getElem?_set] at hr
          split at hr
          · rename_i e; subst e
            split at hr
            · simp at hr; exact .inl ⟨rfl, hr.symm⟩
            · cases hr
          · rename_i e; exact .inr (.inl ⟨by simpa using fun h => e h.symm, by simp [St.at, hl, hr]⟩)
        · rename_i e; exact .inr (.inl ⟨by simpa using fun h => absurd h.symm e, hr⟩)
      | cell o j => exact .inr (.inl ⟨by simp, hr⟩)
  | cell o i =>
    simp only [St.at] at hp
    cases hl : look o s.hp with
    | none => simp [hl] at hp
    | some x =>
      cases x <;> simp [hl] at hp
      rename_i e cs
      rw [at_setCell hl] at hr
      cases r with
      | slot d => exact .inr (.inl ⟨by simp, hr⟩)
      | part d j => exact .inr (.inl ⟨by simp, hr⟩)
      | cell o' j =>
        simp only at hr
        split at hr
        · rename_i e'; subst e'
          rw [List.getElem?_set] at hr
          split at hr
          · rename_i e'; subst e'
            split at hr
            · simp at hr; exact .inl ⟨rfl, hr.symm⟩
            · cases hr
          · rename_i e'; exact .inr (.inl ⟨by simpa using fun h => e' h.symm, by simp [St.at, hl, hr]⟩)
        · rename_i e'; exact .inr (.inl ⟨by simp [e'], hr⟩)

theorem setAt_same {p : Place} {u v : SV} {s : St} (hp : s.at p = some u) : (setAt p v s).at p = some v := by
  cases p with
  | slot d => simp [setAt, at_setSlot]
  | part d i =>
    simp only [St.at] at hp
    cases hl : look d s.sl with
    | none => simp [hl] at hp
    | some x =>
      cases x <;> simp [hl] at hp
      rename_i vs
      have := (List.getElem?_eq_some_iff.1 hp).1
      simp [setAt, hl, at_setSlot, this]
  | cell o i =>
    simp only [St.at] at hp
    cases hl : look o s.hp with
    | none => simp [hl] at hp
    | some x =>
      cases x <;> simp [hl] at hp
      rename_i e cs
      have := (List.getElem?_eq_some_iff.1 hp).1
      rw [at_setCell hl]
      simp [this]

theorem setAt_keep {p : Place} {u v : SV} {s : St} (hp : s.at p = some u) (hu : u.isTup = false) {r : Place} {y : SV} (hr : s.at r = some y) (hne : r ≠ p) (hy : y.isTup = false) : (setAt p v s).at r = some y := by
  cases p with
  | slot d =>
    simp only [setAt, at_setSlot]
    cases r with
    | slot d' => simp only; rw [if_neg (by rintro rfl; exact hne rfl)]; exact hr
    | part d' i =>
      simp only
      split
      · rename_i e; subst e
        simp only [St.at] at hp hr
        rw [hp] at hr
        cases u <;> simp [SV.isTup] at hu hr
      · exact hr
    | cell o i => exact hr
  | part d i =>
    simp only [St.at] at hp
    cases hl : look d s.sl with
    | none => simp [hl] at hp
    | some x =>
      cases x <;> simp [hl] at hp
      rename_i vs
      simp only [setAt, hl, at_setSlot]
      cases r with
      | slot d' =>
        simp only
        split
        · rename_i e; subst e
          simp only [St.at] at hr
          rw [hl] at hr
          cases hr
          simp [SV.isTup] at hy
        · exact hr
      | part d' j =>
        simp only
        split
        · rename_i e; subst e
          rw [List.getElem?_set, if_neg (by rintro rfl; exact hne rfl)]
          simpa [St.at, hl] using hr
        · exact hr
      | cell o j => exact hr
  | cell o i =>
    simp only [St.at] at hp
    cases hl : look o s.hp with
    | none => simp [hl] at hp
    | some x =>
      cases x <;> simp [hl] at hp
      rename_i e cs
      rw [at_setCell hl]
      cases r with
      | slot d => exact hr
      | part d j => exact hr
      | cell o' j =>
        simp only
        split
        · rename_i e'; subst e'
          rw [List.getElem?_set, if_neg (by rintro rfl; exact hne rfl)]
          simpa [St.at, hl] using hr
        · exact hr

theorem setAt_n (p : Place) (v : SV) (s : St) : (setAt p v s).n = s.n := by
  cases p with
  | slot d => rfl
  | part d i => simp only [setAt]; split <;> rfl
  | cell o i => simp only [setAt]; split <;> rfl

/-- The objects behind a change at a place: the same ones, of the same make. -/
theorem setAt_hp (p : Place) (v : SV) (s : St) (o : Nat) (x : HO) (h : look o (setAt p v s).hp = some x) : look o s.hp = some x ∨ ∃ e cs i, p = .cell o i ∧ look o s.hp = some (.cells e cs) ∧ x = .cells e (cs.set i v) := by
  cases p with
  | slot d => exact .inl h
  | part d i => simp only [setAt] at h; split at h <;> exact .inl h
  | cell o' i =>
    simp only [setAt] at h
    split at h
    · rename_i e cs hl
      simp only [look_setObj] at h
      split at h
      · rename_i e'; subst e'; simp [hl] at h; exact .inr ⟨e, cs, i, rfl, hl, h.symm⟩
      · exact .inl h
    · exact .inl h
theorem setAt_hp' (p : Place) (v : SV) (s : St) (o : Nat) (x : HO) (h : look o s.hp = some x) : ∃ y, look o (setAt p v s).hp = some y := by
  cases p with
  | slot d => exact ⟨x, h⟩
  | part d i => simp only [setAt]; split <;> exact ⟨x, h⟩
  | cell o' i =>
    simp only [setAt]
    split
    · rename_i e cs hl
      simp only [look_setObj]
      split
      · rename_i e'; subst e'; simp [hl]
      · exact ⟨x, h⟩
    · exact ⟨x, h⟩

section
variable {P : Program} {O0 : Base} {F : Nat → Prop} {w0 w : World} {s : St} {E : Env} {tmps : Array Value}

/-- Another value for what lies at a place, memory and slots being as they are. -/
theorem Rel.recast (h : Rel P O0 w0 F s E tmps w) {p : Place} {u v : SV} {y x : Value} (hp : s.at p = some u) (hu : u.isTup = false) (hv : v.isTup = false) (hf : Free p s) (h1 : oneSV v = true) (hcv : CV E tmps w p y)
    (hx : (∀ e xs, v ≠ .own e xs) ∨ x = y) (hpv : PVal P (fun b => E.om b ∨ F b) (E.setHdr p x) w p v y) (hon : ∀ q, v.on q = true → (∃ d, p = .slot d) ∧ q ≠ p ∧ (∃ e xs, s.at q = some (.own e xs)) ∧ ∀ d i, q ≠ .part d i)
    (hb : (∃ e' xs, v = .own e' xs) → ∀ b, x.ownBlock = some b → E.om b ∧ (∀ o h, look o s.hp = some h → E.obj o ≠ b) ∧ ∀ q e xs, q ≠ p → s.at q = some (.own e xs) → (E.hdr q).ownBlock ≠ some b) (hpt : ∀ o', v.pts o' = true → ∃ z, look o' s.hp = some z) :
    Rel P O0 w0 F (setAt p v s) (E.setHdr p x) tmps w := by
  have hin : ∀ {r y}, (setAt p v s).at r = some y → (r = p ∧ y = v) ∨ (r ≠ p ∧ s.at r = some y) ∨ ∃ d i vs, p = .part d i ∧ r = .slot d ∧ s.at r = some (.tup vs) ∧ y = .tup (vs.set i v) := fun hr => setAt_inv hp hu hv hr
  have hlk : ∀ o z, look o (setAt p v s).hp = some z → ∃ z', look o s.hp = some z' := by
    intro o z hz
    rcases setAt_hp p v s o z hz with h2 | ⟨e, cs, i, _, h2, _⟩
    · exact ⟨z, h2⟩
    · exact ⟨_, h2⟩
  refine { place := ?_, obj := ?_, size := (setAt_n _ _ _).trans h.size, i1 := ?_, i2 := ?_, i3 := ?_, om_lt := h.om_lt, om0 := h.om0, na := ?_, np := ?_, gr := h.gr, flt := h.flt, ob := ?_ }
  · intro r z hr
    rcases hin hr with ⟨rfl, rfl⟩ | ⟨hne, h2⟩ | ⟨d, i, vs, rfl, rfl, h2, rfl⟩
    · refine ⟨y, ?_, hpv⟩
      cases r <;> exact hcv
    · obtain ⟨x', hx', hpv'⟩ := h.place r z h2
      refine ⟨x', ?_, hpv'.setHdr (hf r z h2) (.inl hne)⟩
      cases r <;> exact hx'
    · obtain ⟨x', hx', hpv'⟩ := h.place _ _ h2
      refine ⟨x', hx', ?_⟩
      simp only [PVal] at hpv' ⊢
      obtain ⟨us, h3, h4⟩ := hpv'
      exact ⟨us, h3, by simp [h4]⟩
  · intro o z hz
    rcases setAt_hp p v s o z hz with h2 | ⟨e, cs, i, rfl, h2, rfl⟩
    · obtain ⟨h3, h4⟩ := h.obj o z h2
      refine ⟨h3, ?_⟩
      cases z <;> exact h4
    · obtain ⟨h3, vs, h4, h5, h6⟩ := h.obj o _ h2
      refine ⟨h3, vs, h4, by simp [h5], fun c hc => ?_⟩
      rcases List.mem_or_eq_of_mem_set hc with hc | rfl
      · exact h6 c hc
      · exact h1
  · intro a b z z' hz hz' he
    obtain ⟨q, hq⟩ := hlk a z hz
    obtain ⟨q', hq'⟩ := hlk b z' hz'
    exact h.i1 a b q q' hq hq' he
  · have hown : ∀ r e' ys b, (setAt p v s).at r = some (.own e' ys) → ((E.setHdr p x).hdr r).ownBlock = some b → (r = p ∧ v = .own e' ys ∧ x.ownBlock = some b) ∨ (r ≠ p ∧ s.at r = some (.own e' ys) ∧ (E.hdr r).ownBlock = some b) := by
      intro r e' ys b hr hb'
      rcases hin hr with ⟨rfl, h2⟩ | ⟨hne, h2⟩ | ⟨_, _, _, _, _, _, h2⟩
      · rw [Env.setHdr_same] at hb'; exact .inl ⟨rfl, h2.symm, hb'⟩
      · rw [Env.setHdr_ne _ _ hne] at hb'; exact .inr ⟨hne, h2, hb'⟩
      · cases h2
    intro a c e' xs e'' ys b ha hc hba hbc
    rcases hown a e' xs b ha hba with ⟨rfl, he, hb1⟩ | ⟨hna, ha', hb1⟩
    · rcases hown c e'' ys b hc hbc with ⟨rfl, _, _⟩ | ⟨hnc, hc', hb2⟩
      · rfl
      · exact absurd hb2 ((hb ⟨_, _, he⟩ b hb1).2.2 c _ _ hnc hc')
    · rcases hown c e'' ys b hc hbc with ⟨rfl, he, hb2⟩ | ⟨hnc, hc', hb2⟩
      · exact absurd hb1 ((hb ⟨_, _, he⟩ b hb2).2.2 a _ _ hna ha')
      · exact h.i2 a c _ _ _ _ b ha' hc' hb1 hb2
  · intro r e' ys o z b hr hz hb'
    obtain ⟨z', hz'⟩ := hlk o z hz
    rcases hin hr with ⟨rfl, h2⟩ | ⟨hne, h2⟩ | ⟨_, _, _, _, _, _, h2⟩
    · rw [Env.setHdr_same] at hb'
      exact (hb ⟨_, _, h2.symm⟩ b hb').2.1 o z' hz'
    · rw [Env.setHdr_ne _ _ hne] at hb'
      exact h.i3 r _ _ o z' b h2 hz' hb'
    · cases h2
  · intro r z q hr hq
    rcases hin hr with ⟨rfl, rfl⟩ | ⟨hne, h2⟩ | ⟨_, _, _, _, _, _, rfl⟩
    · obtain ⟨h3, h4, ⟨e', xs', h5⟩, h6⟩ := hon q hq
      exact ⟨h3, ⟨e', xs', setAt_keep hp hu h5 h4 rfl⟩, h6⟩
    · obtain ⟨h3, ⟨e', xs', h5⟩, h6⟩ := h.na r z q h2 hq
      have hqn : q ≠ p := by rintro rfl; rw [hf r z h2] at hq; cases hq
      exact ⟨h3, ⟨e', xs', setAt_keep hp hu h5 hqn rfl⟩, h6⟩
    · simp [SV.on] at hq
  · intro r z o hr ho
    rcases hin hr with ⟨rfl, rfl⟩ | ⟨hne, h2⟩ | ⟨_, _, _, _, _, _, rfl⟩
    · obtain ⟨z, hz⟩ := hpt o ho
      exact setAt_hp' _ _ _ o z hz
    · obtain ⟨z', hz'⟩ := h.np r z o h2 ho
      exact setAt_hp' _ _ _ o z' hz'
    · simp [SV.pts] at ho
  · intro o k hok
    obtain ⟨h1, y, hy⟩ := h.ob o k hok
    exact ⟨h1, setAt_hp' _ _ _ o y hy⟩
end
end Go.Ck

set_option linter.unusedVariables false
namespace Go.Ck
open Go.RowKit

theorem Env.setHdr_self (E : Env) (p : Place) : E.setHdr p (E.hdr p) = E := by
  cases E with | mk a b c => ?_
  simp only [Env.setHdr, Env.mk.injEq, true_and, and_true]
  funext q
  split
  · rename_i h; rw [h]
  · rfl

/-- A value that may be put into a slot. -/
def Good (s : St) (v : SV) : Prop := v.easy = true ∧ (∀ q, v.on q = true → (∃ e xs, s.at q = some (.own e xs)) ∧ ∀ d i, q ≠ .part d i) ∧ ∀ o, v.pts o = true → ∃ h, look o s.hp = some h
theorem Good.pv (s : St) (p : PV) : Good s (.pv p) := ⟨rfl, by simp [SV.on], by simp [SV.pts]⟩
theorem Good.nils (s : St) : Good s .nils := ⟨rfl, by simp [SV.on], by simp [SV.pts]⟩

theorem clear_own (d : Nat) (s : St) {q : Place} {e : TypeId} {xs : List PV} (h : s.at q = some (.own e xs)) : (clear d s).at q = some (.own e xs) := by
  unfold clear; split
  · exact kill_own _ s h
  · exact h
theorem clear_own' (d : Nat) (s : St) {q : Place} {e : TypeId} {xs : List PV} (h : (clear d s).at q = some (.own e xs)) : s.at q = some (.own e xs) := by
  unfold clear at h; split at h
  · rcases at_kill _ s q _ h with ⟨h1, _⟩ | ⟨h1, _⟩
    · cases h1
    · exact h1
  · exact h

section
variable {P : Program} {O0 : Base} {F : Nat → Prop} {w0 w : World} {s : St} {E : Env} {tmps : Array Value}

theorem Rel.putGood (h : Rel P O0 w0 F s E tmps w) {v : SV} {x : Value} (d : Nat) (hg : Good s v) (hr : RS P (fun b => E.om b ∨ F b) E w v x) : Rel P O0 w0 F (put d v s) E (tmps.setIfInBounds d x) w := by
  unfold put
  split
  · rename_i hd
    obtain ⟨hc, hf⟩ := h.clear d
    have hd' : d < (Ck.clear d s).n := by rw [clear_n]; exact hd
    cases hon : v.on (.slot d) with
    | true => simp only [if_true]; exact hc.setDead x hd' hf
    | false =>
      simp only [Bool.false_eq_true, if_false]
      refine hc.easySlot hd' hf hg.1 (.inr hr) (fun q hq => ?_) (fun o ho => by rw [clear_hp]; exact hg.2.2 o ho)
      obtain ⟨⟨e, xs, h1⟩, h2⟩ := hg.2.1 q hq
      exact ⟨(fun he => by subst he; rw [hon] at hq; cases hq), ⟨e, xs, clear_own d s h1⟩, h2⟩
  · rename_i hd
    rw [Array.setIfInBounds_eq_of_size_le (by rw [← h.size]; omega)]
    exact h

theorem Unused.clear {E : Env} {b : Nat} (d : Nat) (h : Unused s E b) : Unused (Ck.clear d s) E b :=
  ⟨fun o y hl => h.1 o y (by rw [clear_hp] at hl; exact hl), fun p e xs hp => h.2 p e xs (clear_own' d s hp)⟩

theorem Rel.putOwn (h : Rel P O0 w0 F s E tmps w) {e : TypeId} {xs : List PV} {x : Value} (d : Nat) (ho : OwnL P (fun b => E.om b ∨ F b) w e x xs) (hb : ∀ b, x.ownBlock = some b → E.om b ∧ Unused s E b) :
    ∃ E', Rel P O0 w0 F (put d (.own e xs) s) E' (tmps.setIfInBounds d x) w := by
  unfold put
  split
  · rename_i hd
    obtain ⟨hc, hf⟩ := h.clear d
    have hd' : d < (Ck.clear d s).n := by rw [clear_n]; exact hd
    simp only [SV.on, Bool.false_eq_true, if_false]
    exact ⟨_, hc.setOwnSlot hd' hf ho (fun b h1 => ⟨(hb b h1).1, (hb b h1).2.clear d⟩)⟩
  · rename_i hd
    rw [Array.setIfInBounds_eq_of_size_le (by rw [← h.size]; omega)]
    exact ⟨E, h⟩

theorem kill_own' (q : Place) (s : St) {p : Place} {e : TypeId} {xs : List PV} (h : (kill q s).at p = some (.own e xs)) : s.at p = some (.own e xs) := by
  rcases at_kill q s p _ h with ⟨h1, _⟩ | ⟨h1, _⟩
  · cases h1
  · exact h1

/-- The own list at a place, taken out. -/
theorem Rel.take (h : Rel P O0 w0 F s E tmps w) {p : Place} {e : TypeId} {xs : List PV} (hp : s.at p = some (.own e xs)) :
    CV E tmps w p (E.hdr p) ∧ OwnL P (fun b => E.om b ∨ F b) w e (E.hdr p) xs ∧ (∀ b, (E.hdr p).ownBlock = some b → E.om b ∧ Unused (del p s) E b) ∧ Rel P O0 w0 F (del p s) E tmps w := by
  obtain ⟨x, hx, rfl, ho, hom⟩ := h.place p _ hp
  have hk := h.kill p
  have hpk : (Ck.kill p s).at p = some (.own e xs) := kill_own p s hp
  refine ⟨hx, ho, fun b hb => ⟨hom b hb, ⟨fun o y hl he => ?_, fun q e' ys hq hqb => ?_⟩⟩, ?_⟩
  · unfold del at hl
    rcases setAt_hp p .dead _ o y hl with h2 | ⟨e2, cs, i, _, h2, _⟩
    · exact h.i3 p e xs o _ b hp h2 hb he
    · exact h.i3 p e xs o _ b hp h2 hb he
  · unfold del at hq
    rcases setAt_inv hpk rfl rfl hq with ⟨_, h2⟩ | ⟨hne, h2⟩ | ⟨_, _, _, _, _, _, h2⟩
    · cases h2
    · exact hne (h.i2 q p e' ys e xs b (kill_own' p s h2) hp hqb hb)
    · cases h2
  · have := hk.recast (v := .dead) (y := E.hdr p) (x := E.hdr p) hpk rfl rfl (h.free_kill p) rfl (by cases p <;> exact hx) (.inr rfl) (by simp [PVal]) (by simp [SV.on]) (by rintro ⟨_, _, h2⟩; cases h2) (by simp [SV.pts])
    rwa [Env.setHdr_self] at this
end
end Go.Ck

set_option linter.unusedVariables false
namespace Go.Ck
open Go.RowKit
section
variable {P : Program} {O0 : Base} {F : Nat → Prop} {w0 w : World} {s : St} {E : Env} {tmps : Array Value}

theorem Rel.ev_good (h : Rel P O0 w0 F s E tmps w) {x : Operand} {v : SV} (hv : ev s x = some v) : Good s v := by
  unfold ev at hv
  split at hv
  · rename_i t
    split at hv
    · rename_i e xs hl
      cases hv
      refine ⟨rfl, fun q hq => ?_, by simp [SV.pts]⟩
      have : q = .slot t := by simpa [SV.on, eq_comm] using hq
      subst this
      exact ⟨⟨e, xs, hl⟩, by simp⟩
    · cases hv
    · cases hv
    · rename_i h1 h2 h3
      refine ⟨?_, fun q hq => ?_, fun o ho => h.np (.slot t) v o hv ho⟩
      · cases v <;> first | rfl | (exact absurd hv (h1 _ _)) | (exact absurd hv (h3 _))
      · exact (h.na (.slot t) v q hv hq).2
  · rename_i c
    unfold ofConst at hv
    split at hv <;> cases hv <;> first | exact .pv _ _ | exact .nils _
  · cases hv
    exact ⟨rfl, by simp [SV.on], by simp [SV.pts]⟩
  · cases hv

theorem pvO_good {o : Option PV} {v : SV} (h : pvO o = some v) : Good s v := by
  cases o <;> cases h; exact .pv _ _
theorem strO_good {o : Option (List Int)} {v : SV} (h : strO o = some v) : Good s v := by
  cases o <;> cases h; exact .pv _ _
theorem aggO_good {o : Option (List PV)} {v : SV} (h : aggO o = some v) : Good s v := by
  cases o <;> cases h; exact .pv _ _
theorem intO_good {o : Option Int} {v : SV} (h : intO o = some v) : Good s v := by
  cases o <;> cases h; exact .pv _ _
theorem eqSV_good {c : Bool} {op : BinOp} {v : SV} (h : eqSV c op = some v) : Good s v := by
  unfold eqSV at h; split at h <;> cases h <;> exact .pv _ _
theorem abinS_good {T : TK} {op : BinOp} {x y v : SV} (h : abinS T op x y = some v) : Good s v := by
  unfold abinS at h
  split at h
  · exact pvO_good h
  · exact pvO_good h
  · split at h
    · exact pvO_good h
    · cases h
  · split at h
    · exact eqSV_good h
    · cases h
  · split at h
    · exact eqSV_good h
    · cases h
  · cases h
theorem convT_good {x : SV} {A B : TK} {C : TypeId → TK} {v : SV} (h : convT s x A B C = some v) : Good s v := by
  unfold convT at h
  split at h
  · split at h <;> cases h; exact .pv _ _
  · split at h <;> cases h; exact .pv _ _
  · split at h
    · unfold bstrO at h
      split at h
      · exact strO_good h
      · cases h
    · cases h
  · cases h
theorem elemO_good {j : Nat} {T : Option (Nat × Bool)} {o : Option PV} {v : SV} (h : elemO j T o = some v) : Good s v := by
  cases o with
  | none => cases h
  | some c => exact pvO_good h
theorem ownO_good {e i j : Nat} {T : Option (Nat × Bool)} {o : Option SV} {v : SV} (h : ownO e i j T o = some v) : Good s v := by
  unfold ownO at h
  split at h
  · split at h
    · exact elemO_good h
    · cases h
  · cases h

theorem Rel.cellO_good (h : Rel P O0 w0 F s E tmps w) {o off : Nat} {e : TypeId} {cs : List SV} (hl : look o s.hp = some (.cells e cs)) {v : SV} (hv : cellO o off cs[off]? = some v) : Good s v := by
  have hat : s.at (.cell o off) = cs[off]? := by simp [St.at, hl]
  rw [← hat] at hv
  cases hc : s.at (.cell o off) with
  | none => rw [hc] at hv; cases hv
  | some u =>
    rw [hc] at hv
    unfold cellO at hv
    split at hv
    · rename_i e' xs he
      cases hv
      cases he
      refine ⟨rfl, fun q hq => ?_, by simp [SV.pts]⟩
      have : q = .cell o off := by simpa [SV.on, eq_comm] using hq
      subst this
      exact ⟨⟨e', xs, hc⟩, by simp⟩
    · cases hv
    · cases hv
    · rename_i h1 h2 h3
      have e : u = v := by simpa using hv
      subst e
      refine ⟨?_, fun q hq => ?_, fun o' ho => h.np _ _ o' hc ho⟩
      · cases u <;> first | rfl | (exact absurd rfl (h1 _ _)) | (exact absurd rfl (h3 _))
      · obtain ⟨⟨d, hd⟩, _⟩ := h.na _ _ q hc hq
        cases hd

theorem Good.of_on {v u : SV} (h : Good s v) (he : u.easy = true) (hon : ∀ q, u.on q = true → v.on q = true) (hp : ∀ o, u.pts o = true → v.pts o = true) : Good s u :=
  ⟨he, fun q hq => h.2.1 q (hon q hq), fun o ho => h.2.2 o (hp o ho)⟩

theorem Rel.aload_good (h : Rel P O0 w0 F s E tmps w) {T : Option (Nat × Bool)} {x v : SV} (hv : aload T s x = some v) : Good s v := by
  unfold aload at hv
  split at hv
  · exact pvO_good hv
  · exact ownO_good hv
  · unfold objO at hv
    split at hv
    · rename_i e cs hl
      split at hv
      · split at hv
        · exact aggO_good hv
        · cases hv
      · exact h.cellO_good hl hv
      · cases hv
    · cases hv
  · cases hv

theorem eaO_good {p : Place} {e k : Nat} {v : SV} (hp : ∀ d i, p ≠ .part d i) (h : eaO p e k (s.at p) = some v) : Good s v := by
  unfold eaO at h
  split at h
  · rename_i e' xs he
    split at h <;> cases h
    refine ⟨rfl, fun q hq => ?_, by simp [SV.pts]⟩
    have : p = q := by simpa [SV.on] using hq
    subst this
    exact ⟨⟨_, _, he⟩, hp⟩
  · cases h

theorem indexT_good {k : Int} {x v : SV} {T : TK} (hx : Good s x) (h : indexT s k x T = some v) : Good s v := by
  unfold indexT at h
  split at h
  · split at h
    · cases h
    · split at h
      · split at h
        · unfold raO at h
          split at h <;> cases h
          exact ⟨rfl, by simp [SV.on], by simp [SV.pts]⟩
        · cases h
      · rename_i p
        exact eaO_good (hx.2.1 p (by simp [SV.on])).2 h
      · split at h <;> cases h
        exact hx.of_on rfl (by simp [SV.on]) (by simp [SV.pts])
      · cases h
  · split at h
    · cases h
    · split at h
      · split at h <;> cases h
        exact hx.of_on rfl (by simp [SV.on]) (by simp [SV.pts])
      · cases h
  · cases h

theorem sliceV_good {l n : Nat} {x v : SV} {T : TK} (hx : Good s x) (h : sliceV l n x T = some v) : Good s v := by
  unfold sliceV at h
  split at h
  · split at h
    · split at h <;> cases h
      exact .pv _ _
    · split at h <;> cases h
      exact hx.of_on rfl (by simp [SV.on]) (by simp [SV.pts])
    · split at h <;> cases h
      exact hx.of_on rfl (by simp [SV.on]) (by simp [SV.pts])
    · split at h <;> cases h
      exact .nils _
    · cases h
  · split at h <;> cases h
    exact .pv _ _
  · cases h

theorem Rel.aval_good (h : Rel P O0 w0 F s E tmps w) {ty : TypeId} {op : Op} {v : SV} (hv : aval P s ty op = some v) : Good s v := by
  unfold aval at hv
  split at hv
  · exact h.ev_good hv
  · exact h.ev_good hv
  · split at hv
    · split at hv <;> cases hv
      exact .pv _ _
    · split at hv <;> cases hv
      exact .pv _ _
    · cases hv
  · split at hv
    · split at hv <;> cases hv
      exact .pv _ _
    · cases hv
  · split at hv
    · exact abinS_good hv
    · cases hv
  · split at hv
    · exact convT_good hv
    · cases hv
  · split at hv <;> cases hv <;> (rename_i he; exact h.ev_good he)
  · split at hv
    · exact h.aload_good hv
    · cases hv
  · split at hv
    · rename_i he
      have hx := h.ev_good he
      unfold afieldAddr at hv
      split at hv
      · split at hv
        · split at hv
          · cases hv
          · split at hv <;> cases hv <;> exact hx.of_on rfl (by simp [SV.on]) (by simp [SV.pts])
        · cases hv
      · cases hv
    · cases hv
  · split at hv
    · unfold afield at hv
      split at hv
      · split at hv
        · split at hv
          · split at hv
            · cases hv
            · exact pvO_good hv
          · cases hv
        · cases hv
      · cases hv
    · cases hv
  · split at hv
    · rename_i he _
      have hx := h.ev_good he
      unfold aindexAddr at hv
      split at hv
      · split at hv
        · cases hv
        · exact indexT_good hx hv
      · cases hv
    · cases hv
  · split at hv
    · rename_i he _ _
      have hx := h.ev_good he
      unfold aslice sliceN at hv
      split at hv
      · split at hv
        · unfold sliceB at hv
          split at hv
          · exact sliceV_good hx hv
          · cases hv
        · cases hv
      · cases hv
    · cases hv
  · split at hv
    · split at hv <;> cases hv
      exact .pv _ _
    · cases hv
  · split at hv <;> cases hv
    exact .pv _ _
  · split at hv
    · split at hv
      · unfold lenT at hv
        split at hv
        · split at hv <;> cases hv
          exact .pv _ _
        · split at hv
          · cases hv
          · cases hv
          · exact intO_good hv
        · split at hv
          · exact intO_good hv
          · cases hv
        · cases hv
      · cases hv
    · split at hv
      · unfold minI at hv
        split at hv
        · split at hv <;> cases hv; exact .pv _ _
        · cases hv
      · cases hv
    · split at hv
      · unfold maxI at hv
        split at hv
        · split at hv <;> cases hv; exact .pv _ _
        · cases hv
      · cases hv
    · cases hv
  · cases hv

/-- An operation that reads alone. -/
theorem aval_put {a : Act} (h : Rel P O0 w0 F s E a.tmps w) {o : Oper} {d : Nat} {v : SV} (hv : aval P s o.type o.op = some v) :
    ∃ x, (execOp a.eval o).run P w = .ok (.value x) w ∧ Rel P O0 w0 F (put d v s) E (a.tmps.setIfInBounds d x) w := by
  obtain ⟨x, h1, h2⟩ := aval_sound h hv
  exact ⟨x, h1, h.putGood d (h.aval_good hv) h2⟩
end
end Go.Ck

set_option linter.unusedVariables false
namespace Go.Ck
open Go.RowKit

theorem setCells_heap (b : Nat) : ∀ (vs : List Value) (o : Nat) (w : World) (cur : Array Value) (e : TypeId) (f : Nat × Nat), w.heap[b]? = some (.cells cur e f) →
    ∃ cur' : Array Value, (w.setCells b o vs).heap[b]? = some (.cells cur' e f) ∧ cur'.size = cur.size ∧ ∀ j, j < cur.size → cur'[j]? = if o ≤ j ∧ j < o + vs.length then vs[j - o]? else cur[j]?
  | [], o, w, cur, e, f, h => ⟨cur, h, rfl, fun j _ => by rw [if_neg (by simp only [List.length_nil]; omega)]⟩
  | v :: r, o, w, cur, e, f, h => by
    have h1 : (w.setCell ⟨b, o, none⟩ v).heap[b]? = some (.cells (cur.setIfInBounds o v) e f) := by rw [setCell_heap, if_pos rfl, h]; rfl
    obtain ⟨cur', h2, h3, h4⟩ := setCells_heap b r (o + 1) _ _ e f h1
    refine ⟨cur', by rw [World.setCells]; exact h2, by simpa using h3, fun j hj => ?_⟩
    rw [h4 j (by simpa using hj)]
    simp only [List.length_cons]
    by_cases hjo : j = o
    · subst hjo
      rw [if_neg (by omega), if_pos (by omega)]
      simp [hj]
    · by_cases h5 : o + 1 ≤ j ∧ j < o + 1 + r.length
      · rw [if_pos h5, if_pos (by omega)]
        rw [show j - o = (j - (o + 1)) + 1 by omega, List.getElem?_cons_succ]
      · rw [if_neg h5, if_neg (by omega)]
        rw [Array.getElem?_setIfInBounds_ne (by omega)]

section
variable {P : Program} (w : World)

/-- append onto an own list, out of whatever source. -/
theorem run_append_own_src (base : Nat) (t tx ty e : TypeId) (i : TypeInfo) (z : Value) (ht : P.underlying t = some (.slice e)) (hi : P.info? e = some i) (hz : i.zero = some z)
    (hzs : z.cells.size = i.size) 
    (v : Value) (n : Nat) (xs : List Value) (hown : w.ownsRow base e i.size v n xs) (x : Value) (m : Nat) (news : List Value) (hs : Src P i.size tx x m news w)
    (h63 : n + m ≤ maxLen) (hbytes : (n + m) * i.bytes ≤ 140737488355328) (hbase : base ≤ w.heap.size) :
    ∃ v' w', (Builtin.append_ #[t, tx] ty #[v, x]).run P w = .ok v' w' ∧ w'.ownsRow base e i.size v' (n + m) (xs ++ news) ∧ w.grownBy w' v.ownBlock ∧
      (v'.ownBlock = v.ownBlock ∨ v'.ownBlock = some w.heap.size) := by
  have hsmall : n + m ≤ 9223372036854775807 := by simp only [maxLen] at h63; omega
  have hnl := hs.newsLen
  have hlen : (xs ++ news).length = (n + m) * i.size := by rw [List.length_append, hown.1, hnl, Nat.add_mul]
  have grow : ∀ (bs : Option Addr) (sc : Nat), v = .slice bs n sc → sc < n + m →
      (Builtin.firstCells i.size n (.slice bs n sc)).run P w.drew = .ok xs.toArray w.drew →
      ∃ v' w', (Builtin.append_ #[t, tx] ty #[v, x]).run P w = .ok v' w' ∧ w'.ownsRow base e i.size v' (n + m) (xs ++ news) ∧ w.grownBy w' v.ownBlock ∧
        (v'.ownBlock = v.ownBlock ∨ v'.ownBlock = some w.heap.size) := by
    rintro bs sc rfl hg hold
    have hrun := run_append_grow_src (P := P) w t tx ty e i z ht hi hz bs n sc xs hold x m news hs hg (by omega) (growslice_fits hg hbytes)
    have hge := grownCap_ge w (n + m) sc e
    have hcm := grownCap_le_maxLen w (n + m) sc e h63
    refine ⟨_, _, hrun, ⟨hlen, .inr ⟨w.heap.size, _, _, rfl, hbase, heap_alloc_new w.drew _, hge, hcm, ?_, ?_⟩⟩, ⟨rfl, rfl, rfl, by simp, fun k hk _ => heap_alloc_old w.drew _ hk⟩, .inr rfl⟩
    · rw [Array.size_append, List.size_toArray, hlen, size_zeroCells, hzs, ← Nat.add_mul]
      congr 1
      omega
    · simp only [Array.toList_append]
      rw [← hlen]
      exact List.take_left
  rcases hown.2 with ⟨rfl, rfl⟩ | ⟨g, cap, cur, rfl, hbg, hg, hnc, hcm, hcs, htake⟩
  · have hx : xs = [] := List.eq_nil_of_length_eq_zero (by simpa using hown.1)
    subst hx
    by_cases hm : m = 0
    · subst hm
      have hn : news = [] := List.eq_nil_of_length_eq_zero (by simpa using hnl)
      subst hn
      exact ⟨_, _, run_append_nothing (P := P) w t tx ty e i ht hi none 0 0 (Nat.le_refl _) x hs, World.ownsRow_nil w base e i.size, ⟨rfl, rfl, rfl, Nat.le_refl _, fun _ _ _ => rfl⟩, .inl rfl⟩
    · exact grow none 0 rfl (by omega) (run_firstCells_none w.drew i.size 0 0 0)
  · by_cases hroom : n + m ≤ cap
    · have hfit : n * i.size + news.length ≤ cur.size := by rw [hnl, hcs, ← Nat.add_mul]; exact Nat.mul_le_mul_right _ hroom
      obtain ⟨cur', h1, h2, h3⟩ := setCells_heap g news (n * i.size) w cur e (0, 0) hg
      have hr := run_append_room_src (P := P) w t tx ty e i ht hi g 0 n cap x m news hs hroom
        (fun j hj => by simp [World.cell?, hg]; omega) (fun j hj => by simp [World.frozen?, hg])
      refine ⟨_, _, hr, ⟨hlen, .inr ⟨g, cap, cur', rfl, hbg, by rw [Nat.zero_add]; exact h1, hroom, hcm, by rw [h2, hcs], ?_⟩⟩, ⟨?_, ?_, ?_, ?_, fun k hk hne => ?_⟩, .inl rfl⟩
      · apply List.ext_getElem?
        intro j
        rw [List.getElem?_take]
        by_cases hj : j < (n + m) * i.size
        · rw [if_pos hj, Array.getElem?_toList, h3 j (by rw [Nat.add_mul] at hj; omega)]
          by_cases hjn : j < n * i.size
          · rw [if_neg (by omega), List.getElem?_append_left (by rw [hown.1]; exact hjn), ← htake, List.getElem?_take, if_pos hjn, Array.getElem?_toList]
          · rw [if_pos (by rw [Nat.add_mul] at hj; omega), List.getElem?_append_right (by rw [hown.1]; omega), hown.1]
        · rw [if_neg hj, List.getElem?_eq_none (by rw [hlen]; omega)]
      · exact World.os_setCells _ _ _ _
      · have : ∀ (vs : List Value) (o : Nat) (w : World), (w.setCells g o vs).tape = w.tape := by
          intro vs
          induction vs with
          | nil => intro o w; rfl
          | cons v r ih => intro o w; rw [World.setCells, ih]; rfl
        exact this _ _ _
      · exact World.output_setCells _ _ _ _
      · have : ∀ (vs : List Value) (o : Nat) (w : World), (w.setCells g o vs).heap.size = w.heap.size := by
          intro vs
          induction vs with
          | nil => intro o w; rfl
          | cons v r ih => intro o w; rw [World.setCells, ih]; simp
        exact Nat.le_of_eq (this _ _ _).symm
      · exact World.heap_setCells_other w g _ news hk (fun he => hne (by simp [Value.ownBlock, he]))
    · have holds : ∀ j u, xs[j]? = some u → w.drew.cell? ((⟨g, 0, none⟩ : Addr).add j) = some u := by
        simpa using hown.cells (g := g) rfl
      exact grow (some ⟨g, 0, none⟩) cap rfl (by omega) (run_firstCells_some w.drew i.size n ⟨g, 0, none⟩ n cap xs hown.1 holds)
end
end Go.Ck

set_option linter.unusedVariables false
namespace Go.Ck
open Go.RowKit
section
variable {P : Program} {O0 : Base} {F : Nat → Prop} {w0 w : World} {s : St} {E : Env} {tmps : Array Value}

/-- An own list, in a world that has grown. -/
theorem Rel.newOwn (h : Rel P O0 w0 F s E tmps w) {w' : World} {M : Nat → Prop} (hg : Grow M w w') (hM : ∀ b, M b → E.om b ∧ Unused s E b) {e : TypeId} {xs : List PV} {x : Value} (d : Nat)
    (ho : OwnL P (fun b => (E.om b ∨ w.heap.size ≤ b ∧ b < w'.heap.size) ∨ F b) w' e x xs) (hb : ∀ b, x.ownBlock = some b → (E.om b ∧ Unused s E b) ∨ (w.heap.size ≤ b ∧ b < w'.heap.size)) :
    ∃ E', Rel P O0 w0 F (put d (.own e xs) s) E' (tmps.setIfInBounds d x) w' := by
  have h' := h.world hg hM (fun b => w.heap.size ≤ b ∧ b < w'.heap.size) (fun b hb => hb)
  refine h'.putOwn d ho (fun b hb' => ?_)
  rcases hb b hb' with ⟨h1, h2⟩ | h1
  · exact ⟨.inl h1, h2⟩
  · refine ⟨.inr h1, fun o y hl he => ?_, fun p e xs hp hpb => ?_⟩
    · have := (h.om_lt _ (h.obj o y hl).1).1
      have he' : E.obj o = b := he
      omega
    · obtain ⟨x, _, _, _, h3⟩ := h.place p _ hp
      have := (h.om_lt b (h3 b hpb)).1
      omega

theorem isSrc_kind {t : TypeId} (h : (tk P t).isSrc = true) : (∃ e', P.underlying t = some (.slice e')) ∨ P.underlying t = some .string := by
  cases hT : tk P t <;> rw [hT] at h <;> cases h
  · exact .inr (tk_str hT)
  · exact .inl ⟨_, (tk_sl hT).1⟩

theorem ROs.oneCell {A : Nat → Prop} {cs : List PV} {vs : List Value} (h : ROs A w cs vs) : ∀ u ∈ vs, u.oneCell' = true := by
  intro u hu
  obtain ⟨i, hi, he⟩ := List.mem_iff_getElem.1 hu
  have hi' : i < cs.length := by rw [← h.1]; exact hi
  have h1 : cs[i]? = some cs[i] := List.getElem?_eq_getElem hi'
  exact (h.2.2 i _ u h1 (by rw [← he]; exact List.getElem?_eq_getElem hi)).oneCell (h.2.1 _ (List.getElem_mem hi'))

theorem src_of (a : Option Addr) (n c : Nat) {tx : TypeId} {size : Nat} (hk : (∃ e', P.underlying tx = some (.slice e')) ∨ P.underlying tx = some .string) {news : List Value} (hl : news.length = n * size) (hsz : 0 < size)
    (hm : ∀ (i : Nat) (v : Value), news[i]? = some v → ∃ ad : Addr, a = some ad ∧ w.cell? (ad.add i) = some v) (h1 : ∀ u ∈ news, u.oneCell' = true) : Src P size tx (.slice a n c) n news w := by
  cases a with
  | none =>
    have : news = [] := by
      cases news with
      | nil => rfl
      | cons v r =>
        obtain ⟨ad, h2, _⟩ := hm 0 v rfl
        cases h2
    subst this
    have hn : n = 0 := by
      rcases Nat.eq_zero_or_pos n with h2 | h2
      · exact h2
      · have := Nat.mul_pos h2 hsz
        simp at hl; omega
    subst hn
    exact ⟨hk, fun _ => rfl, run_firstCells_none w size 0 0 c, run_firstCells_none w.drew size 0 0 c, by simp, fun _ h => by cases h⟩
  | some ad =>
    have hc : ∀ j v, news[j]? = some v → w.cell? (ad.add j) = some v := by
      intro j v hv
      obtain ⟨ad', h2, h3⟩ := hm j v hv
      cases h2
      exact h3
    exact ⟨hk, fun _ => rfl, run_firstCells_some w size n ad n c news hl hc, run_firstCells_some w.drew size n ad n c news hl (by simpa using hc), hl, h1⟩

theorem flat_strBytes (l : List UInt8) : flat (strBytes l) = strBytes l := by
  induction l with
  | nil => rfl
  | cons b r ih => simp only [strBytes, List.map_cons, flat_cons, PV.cells] at ih ⊢; rw [ih]; rfl

/-- What is appended. -/
theorem elems_src (h : Rel P O0 w0 F s E tmps w) {y : SV} {x : Value} {ys : List PV} {ez : Nat} {tx : TypeId} (hT : (tk P tx).isSrc = true) (hez : ez ≠ 0) (he : elemsOf P s ez y = some ys) (hr : RS P (fun b => E.om b ∨ F b) E w y x) :
    ∃ news, Src P ez tx x ys.length news w ∧ ROs (fun b => E.om b ∨ F b) w (flat ys) news ∧ ∀ c ∈ ys, c.cells.length = ez := by
  have hk := isSrc_kind hT
  unfold elemsOf at he
  split at he
  · rename_i l
    split at he <;> cases he
    rename_i h1
    subst h1
    cases hr with | pv _ _ hr => ?_
    cases hr
    refine ⟨byteCells ⟨l.toArray⟩, ?_, ?_, ?_⟩
    · have hsz : (strBytes l).length = (⟨l.toArray⟩ : ByteArray).size := by simp [strBytes, ByteArray.size]
      rw [hsz]
      refine ⟨hk, fun _ => rfl, firstCells_string _ w, firstCells_string _ w.drew, by rw [byteCells_length, Nat.mul_one], fun u hu => ?_⟩
      obtain ⟨_, _, rfl⟩ := List.mem_map.1 hu
      rfl
    · rw [flat_strBytes]
      refine ⟨by simp [byteCells, strBytes], fun c hc => ?_, fun i c v hc hv => ?_⟩
      · obtain ⟨_, _, rfl⟩ := List.mem_map.1 hc
        rfl
      · simp only [strBytes, List.getElem?_map, byteCells, Option.map_eq_some_iff] at hc hv
        obtain ⟨b, hb, rfl⟩ := hc
        obtain ⟨b', hb', rfl⟩ := hv
        have e : b = b' := by
          have := hb.symm.trans (by simpa using hb')
          simpa using this
        subst e
        exact .int _ _
    · intro c hc
      obtain ⟨_, _, rfl⟩ := List.mem_map.1 hc
      rfl
  · rename_i z xs
    split at he <;> cases he
    rename_i h1
    subst h1
    cases hr with | pv _ _ hr => ?_
    obtain ⟨vs, a, cap, rfl, h2, h3, h4, h5, h6⟩ := hr.slParts
    refine ⟨vs, src_of a _ cap hk (by rw [h2.1, flat_length h4]) (by omega) (fun i v hv => ?_) h2.oneCell, h2, h4⟩
    obtain ⟨ad, e1, _, e2⟩ := h3 i v hv
    exact ⟨ad, e1, e2⟩
  · cases he
    cases hr
    exact ⟨[], src_of none 0 0 hk (by simp) (by omega) (by simp) (by simp), ROs.nil _ _, by simp⟩
  · rename_i p
    unfold elemsO at he
    split at he
    · rename_i e xs hp
      split at he <;> cases he
      rename_i hez'
      cases hr
      obtain ⟨cs, h1, h2, h3, h4⟩ := h.own hp
      rw [hez'] at h3 h1
      refine ⟨cs, ?_, h2, h3⟩
      rcases h1.2 with ⟨e1, h0⟩ | ⟨g, cap, cur, e1, _⟩
      · have hx : ys = [] := List.eq_nil_of_length_eq_zero h0
        subst hx
        have : cs = [] := List.eq_nil_of_length_eq_zero (by simpa using h1.1)
        subst this
        rw [e1]
        exact src_of none 0 0 hk (by simp) (by omega) (by simp) (by simp)
      · rw [e1]
        refine src_of _ _ cap hk h1.1 (by omega) (fun i v hv => ⟨_, rfl, ?_⟩) h2.oneCell
        exact h1.cells (g := g) (by rw [e1]; rfl) i v hv
    · cases he
  · rename_i p e off n
    split at he
    · rename_i hce
      split at he
      · rename_i xs hxs
        cases he
        unfold elemsO at hxs
        split at hxs
        · rename_i e' xs' hp
          split at hxs <;> cases hxs
          rename_i hez'
          cases hr with | vw _ _ _ _ _ hv => ?_
          obtain ⟨⟨a, len, cap, e1, hle⟩, a', cap', rfl, hcap', hblk⟩ := hv
          obtain ⟨cs, h1, h2, h3, h4⟩ := h.own hp
          rw [hez'] at h3 h1
          obtain ⟨a2, cap2, e2, _⟩ := (h.own hp).form
          have hlen : len = xs.length := by rw [e1] at e2; simpa using (Value.slice.inj e2).2.1
          subst hlen
          have hyl : ((xs.drop off).take n).length = n := by simp; omega
          have hmul : off * ez + n * ez ≤ xs.length * ez := by rw [← Nat.add_mul]; exact Nat.mul_le_mul_right _ hle
          refine ⟨(cs.drop (off * ez)).take (n * ez), ?_, ?_, fun c hc => h3 c (List.mem_of_mem_drop (List.mem_of_mem_take hc))⟩
          · rw [hyl]
            refine src_of _ _ cap' hk ?_ (by omega) (fun i v hv => ?_) ((h2.drop _).take _).oneCell
            · rw [List.length_take, List.length_drop, h1.1]; omega
            · have hi : i < n * ez := by
                rcases Nat.lt_or_ge i (n * ez) with h5 | h5
                · exact h5
                · rw [List.getElem?_take, if_neg (by omega)] at hv; cases hv
              rw [List.getElem?_take, if_pos hi, List.getElem?_drop] at hv
              have hn : 0 < n := by
                rcases Nat.eq_zero_or_pos n with h5 | h5
                · subst h5; simp at hi
                · exact h5
              obtain ⟨b, hb, rfl⟩ := hblk hn
              refine ⟨_, rfl, ?_⟩
              have := h1.cells hb _ v hv
              rw [add_mk, Nat.zero_add] at this
              rw [add_mk, hce]
              exact this
          · rw [flat_take (fun x hx => h3 x (List.mem_of_mem_drop hx)), flat_drop h3]
            exact (h2.drop _).take _
        · cases hxs
      · cases he
    · cases he
  · cases he
end
end Go.Ck

set_option linter.unusedVariables false
namespace Go.Ck
open Go.RowKit
section
variable {P : Program} {O0 : Base} {F : Nat → Prop} {w0 w : World} {s : St} {E : Env} {tmps : Array Value}

theorem zok_parts {e : TypeId} (h : zok P e = true) : ∃ i z, P.info? e = some i ∧ i.zero = some z ∧ z.cells.size = i.size := by
  unfold zok at h
  split at h
  · rename_i i hi
    split at h
    · rename_i z hz
      exact ⟨i, z, hi, hz, by simpa using h⟩
    · cases h
  · cases h

theorem Grow.of_grownBy {w w' : World} {r : Option Nat} (h : w.grownBy w' r) : Grow (fun b => r = some b) w w' :=
  ⟨h.os, h.tape, h.output, h.size, fun b hb hn => h.block b hb (fun e => hn e.symm)⟩

/-- One append. -/
theorem Rel.append (h : Rel P O0 w0 F s E tmps w) {vx : Value} {e : TypeId} {xs ys : List PV} (d : Nat) (t tx ty : TypeId) (ht : P.underlying t = some (.slice e)) (hz : zok P e = true) (hez : P.cellsOf e ≠ 0)
    (ho : OwnL P (fun b => E.om b ∨ F b) w e vx xs) (hb : ∀ b, vx.ownBlock = some b → E.om b ∧ Unused s E b) {x : Value} {news : List Value} (hs : Src P (P.cellsOf e) tx x ys.length news w)
    (hn : ROs (fun b => E.om b ∨ F b) w (flat ys) news) (hy : ∀ c ∈ ys, c.cells.length = P.cellsOf e) (h1 : (xs.length + ys.length) * P.bytesOf e ≤ room) (h2 : xs.length + ys.length ≤ room) :
    ∃ v' w' E', (Builtin.append_ #[t, tx] ty #[vx, x]).run P w = .ok v' w' ∧ Rel P O0 w0 F (put d (.own e (xs ++ ys)) s) E' (tmps.setIfInBounds d v') w' := by
  obtain ⟨i, z, hi, hiz, hzs⟩ := zok_parts hz
  have hsz : P.cellsOf e = i.size := by simp [Program.cellsOf, hi]
  have hby : P.bytesOf e = i.bytes := by simp [Program.bytesOf, hi]
  obtain ⟨cs, c1, c2, c3, c4⟩ := ho
  rw [hsz] at c1 hs
  rw [hby] at h1
  have h63 : xs.length + ys.length ≤ maxLen := by unfold room at h2; simp only [maxLen]; omega
  obtain ⟨v', w', hr, hown, hg, hblk⟩ := run_append_own_src (P := P) w 0 t tx ty e i z ht hi hiz hzs vx xs.length cs c1 x ys.length news hs h63 h1 (Nat.zero_le _)
  have hgr := Grow.of_grownBy hg
  have hA : ∀ b, b < w.heap.size → ¬ (E.om b ∨ F b) → ¬ ((E.om b ∨ w.heap.size ≤ b ∧ b < w'.heap.size) ∨ F b) ∧ w'.heap[b]? = w.heap[b]? := by
    intro b hb' hn'
    refine ⟨?_, hgr.block b hb' (fun he => hn' (.inl (hb b he).1))⟩
    rintro ((h3 | h3) | h3)
    · exact hn' (.inl h3)
    · omega
    · exact hn' (.inr h3)
  have fin : ∃ E', Rel P O0 w0 F (put d (.own e (xs ++ ys)) s) E' (tmps.setIfInBounds d v') w' := ?_
  · obtain ⟨E', hE⟩ := fin
    exact ⟨v', w', E', hr, hE⟩
  refine h.newOwn hgr (fun b hb' => hb b hb') (e := e) (xs := xs ++ ys) (x := v') d ?_ ?_
  · refine ⟨cs ++ news, ?_, ?_, ?_, by rw [List.length_append]; exact h63⟩
    · rw [List.length_append, hsz]; exact hown
    · rw [flat_append]; exact (c2.mono hA).append (hn.mono hA)
    · intro c hc
      rcases List.mem_append.1 hc with hc | hc
      · exact c3 c hc
      · exact hy c hc
  · intro b hb'
    rcases hblk with h3 | h3
    · exact .inl (hb b (by rw [← h3]; exact hb'))
    · rw [h3] at hb'
      cases hb'
      right
      refine ⟨Nat.le_refl _, ?_⟩
      rcases hown.2 with ⟨e1, _⟩ | ⟨g, cap, cur, e1, _, hgb, _⟩
      · rw [e1] at h3; simp [Value.ownBlock] at h3
      · rw [e1] at h3
        simp [Value.ownBlock] at h3
        rw [← h3]
        exact (Array.getElem?_eq_some_iff.1 hgb).1

theorem aappend_sound (h : Rel P O0 w0 F s E tmps w) {t tx ty : TypeId} {d : Nat} {x y : SV} {s' : St} {vx vy : Value} (hT : (tk P tx).isSrc = true) (ha : aappend P s d x y (tk P t) = some s')
    (hx : RS P (fun b => E.om b ∨ F b) E w x vx) (hy : RS P (fun b => E.om b ∨ F b) E w y vy) :
    ∃ v' w' E', (Builtin.append_ #[t, tx] ty #[vx, vy]).run P w = .ok v' w' ∧ Rel P O0 w0 F s' E' (tmps.setIfInBounds d v') w' := by
  unfold aappend at ha
  split at ha
  · rename_i e ez eb ea htk
    obtain ⟨ht, hez, heb⟩ := tk_sl htk
    split at ha
    · rename_i hc
      subst hez
      subst heb
      unfold appendX at ha
      split at ha
      · rename_i ys hys
        obtain ⟨news, h1, h2, h3⟩ := elems_src h hT hc.1 hys hy
        split at ha
        · split at ha
          · rename_i hr
            cases ha
            cases hx
            have := h.append (xs := []) (vx := .slice none 0 0) d t tx ty ht hc.2 hc.1 ⟨[], World.ownsRow_nil w 0 e _, ROs.nil _ _, by simp, by simp⟩ (by simp [Value.ownBlock]) h1 h2 h3 (by simpa using hr.1) (by simpa using hr.2)
            simpa using this
          · cases ha
        · rename_i p
          unfold appendO at ha
          split at ha
          · rename_i e' xs hp
            split at ha
            · rename_i hr
              obtain ⟨rfl, h4, h5⟩ := hr
              cases ha
              cases hx
              obtain ⟨_, t2, t3, t4⟩ := h.take hp
              exact t4.append d t tx ty ht hc.2 hc.1 t2 t3 h1 h2 h3 h4 h5
            · cases ha
          · cases ha
        · cases ha
      · cases ha
    · cases ha
  · cases ha
end
end Go.Ck

set_option linter.unusedVariables false
namespace Go.Ck
open Go.RowKit
section
variable {P : Program} {O0 : Base} {F : Nat → Prop} {w0 w : World} {s : St} {E : Env} {tmps : Array Value}

theorem ofConst_good {c : Value} {v : SV} (h : ofConst c = some v) : Good s v ∧ c.cells = #[c] ∧ oneSV v = true ∧ (∀ q, v.on q = false) ∧ ∀ o, v.pts o = false := by
  unfold ofConst at h
  split at h <;> cases h <;> refine ⟨?_, rfl, rfl, fun _ => rfl, fun _ => rfl⟩ <;> first | exact .pv _ _ | exact .nils _
theorem pvOf_sound {A : Nat → Prop} {v : Value} {p : PV} (h : pvOf v = some p) : RO A w p v ∧ p.one = true ∧ v.cells = #[v] := by
  unfold pvOf ofConst at h
  split at h
  · rename_i q hq
    cases h
    split at hq <;> cases hq
    · exact ⟨.int _ _, rfl, rfl⟩
    · exact ⟨.bool _, rfl, rfl⟩
    · rename_i l
      have : (⟨l.data.toList.toArray⟩ : ByteArray) = l := by simp
      exact ⟨by rw [← this]; simpa using RO.str (A := A) (w := w) l.data.toList, rfl, rfl⟩
    · exact ⟨.nilp, rfl, rfl⟩
    · exact ⟨.nilf, rfl, rfl⟩
    · exact ⟨.nili, rfl, rfl⟩
  · rename_i hq
    cases h
    split at hq <;> cases hq
    exact ⟨RO.mkSl (vs := []) (ROs.nil _ _) (by simp) (by simp) (by simp) (by simp), rfl, rfl⟩
  · cases h
theorem pvsOf_sound {A : Nat → Prop} {vs : List Value} {ps : List PV} (h : pvsOf vs = some ps) : ROs A w ps vs := by
  induction vs generalizing ps with
  | nil => cases h; exact ROs.nil _ _
  | cons v r ih =>
    unfold pvsOf at h
    split at h
    · rename_i x xs hx hxs
      cases h
      obtain ⟨h1, h2, h3⟩ := pvOf_sound (A := A) (w := w) hx
      have h4 := ih hxs
      refine ⟨by simp [h4.1], fun c hc => ?_, fun i c v' hc hv => ?_⟩
      · rcases List.mem_cons.1 hc with rfl | hc
        · exact h2
        · exact h4.2.1 c hc
      · cases i with
        | zero => simp at hc hv; subst hc; subst hv; exact h1
        | succ i => exact h4.2.2 i c v' (by simpa using hc) (by simpa using hv)
    · cases h
theorem zeroElem_sound {A : Nat → Prop} {e : TypeId} {p : PV} (h : zeroElem P e = some p) : ∃ i z, P.info? e = some i ∧ i.zero = some z ∧ z.cells.size = i.size ∧ RO A w p z ∧ p.cells.length = i.size := by
  unfold zeroElem at h
  split at h
  · rename_i i hi
    split at h
    · rename_i vs hz
      split at h
      · rename_i hs
        unfold aggP at h
        split at h
        · rename_i ps hps
          cases h
          obtain ⟨h1, h2, h3⟩ := pvsOf_sound (A := A) (w := w) hps
          exact ⟨i, _, hi, hz, hs, .agg ps vs (by simpa using h1) h2 (fun j c v hc hv => h3 j c v hc (by simpa using hv)), by simp only [PV.cells]; rw [← hs, ← h1]; simp⟩
        · cases h
      · cases h
    · rename_i v hv hz
      split at h
      · rename_i hs
        obtain ⟨h1, h2, h3⟩ := pvOf_sound (A := A) (w := w) h
        refine ⟨i, v, hi, hz, by rw [h3, hs]; rfl, h1, ?_⟩
        rw [(h1.cells_of_one h2).2, hs]; rfl
      · cases h
    · cases h
  · cases h

theorem flat_replicate_at {z : PV} {k : Nat} (hz : z.cells.length = k) (n j : Nat) (hj : j < n * k) : (flat (List.replicate n z))[j]? = z.cells[j % k]? := by
  have hk : 0 < k := by
    rcases Nat.eq_zero_or_pos k with h | h
    · subst h; simp at hj
    · exact h
  have h1 : j / k < n := (Nat.div_lt_iff_lt_mul hk).2 hj
  have h2 := flat_at (xs := List.replicate n z) (z := k) (i := j / k) (x := z) (fun x hx => by rw [List.eq_of_mem_replicate hx]; exact hz) (by rw [List.getElem?_replicate, if_pos h1]) (j % k) (Nat.mod_lt _ hk)
  rwa [Nat.mul_comm, Nat.div_add_mod] at h2

theorem made_ros {A : Nat → Prop} {p : PV} {z : Value} (hr : RO A w p z) (n : Nat) : ROs A w (flat (List.replicate n p)) (madeCells z.cells (n * p.cells.length)).toList := by
  have hc := hr.cellsROs
  have hl : (flat (List.replicate n p)).length = n * p.cells.length := by rw [flat_length (z := p.cells.length) (fun x hx => by rw [List.eq_of_mem_replicate hx])]; simp
  have hzs : z.cells.size = p.cells.length := by simpa using hc.1
  refine ⟨by simp [size_madeCells, hl], fun c hc' => ?_, fun i c v h1 h2 => ?_⟩
  · obtain ⟨j, hj, he⟩ := List.mem_iff_getElem.1 hc'
    have h1 : (flat (List.replicate n p))[j]? = some c := by rw [← he]; exact List.getElem?_eq_getElem hj
    rw [flat_replicate_at rfl n j (by omega)] at h1
    exact hc.2.1 c (List.mem_of_getElem? h1)
  · have hi : i < n * p.cells.length := by rw [← hl]; exact (List.getElem?_eq_some_iff.1 h1).1
    have hk : 0 < p.cells.length := by
      rcases Nat.eq_zero_or_pos p.cells.length with h | h
      · rw [h] at hi; simp at hi
      · exact h
    rw [flat_replicate_at rfl n i hi] at h1
    have hm : i % z.cells.size < z.cells.size := Nat.mod_lt _ (by omega)
    have e : (madeCells z.cells (n * p.cells.length)).toList[i]? = z.cells.toList[i % p.cells.length]? := by
      rw [Array.getElem?_toList, Array.getElem?_toList, ← hzs, madeCells, Array.getElem?_map, Array.getElem?_range, if_pos (by rw [hzs]; exact hi)]
      simp only [Option.map_some]
      rw [getElem!_pos z.cells _ hm, Array.getElem?_eq_getElem hm]
    rw [e] at h2
    exact hc.2.2 _ c v h1 h2

theorem Grow.alloc (w : World) (o : Obj) : Grow (fun _ => False) w (w.alloc o) := ⟨rfl, rfl, rfl, by simp, fun b hb _ => heap_alloc_old w o hb⟩

/-- A new list. -/
theorem Rel.newRow (h : Rel P O0 w0 F s E tmps w) {e : TypeId} {xs : List PV} {vs : Array Value} (d : Nat) (hr : ROs (fun b => E.om b ∨ F b) w (flat xs) vs.toList) (hz : ∀ x ∈ xs, x.cells.length = P.cellsOf e) (c : Nat) (hc : xs.length ≤ c) (hm : c ≤ maxLen)
    (zs : Array Value) (hzs : zs.size = (c - xs.length) * P.cellsOf e) :
    ∃ E', Rel P O0 w0 F (put d (.own e xs) s) E' (tmps.setIfInBounds d (.slice (some ⟨w.heap.size, 0, none⟩) xs.length c)) (w.alloc (.cells (vs ++ zs) e)) := by
  have hvs : vs.size = xs.length * P.cellsOf e := by
    have := hr.1
    rw [flat_length hz] at this
    simpa using this
  have hsz : (w.alloc (.cells (vs ++ zs) e)).heap.size = w.heap.size + 1 := by simp
  refine h.newOwn (Grow.alloc w _) (by simp) d ⟨vs.toList, ⟨by simpa using hvs, .inr ⟨w.heap.size, c, _, rfl, Nat.zero_le _, heap_alloc_new w _, hc, hm, ?_, ?_⟩⟩, ?_, hz, Nat.le_trans hc hm⟩ (fun b hb => ?_)
  · rw [Array.size_append, hvs, hzs, ← Nat.add_mul]; congr 1; omega
  · rw [Array.toList_append, ← hvs]; exact List.take_left' (by simp)
  · refine hr.mono (fun b hb hn => ⟨?_, heap_alloc_old w _ hb⟩)
    rintro ((h3 | h3) | h3)
    · exact hn (.inl h3)
    · omega
    · exact hn (.inr h3)
  · simp [Value.ownBlock] at hb
    subst hb
    exact .inr ⟨Nat.le_refl _, by rw [hsz]; omega⟩
end
end Go.Ck

set_option linter.unusedVariables false
namespace Go.Ck
open Go.RowKit
section
variable {P : Program} {O0 : Base} {F : Nat → Prop} {w0 w : World} {s : St} {E : Env} {tmps : Array Value}

def Env.dropOm (E : Env) (D : Nat → Prop) : Env := { E with om := fun b => E.om b ∧ ¬ D b }

/-- Blocks that nothing lies in are no longer ours. -/
theorem Rel.dropOm (h : Rel P O0 w0 F s E tmps w) (D : Nat → Prop) (hD : ∀ b, D b → Unused s E b) : Rel P O0 w0 F s (E.dropOm D) tmps w := by
  have hA : ∀ b, b < w.heap.size → ¬ (E.om b ∨ F b) → ¬ ((E.dropOm D).om b ∨ F b) ∧ w.heap[b]? = w.heap[b]? :=
    fun b _ hn => ⟨fun h2 => hn (h2.imp (fun h3 => h3.1) id), rfl⟩
  refine { place := ?_, obj := ?_, size := h.size, i1 := h.i1, i2 := h.i2, i3 := h.i3, om_lt := fun b hb => h.om_lt b hb.1, om0 := fun b hb => h.om0 b hb.1, na := h.na, np := h.np, gr := h.gr, flt := h.flt, ob := h.ob }
  · intro p v hp
    obtain ⟨x, hx, hv⟩ := h.place p v hp
    refine ⟨x, by cases p <;> exact hx, ?_⟩
    cases v <;> simp only [PVal] at hv ⊢
    case own e xs =>
      obtain ⟨h1, h2, h3⟩ := hv
      exact ⟨h1, h2.kept hA (fun b _ => rfl), fun b hb => ⟨h3 b hb, fun hd => (hD b hd).2 p e xs hp hb⟩⟩
    case tup vs => exact hv
    all_goals exact RS.env (E := E) rfl rfl (hv.grow hA)
  · intro o y hl
    obtain ⟨h1, h2⟩ := h.obj o y hl
    refine ⟨⟨h1, fun hd => (hD _ hd).1 o y hl rfl⟩, ?_⟩
    cases y with
    | cells e cs => exact h2
    | mp es =>
      obtain ⟨ms, c, h3, h4, h5⟩ := h2
      exact ⟨ms, c, h3, h4, fun i kv m hk hm => ⟨(h5 i kv m hk hm).1.mono hA, (h5 i kv m hk hm).2.mono hA⟩⟩

theorem del_at {p : Place} {u : SV} (hp : s.at p = some u) (hu : u.isTup = false) (ho : ∃ e xs, u = .own e xs) : (del p s).at p = some .dead := by
  obtain ⟨e, xs, rfl⟩ := ho
  exact setAt_same (kill_own p s hp)

theorem Rel.free_del (h : Rel P O0 w0 F s E tmps w) {p : Place} {e : TypeId} {xs : List PV} (hp : s.at p = some (.own e xs)) : Free p (del p s) := by
  obtain ⟨_, _, _, h4⟩ := h.take hp
  exact h4.free_of (fun e' xs' he => by rw [del_at hp rfl ⟨e, xs, rfl⟩] at he; cases he)

theorem OwnL.toRO {A : Nat → Prop} {e : TypeId} {x : Value} {xs : List PV} (h : OwnL P A w e x xs) (hb : ∀ b, x.ownBlock = some b → ¬ A b) : RO A w (.sl (P.cellsOf e) xs) x := by
  obtain ⟨cs, h1, h2, h3, h4⟩ := h
  rcases h1.2 with ⟨rfl, h0⟩ | ⟨g, cap, cur, rfl, _, hg, hle, _⟩
  · have : xs = [] := List.eq_nil_of_length_eq_zero h0
    subst this
    exact RO.mkSl (vs := []) (ROs.nil _ _) (by simp) (by simp) (by simp) (by simp)
  · exact RO.mkSl h2 (fun i v hv => ⟨_, rfl, hb g rfl, h1.cells (g := g) rfl i v hv⟩) h3 h4 hle

theorem RO.sub {A A' : Nat → Prop} (h : ∀ b, ¬ A b → ¬ A' b) {p : PV} {x : Value} (hr : RO A w p x) : RO A' w p x := hr.mono (fun b _ hn => ⟨h b hn, rfl⟩)
theorem ROs.sub {A A' : Nat → Prop} (h : ∀ b, ¬ A b → ¬ A' b) {ps : List PV} {xs : List Value} (hr : ROs A w ps xs) : ROs A' w ps xs := hr.mono (fun b _ hn => ⟨h b hn, rfl⟩)

theorem thaw_sound {A : Nat → Prop} {cs : List SV} {vs : List Value} {ps : List PV} (hl : vs.length = cs.length) (h : ∀ (i : Nat) (c : SV) (v : Value), cs[i]? = some c → vs[i]? = some v → RS P A E w c v) (ht : thaw cs = some ps) : ROs A w ps vs := by
  induction cs generalizing vs ps with
  | nil => cases ht; rw [List.eq_nil_of_length_eq_zero hl]; exact ROs.nil _ _
  | cons c r ih =>
    cases vs with
    | nil => simp at hl
    | cons v vs =>
      have h0 := h 0 c v rfl rfl
      have hr : ∀ (i : Nat) (c : SV) (v : Value), r[i]? = some c → vs[i]? = some v → RS P A E w c v := fun i c' v' hc hv => h (i + 1) c' v' (by simpa using hc) (by simpa using hv)
      have key : ∀ {p ps}, RO A w p v → p.one = true → ROs A w ps vs → ROs A w (p :: ps) (v :: vs) := by
        intro p ps hp h1 hk
        refine ⟨by simp [hk.1], fun c hc => ?_, fun i c' v' hc hv => ?_⟩
        · rcases List.mem_cons.1 hc with rfl | hc
          · exact h1
          · exact hk.2.1 c hc
        · cases i with
          | zero => simp at hc hv; subst hc; subst hv; exact hp
          | succ i => exact hk.2.2 i c' v' (by simpa using hc) (by simpa using hv)
      cases c <;> try (simp [thaw] at ht; done)
      case pv p =>
        simp only [thaw] at ht
        split at ht
        · rename_i h1
          split at ht <;> cases ht
          rename_i ps' hps
          cases h0 with | pv _ _ h0 => exact key h0 h1 (ih (by simpa using hl) hr hps)
        · cases ht
      case nils =>
        simp only [thaw] at ht
        split at ht <;> cases ht
        rename_i ps' hps
        cases h0
        exact key (RO.mkSl (vs := []) (ROs.nil _ _) (by simp) (by simp) (by simp) (by simp)) rfl (ih (by simpa using hl) hr hps)

/-- A value that is put into another one. -/
theorem freeze_sound (h : Rel P O0 w0 F s E tmps w) {v : SV} {x : Value} {p : PV} {s' : St} (hf : freeze P s v = some (p, s')) (hr : RS P (fun b => E.om b ∨ F b) E w v x) :
    ∃ E', (∀ b, E'.om b → E.om b) ∧ Rel P O0 w0 F s' E' tmps w ∧ RO (fun b => E'.om b ∨ F b) w p x := by
  unfold freeze at hf
  split at hf
  · cases hf
    cases hr with | pv _ _ hr => exact ⟨E, fun _ hb => hb, h, hr⟩
  · cases hf
    cases hr
    exact ⟨E, fun _ hb => hb, h, RO.mkSl (vs := []) (ROs.nil _ _) (by simp) (by simp) (by simp) (by simp)⟩
  · rename_i cs
    unfold freezeA at hf
    split at hf
    · rename_i ps hps
      cases hf
      refine ⟨E, fun _ hb => hb, h, ?_⟩
      cases hr with | agg _ vs hl h1 h2 => ?_
      obtain ⟨k1, k2, k3⟩ := thaw_sound hl h2 hps
      exact .agg _ _ (by simpa using k1) k2 (fun i c v hc hv => k3 i c v hc (by simpa using hv))
    · cases hf
  · rename_i q
    unfold freezeO at hf
    split at hf
    · rename_i e xs hp
      cases hf
      cases hr
      obtain ⟨h1, h2, h3, h4⟩ := h.take hp
      have h5 := h4.dropOm (fun b => (E.hdr q).ownBlock = some b) (fun b hb => (h3 b hb).2)
      have hsub : ∀ b, ¬ (E.om b ∨ F b) → ¬ ((E.dropOm fun b => (E.hdr q).ownBlock = some b).om b ∨ F b) := fun b hn h6 => hn (h6.imp (fun h7 => h7.1) id)
      have hro : RO (fun b => (E.dropOm fun b => (E.hdr q).ownBlock = some b).om b ∨ F b) w (.sl (P.cellsOf e) xs) (E.hdr q) := by
        refine OwnL.toRO (h2.kept (fun b _ hn => ⟨hsub b hn, rfl⟩) (fun _ _ => rfl)) (fun b hb => ?_)
        rintro (h6 | h6)
        · exact h6.2 hb
        · exact (h.om_lt b (h3 b hb).1).2 h6
      refine ⟨(E.dropOm fun b => (E.hdr q).ownBlock = some b).setHdr q (E.hdr q), fun b hb => hb.1, h5.recast (v := .pv (.sl (P.cellsOf e) xs)) (y := E.hdr q) (x := E.hdr q) (del_at hp rfl ⟨e, xs, rfl⟩) rfl rfl (h.free_del hp) rfl (by cases q <;> exact h1) (.inr rfl) ?_ (by simp [SV.on]) (by rintro ⟨_, _, h2⟩; cases h2) (by simp [SV.pts]), hro⟩
      exact RS.pv _ _ hro
    · cases hf
  · cases hf

theorem foldl_zipIdx (off : Nat) : ∀ (l : List Value) (k : Nat) (cells : Array Value), off + k + l.length ≤ cells.size →
    ((l.zipIdx k).foldl (fun (cs : Array Value) (x : Value × Nat) => cs.setIfInBounds (off + x.2) x.1) cells).toList = cells.toList.take (off + k) ++ l ++ cells.toList.drop (off + k + l.length)
  | [], k, cells, h => by simp
  | v :: r, k, cells, h => by
    simp only [List.length_cons] at h
    rw [List.zipIdx_cons, List.foldl_cons, foldl_zipIdx off r (k + 1) _ (by simp; omega)]
    simp only [Array.toList_setIfInBounds, List.length_cons]
    have hlt : off + k < cells.toList.length := by simp; omega
    rw [List.drop_set_of_lt (by omega), show off + (k + 1) = (off + k) + 1 by omega, List.take_add_one, List.take_set_of_le (Nat.le_refl _)]
    simp [hlt, show off + k + 1 + r.length = off + k + (r.length + 1) by omega]
    rw [List.getElem?_set_self hlt]; rfl
end
end Go.Ck

set_option linter.unusedVariables false
namespace Go.Ck
open Go.RowKit
section
variable {P : Program} {O0 : Base} {F : Nat → Prop} {w0 w : World} {s : St} {E : Env} {a : Act}

theorem fill_cons {place : Nat → Option (Nat × Nat)} {cells : Array Value} {i off size : Nat} {v : Value} {rest : List (Nat × Value)} (hp : place i = some (off, size)) (h1 : v.cells.size = size) (h2 : off + size ≤ cells.size) :
    ∃ cells' : Array Value, Instr.fill place cells ((i, v) :: rest) = Instr.fill place cells' rest ∧ cells'.toList = cells.toList.take off ++ v.cells.toList ++ cells.toList.drop (off + size) := by
  refine ⟨v.cells.zipIdx.foldl (fun cs (c, j) => cs.setIfInBounds (off + j) c) cells, ?_, ?_⟩
  · rw [Instr.fill]
    simp only [hp]
    rw [if_neg (by simp [h1]; omega)]
  · have := foldl_zipIdx off v.cells.toList 0 cells (by simp [h1]; omega)
    simp only [Nat.add_zero, Array.length_toList, h1] at this
    rw [← this, ← Array.foldl_toList, Array.toList_zipIdx]

theorem fillElems_sound {z : Nat} : ∀ (ps : List (Nat × Operand)) {xs : List PV} {s : St} {E : Env} {cells : Array Value} {xs' : List PV} {s' : St}, Rel P O0 w0 F s E a.tmps w → fillElems P z ps xs s = some (xs', s') →
    ROs (fun b => E.om b ∨ F b) w (flat xs) cells.toList → (∀ x ∈ xs, x.cells.length = z) →
    ∃ E' cells', Instr.fill (fun i => some (i * z, z)) cells (ps.map fun (i, x) => (i, a.eval x)) = some cells' ∧ Rel P O0 w0 F s' E' a.tmps w ∧ ROs (fun b => E'.om b ∨ F b) w (flat xs') cells'.toList ∧ (∀ x ∈ xs', x.cells.length = z) ∧ xs'.length = xs.length
  | [], xs, s, E, cells, xs', s', h, hf, hr, hz => by
    cases hf
    exact ⟨E, cells, rfl, h, hr, hz, rfl⟩
  | (i, x) :: r, xs, s, E, cells, xs', s', h, hf, hr, hz => by
    unfold fillElems at hf
    split at hf
    · rename_i v hv
      split at hf
      · rename_i p s1 hfr
        split at hf
        · rename_i hc
          obtain ⟨E1, hom, h1, hro⟩ := freeze_sound h hfr (ev_rs h hv)
          have hcs := hro.cellsROs
          have hlen : cells.size = xs.length * z := by
            have := hr.1
            rw [flat_length hz] at this
            simpa using this
          have hsub : ∀ b, ¬ (E.om b ∨ F b) → ¬ (E1.om b ∨ F b) := fun b hn h6 => hn (h6.imp (hom b) id)
          have hle : i * z + z ≤ cells.size := by
            rw [hlen, show i * z + z = (i + 1) * z by rw [Nat.add_mul, Nat.one_mul]]
            exact Nat.mul_le_mul_right _ hc.2
          obtain ⟨cells1, e1, e2⟩ := fill_cons (place := fun i => some (i * z, z)) (cells := cells) (i := i) (v := a.eval x) (rest := r.map fun (i, x) => (i, a.eval x)) rfl (by have := hcs.1; simp only [Array.length_toList] at this; rw [this, hc.1]) hle
          have hr1 : ROs (fun b => E1.om b ∨ F b) w (flat (xs.set i p)) cells1.toList := by
            rw [flat_set hz hc.2 hc.1, e2]
            exact (((hr.sub hsub).take _).append hcs).append ((hr.sub hsub).drop _)
          obtain ⟨E2, cells2, f1, f2, f3, f4, f5⟩ := fillElems_sound r h1 hf hr1 (fun y hy => by
            rcases List.mem_or_eq_of_mem_set hy with hy | rfl
            · exact hz y hy
            · exact hc.1)
          exact ⟨E2, cells2, by rw [List.map_cons]; exact e1.trans f1, f2, f3, f4, by rw [f5, List.length_set]⟩
        · cases hf
      · cases hf
    · cases hf

/-- A list literal. -/
theorem buildSlice_sound (h : Rel P O0 w0 F s E a.tmps w) {t e n : Nat} {ez eb : Nat} {ea : Bool} {ps : Array (Nat × Operand)} {z : PV} {xs' : List PV} {s' : St} (d : Nat) (hT : tk P t = .sl e ez eb ea) (hz : zeroElem P e = some z)
    (hn : n * ez ≤ 16777216) (hez : 0 < ez) (hm : n ≤ maxLen) (hf : fillElems P ez ps.toList (List.replicate n z) s = some (xs', s')) :
    ∃ v w' E', (Instr.buildSlice t n (ps.map fun (i, x) => (i, a.eval x))).run P w = .ok v w' ∧ Rel P O0 w0 F (put d (.own e xs') s') E' (a.tmps.setIfInBounds d v) w' := by
  obtain ⟨hu, hce, _⟩ := tk_sl hT
  obtain ⟨ie, zv, hie, hzv, hzs, hro, hzl⟩ := zeroElem_sound (P := P) (w := w) (A := fun b => E.om b ∨ F b) hz
  have hsz : ie.size = ez := by rw [← hce]; simp [Program.cellsOf, hie]
  have h0 := made_ros hro n
  rw [hzl] at h0
  obtain ⟨E1, cells', f1, f2, f3, f4, f5⟩ := fillElems_sound ps.toList h hf h0 (fun x hx => by rw [List.eq_of_mem_replicate hx, hzl, hsz])
  have hl : xs'.length = n := by simpa using f5
  obtain ⟨E', hE⟩ := f2.newRow (e := e) (vs := cells') d f3 (fun x hx => by rw [f4 x hx, hce]) n (by omega) hm #[] (by simp [hl])
  rw [hl] at hE
  simp only [Array.append_empty] at hE
  refine ⟨_, _, E', ?_, hE⟩
  rcases Nat.eq_zero_or_pos n with h1 | h1
  · subst h1
    rw [Nat.zero_mul] at f1
    have hx : xs' = [] := List.eq_nil_of_length_eq_zero hl
    have r0 : Array.range 0 = #[] := rfl
    simp only [madeCells, hsz, r0, Array.map_empty] at f1
    simp [Instr.buildSlice, run_underlying hu, sizeOf, typeInfo, hie, newRow, r0]
    have f1' : Instr.fill (fun i => some (i * ie.size, ie.size)) #[] (List.map (fun x => (x.fst, a.eval x.snd)) ps.toList) = some cells' := by
      rw [hsz]; simpa using f1
    rw [f1']
    simp
  · refine run_buildSlice w t e n _ cells' ie zv hu hie hzv (by rw [hsz]; omega) (by rw [hsz]; have := Nat.mul_pos h1 hez; omega) ?_
    rw [Array.toList_map, hsz]
    rw [hsz] at f1
    exact f1

/-- make([]T, n, m) -/
theorem makeSlice_sound (h : Rel P O0 w0 F s E a.tmps w) {t e : Nat} {ez eb : Nat} {ea : Bool} {z : PV} (d : Nat) {n m : Int} (hT : tk P t = .sl e ez eb ea) (hz : zeroElem P e = some z)
    (hez : 0 < ez) (h0 : 0 ≤ n) (h1 : n ≤ m) (h2 : eb * m ≤ room) (h3 : m ≤ room) :
    ∃ v w' E', (Instr.makeSlice t (.int .i64 n) (.int .i64 m)).run P w = .ok v w' ∧ Rel P O0 w0 F (put d (.own e (List.replicate n.toNat z)) s) E' (a.tmps.setIfInBounds d v) w' := by
  obtain ⟨hu, hce, hbe⟩ := tk_sl hT
  obtain ⟨ie, zv, hie, hzv, hzs, hro, hzl⟩ := zeroElem_sound (P := P) (w := w) (A := fun b => E.om b ∨ F b) hz
  have hsz : ie.size = ez := by rw [← hce]; simp [Program.cellsOf, hie]
  have hby : ie.bytes = eb := by rw [← hbe]; simp [Program.bytesOf, hie]
  have hr := run_make (P := P) w t e ie zv hu hie hzv .i64 .i64 n m h0 h1 (by rw [hby]; unfold room at h2; omega) (by unfold room at h3; omega)
  have hros := made_ros hro n.toNat
  rw [hzl, hsz] at hros
  have hmm : madeCells zv.cells (m.toNat * ez) = madeCells zv.cells (n.toNat * ez) ++ (madeCells zv.cells (m.toNat * ez)).extract (n.toNat * ez) (m.toNat * ez) := by
    have hle : n.toNat * ez ≤ m.toNat * ez := Nat.mul_le_mul_right _ (by omega)
    apply Array.ext
    · simp [size_madeCells]; omega
    · intro i hi1 hi2
      simp only [madeCells, Array.getElem_append, Array.size_map, Array.size_range, Array.getElem_map, Array.getElem_range, Array.getElem_extract]
      split
      · rfl
      · simp only [size_madeCells] at *
        congr 2
        omega
  obtain ⟨E', hE⟩ := h.newRow (e := e) (xs := List.replicate n.toNat z) (vs := madeCells zv.cells (n.toNat * ez)) d hros (fun x hx => by rw [List.eq_of_mem_replicate hx, hzl, hsz, hce]) m.toNat (by simp; omega) (by unfold room at h3; simp only [maxLen]; omega)
    ((madeCells zv.cells (m.toNat * ez)).extract (n.toNat * ez) (m.toNat * ez)) (by simp [size_madeCells, hce, Nat.sub_mul])
  refine ⟨_, _, E', hr, ?_⟩
  rw [hsz, hmm]
  simpa using hE
end
end Go.Ck

set_option linter.unusedVariables false
namespace Go.Ck
open Go.RowKit

def Env.addObj (E : Env) (o b : Nat) : Env := { E with obj := fun o' => if o' = o then b else E.obj o', om := fun k => E.om k ∨ k = b }
theorem Env.addObj_same (E : Env) (o b : Nat) : (E.addObj o b).obj o = b := by simp [Env.addObj]
theorem Env.addObj_ne (E : Env) {o o' : Nat} (b : Nat) (h : o' ≠ o) : (E.addObj o b).obj o' = E.obj o' := by simp [Env.addObj, h]

theorem allPlain_pts : ∀ {l : List SV}, allPlain l = true → ∀ c ∈ l, (∀ o, c.pts o = false) ∧ (∀ q, c.on q = false) ∧ c.easy = true ∧ oneSV c = true
  | [], _, _, h => by cases h
  | d :: r, hl, c, hc => by
    cases d <;> simp [allPlain] at hl
    · rcases List.mem_cons.1 hc with rfl | hc
      · exact ⟨fun _ => rfl, fun _ => rfl, rfl, hl.1⟩
      · exact allPlain_pts hl.2 c hc
    · rcases List.mem_cons.1 hc with rfl | hc
      · exact ⟨fun _ => rfl, fun _ => rfl, rfl, rfl⟩
      · exact allPlain_pts hl c hc

section
variable {P : Program} {O0 : Base} {F : Nat → Prop} {w0 w : World} {s : St} {E : Env} {tmps : Array Value}

theorem RS.addObj {A A' : Nat → Prop} {w w' : World} {v : SV} {y : Value} {o b : Nat} (hg : ∀ b, b < w.heap.size → ¬ A b → ¬ A' b ∧ w'.heap[b]? = w.heap[b]?) (h : RS P A E w v y) (hp : v.pts o = false) : RS P A' (E.addObj o b) w' v y := by
  induction h with
  | pv q y h => exact .pv q y (h.mono hg)
  | nils => exact .nils
  | al q => exact .al (E := E.addObj o b) q
  | vw q e off n y h => exact .vw q e off n y h
  | ptr o' off =>
    have hne : o' ≠ o := by simpa [SV.pts] using hp
    have := RS.ptr (P := P) (A := A') (E := E.addObj o b) (w := w') o' off
    rwa [Env.addObj_ne _ _ hne] at this
  | ea q e i j b' h => exact .ea q e i j b' h
  | ra c j vs ad hs h hm =>
    refine .ra c j vs ad hs (h.mono hg) (fun i v hv => ?_)
    obtain ⟨hA, hc⟩ := hm i v hv
    have hlt := World.block_lt_of_cell? w _ hc
    obtain ⟨hA', hb⟩ := hg _ hlt hA
    refine ⟨hA', ?_⟩
    rw [World.cell?_of_block (w := w) hb]
    exact hc
  | fn f caps vs hl h1 h ih =>
    refine .fn f caps vs hl h1 (fun i c v hc hv => ih i c v hc hv ?_)
    have h2 := List.all_eq_true.1 h1 c (List.mem_of_getElem? hc)
    simp only [SV.pts, List.any_eq_false] at hp
    have h3 := hp c (List.mem_of_getElem? hc)
    cases c <;> simp [SV.simple] at h2
    · rfl
    · simpa [SV.pts] using h3
  | agg cs vs hl h1 h ih => exact .agg cs vs hl h1 (fun i c v hc hv => ih i c v hc hv ((allPlain_pts h1 c (List.mem_of_getElem? hc)).1 o))
  | yl l => exact .yl l
  | mp o' =>
    have hne : o' ≠ o := by simpa [SV.pts] using hp
    have := RS.mp (P := P) (A := A') (E := E.addObj o b) (w := w') o'
    rwa [Env.addObj_ne _ _ hne] at this

def HO.list : HO → List SV
  | .cells _ cs => cs
  | .mp _ => []
theorem at_cell (s : St) (o i : Nat) : s.at (.cell o i) = match look o s.hp with | some h => h.list[i]? | none => none := by
  simp only [St.at]
  cases look o s.hp with
  | none => rfl
  | some h => cases h <;> simp [HO.list]

theorem RS.pvalEasy {A : Nat → Prop} {p : Place} {v : SV} {x : Value} (he : v.easy = true) (h : v = .dead ∨ RS P A E w v x) : PVal P A E w p v x := by
  rcases h with rfl | h
  · trivial
  · cases v <;> first | exact h | exact trivial | (simp [SV.easy] at he; done)

/-- A new object. -/
theorem Rel.newObj (h : Rel P O0 w0 F s E tmps w) {d : Nat} (hl : look d s.hp = none) (hh : HO) (ob : Obj) (hok : HOK P (fun b => (E.om b ∨ b = w.heap.size) ∨ F b) (E.addObj d w.heap.size) (w.alloc ob) d hh)
    (hc : ∀ (i : Nat) (c : SV), hh.list[i]? = some c → c.easy = true ∧ (∃ v, (w.alloc ob).cell? ⟨w.heap.size, i, none⟩ = some v ∧ (c = .dead ∨ RS P (fun b => E.om b ∨ F b) E w c v)) ∧ (∀ q, c.on q = false) ∧ ∀ o, c.pts o = true → ∃ y, look o s.hp = some y) :
    Rel P O0 w0 F ⟨s.n, s.sl, (d, hh) :: s.hp⟩ (E.addObj d w.heap.size) tmps (w.alloc ob) := by
  have hA : ∀ b, b < w.heap.size → ¬ (E.om b ∨ F b) → ¬ ((E.om b ∨ b = w.heap.size) ∨ F b) ∧ (w.alloc ob).heap[b]? = w.heap[b]? := by
    intro b hb hn
    refine ⟨?_, heap_alloc_old w ob hb⟩
    rintro ((h3 | h3) | h3)
    · exact hn (.inl h3)
    · omega
    · exact hn (.inr h3)
  have hnew : ∀ v : SV, (∀ o, v.pts o = true → ∃ y, look o s.hp = some y) → v.pts d = false := by
    intro v hv
    cases hp : v.pts d with
    | false => rfl
    | true =>
      obtain ⟨y, hy⟩ := hv d hp
      rw [hl] at hy
      cases hy
  have hat : ∀ p u, (St.mk s.n s.sl ((d, hh) :: s.hp)).at p = some u → (∃ i, p = .cell d i ∧ hh.list[i]? = some u) ∨ ((∀ i, p ≠ .cell d i) ∧ s.at p = some u) := by
    intro p u hp
    cases p with
    | slot d' => exact .inr ⟨by simp, hp⟩
    | part d' i => exact .inr ⟨by simp, hp⟩
    | cell o i =>
      rw [at_cell] at hp
      simp only [look] at hp
      split at hp
      · rename_i h' he
        split at he
        · rename_i e; subst e; cases he; exact .inl ⟨i, rfl, hp⟩
        · rename_i e; exact .inr ⟨by simpa using fun h => absurd h.symm e, by rw [at_cell, he]; exact hp⟩
      · cases hp
  have hlk : ∀ o y, look o ((d, hh) :: s.hp) = some y → (o = d ∧ y = hh) ∨ (o ≠ d ∧ look o s.hp = some y) := by
    intro o y hy
    simp only [look] at hy
    split at hy
    · rename_i e; subst e; cases hy; exact .inl ⟨rfl, rfl⟩
    · rename_i e; exact .inr ⟨fun h => e h.symm, hy⟩
  have hlk' : ∀ o y, look o s.hp = some y → look o ((d, hh) :: s.hp) = some y := by
    intro o y hy
    simp only [look]
    rw [if_neg (by rintro rfl; rw [hl] at hy; cases hy)]
    exact hy
  have hkeep : ∀ p u, s.at p = some u → (St.mk s.n s.sl ((d, hh) :: s.hp)).at p = some u := by
    intro p u hp
    cases p with
    | slot d' => exact hp
    | part d' i => exact hp
    | cell o i =>
      rw [at_cell] at hp ⊢
      split at hp
      · rename_i h' he
        rw [show look o (St.mk s.n s.sl ((d, hh) :: s.hp)).hp = some h' from hlk' o h' he]
        exact hp
      · cases hp
  have hsz : (w.alloc ob).heap.size = w.heap.size + 1 := by simp
  refine { place := ?_, obj := ?_, size := h.size, i1 := ?_, i2 := ?_, i3 := ?_, om_lt := ?_, om0 := ?_, na := ?_, np := ?_, gr := ?_, flt := h.flt, ob := ?_ }
  · intro p v hp
    rcases hat p v hp with ⟨i, rfl, hi⟩ | ⟨hne, hp'⟩
    · obtain ⟨h1, ⟨x, h2, h3⟩, h4, h5⟩ := hc i v hi
      refine ⟨x, by simp only [CV, Env.addObj_same]; exact h2, RS.pvalEasy h1 (h3.imp id fun h6 => h6.addObj hA (hnew v h5))⟩
    · obtain ⟨x, hx, hv⟩ := h.place p v hp'
      refine ⟨x, ?_, ?_⟩
      · cases p with
        | slot d' => exact hx
        | part d' i => exact hx
        | cell o i =>
          have hod : o ≠ d := by rintro rfl; exact hne i rfl
          simp only [CV, Env.addObj_ne _ _ hod] at hx ⊢
          have hlt := World.block_lt_of_cell? w _ hx
          exact (World.cell?_of_block (w := w) (a := ⟨E.obj o, i, none⟩) (heap_alloc_old w ob hlt)).trans hx
      · cases v <;> simp only [PVal] at hv ⊢
        case own e xs =>
          obtain ⟨h1, h2, h3⟩ := hv
          exact ⟨h1, h2.kept hA (fun b hb => heap_alloc_old w ob (h.om_lt b (h3 b hb)).1), fun b hb => .inl (h3 b hb)⟩
        case tup vs => exact hv
        all_goals exact hv.addObj hA (hnew _ (fun o ho => h.np p _ o hp' ho))
  · intro o y hy
    rcases hlk o y hy with ⟨rfl, rfl⟩ | ⟨hne, hy'⟩
    · refine ⟨.inr (Env.addObj_same _ _ _), hok⟩
    · obtain ⟨h1, h2⟩ := h.obj o y hy'
      refine ⟨?_, ?_⟩
      · rw [Env.addObj_ne _ _ hne]; exact .inl h1
      · have hb := heap_alloc_old w ob (h.om_lt _ h1).1
        cases y with
        | cells e cs =>
          obtain ⟨vs, h3, h4⟩ := h2
          exact ⟨vs, by rw [Env.addObj_ne _ _ hne]; exact hb.trans h3, h4⟩
        | mp es =>
          obtain ⟨ms, c, h3, h4, h5⟩ := h2
          exact ⟨ms, c, by rw [Env.addObj_ne _ _ hne]; exact hb.trans h3, h4, fun i kv m hk hm => ⟨(h5 i kv m hk hm).1.mono hA, (h5 i kv m hk hm).2.mono hA⟩⟩
  · intro o o' y y' hy hy' he
    rcases hlk o y hy with ⟨rfl, rfl⟩ | ⟨hne, h1⟩
    · rcases hlk o' y' hy' with ⟨rfl, _⟩ | ⟨hne', h2⟩
      · rfl
      · rw [Env.addObj_same, Env.addObj_ne _ _ hne'] at he
        have := (h.om_lt _ (h.obj o' y' h2).1).1
        omega
    · rcases hlk o' y' hy' with ⟨rfl, _⟩ | ⟨hne', h2⟩
      · rw [Env.addObj_same, Env.addObj_ne _ _ hne] at he
        have := (h.om_lt _ (h.obj o y h1).1).1
        omega
      · rw [Env.addObj_ne _ _ hne, Env.addObj_ne _ _ hne'] at he
        exact h.i1 o o' y y' h1 h2 he
  · intro p q e xs e' ys b hp hq hpb hqb
    rcases hat p _ hp with ⟨i, rfl, hi⟩ | ⟨_, hp'⟩
    · have := (hc i _ hi).1; simp [SV.easy] at this
    · rcases hat q _ hq with ⟨i, rfl, hi⟩ | ⟨_, hq'⟩
      · have := (hc i _ hi).1; simp [SV.easy] at this
      · exact h.i2 p q e xs e' ys b hp' hq' hpb hqb
  · intro p e xs o y b hp hy hpb
    rcases hat p _ hp with ⟨i, rfl, hi⟩ | ⟨_, hp'⟩
    · have := (hc i _ hi).1; simp [SV.easy] at this
    · rcases hlk o y hy with ⟨rfl, rfl⟩ | ⟨hne, h1⟩
      · rw [Env.addObj_same]
        obtain ⟨_, _, _, _, h3⟩ := h.place p _ hp'
        have := (h.om_lt b (h3 b hpb)).1
        omega
      · rw [Env.addObj_ne _ _ hne]
        exact h.i3 p e xs o y b hp' h1 hpb
  · rintro b (hb | hb)
    · have := h.om_lt b hb
      exact ⟨by rw [hsz]; omega, this.2⟩
    · subst hb
      exact ⟨by rw [hsz]; omega, fun hf => by have h1 := h.flt _ hf; have h2 := h.gr.size; omega⟩
  · rintro b (hb | hb)
    · exact h.om0 b hb
    · subst hb; exact .inr h.gr.size
  · intro p v q hp hq
    rcases hat p _ hp with ⟨i, rfl, hi⟩ | ⟨_, hp'⟩
    · rw [(hc i v hi).2.2.1 q] at hq; cases hq
    · obtain ⟨h1, ⟨e, xs, h2⟩, h3⟩ := h.na p v q hp' hq
      exact ⟨h1, ⟨e, xs, hkeep q _ h2⟩, h3⟩
  · intro p v o hp ho
    rcases hat p _ hp with ⟨i, rfl, hi⟩ | ⟨_, hp'⟩
    · obtain ⟨y, hy⟩ := (hc i v hi).2.2.2 o ho
      exact ⟨y, hlk' o y hy⟩
    · obtain ⟨y, hy⟩ := h.np p v o hp' ho
      exact ⟨y, hlk' o y hy⟩
  · exact h.gr.trans (Grow.alloc w ob) (by simp)
  · intro o k hok
    obtain ⟨h1, y, hy⟩ := h.ob o k hok
    have hne : o ≠ d := by rintro rfl; rw [hl] at hy; cases hy
    exact ⟨by rw [Env.addObj_ne _ _ hne]; exact h1, y, hlk' o y hy⟩
end
end Go.Ck

set_option linter.unusedVariables false
namespace Go.Ck
open Go.RowKit
section
variable {P : Program} {O0 : Base} {F : Nat → Prop} {w0 w : World} {s : St} {E : Env} {tmps : Array Value}

theorem del_own {p q : Place} {e e' : TypeId} {xs ys : List PV} {u : SV} (hp : s.at p = some u) (hu : u.isTup = false) (h : (del p s).at q = some (.own e' ys)) (hpk : ∃ u', (kill p s).at p = some u' ∧ u'.isTup = false) : q ≠ p ∧ s.at q = some (.own e' ys) := by
  obtain ⟨u', h1, h2⟩ := hpk
  unfold del at h
  rcases setAt_inv h1 h2 rfl h with ⟨_, h3⟩ | ⟨hne, h3⟩ | ⟨_, _, _, _, _, _, h3⟩
  · cases h3
  · exact ⟨hne, kill_own' p s h3⟩
  · cases h3

/-- The own list at p goes to q, where its header lies already. -/
theorem transfer_sound (h : Rel P O0 w0 F s E tmps w) {p q : Place} {e : TypeId} {xs : List PV} {u : SV} (hp : s.at p = some (.own e xs)) (hq : s.at q = some u) (hu : u = .dead) (hne : q ≠ p) (hcv : CV E tmps w q (E.hdr p)) (hqp : ∀ d i, q ≠ .part d i) :
    ∃ E', Rel P O0 w0 F (transfer p q e xs s) E' tmps w := by
  subst hu
  obtain ⟨h1, h2, h3, h4⟩ := h.take hp
  have hdq : (del p s).at q = some .dead := by
    unfold del
    refine setAt_keep (u := .own e xs) (kill_own p s hp) rfl ?_ hne rfl
    cases q with
    | slot d => simp only [St.at, Ck.kill, look_killL] at hq ⊢; simp [hq, SV.on]
    | part d i => exact absurd rfl (hqp d i)
    | cell o i => exact hq
  have hkq : (Ck.kill q (del p s)).at q = some .dead := by
    cases q with
    | slot d => simp only [St.at, Ck.kill, look_killL] at hdq ⊢; simp [hdq, SV.on]
    | part d i => exact absurd rfl (hqp d i)
    | cell o i => exact hdq
  have h5 := h4.kill q
  have h6 := h5.recast (v := .own e xs) (y := E.hdr p) (x := E.hdr p) hkq rfl rfl (h4.free_kill q) rfl (by cases q <;> exact hcv) (.inr rfl)
    (by simp only [PVal, Env.setHdr_same]; exact ⟨trivial, h2, fun b hb => (h3 b hb).1⟩) (by simp [SV.on])
    (fun _ b hb => ⟨(h3 b hb).1, fun o y hl => (h3 b hb).2.1 o y hl, fun r e' ys hr hrs => (h3 b hb).2.2 r e' ys (kill_own' q _ hrs)⟩) (by simp [SV.pts])
  unfold transfer
  simp only
  cases p with
  | part d i => exact ⟨_, h6⟩
  | cell o i => exact ⟨_, h6⟩
  | slot d =>
    simp only
    have hq6 : (setAt q (.own e xs) (Ck.kill q (del (.slot d) s))).at q = some (.own e xs) := setAt_same hkq
    have hdd : d < s.n := by
      rw [h.size]
      exact (Array.getElem?_eq_some_iff.1 h1).1
    have hn : (setAt q (.own e xs) (Ck.kill q (del (.slot d) s))).n = s.n := by
      rw [setAt_n]; show (del (.slot d) s).n = s.n; unfold del; rw [setAt_n]; rfl
    have hds : ∀ e' ys, (setAt q (.own e xs) (Ck.kill q (del (.slot d) s))).at (.slot d) ≠ some (.own e' ys) := by
      intro e' ys he
      rcases setAt_inv hkq rfl rfl he with ⟨h7, _⟩ | ⟨_, h7⟩ | ⟨_, _, _, _, _, _, h7⟩
      · exact hne h7.symm
      · have h8 := kill_own' q _ h7
        rw [del_at hp rfl ⟨e, xs, rfl⟩] at h8
        cases h8
      · cases h7
    have hx : tmps[d]? = some (E.hdr (.slot d)) := h1
    have hsame : tmps.setIfInBounds d (E.hdr (.slot d)) = tmps := by
      apply Array.ext_getElem?
      intro i
      rw [Array.getElem?_setIfInBounds]
      split
      · rename_i e; subst e
        split
        · exact hx.symm
        · rw [Array.getElem?_eq_none (by omega)]
      · rfl
    have hrs : RS P (fun b => (E.setHdr q (E.hdr (.slot d))).om b ∨ F b) (E.setHdr q (E.hdr (.slot d))) w (.al q) (E.hdr (.slot d)) := by
      have := RS.al (P := P) (A := fun b => (E.setHdr q (E.hdr (.slot d))).om b ∨ F b) (E := E.setHdr q (E.hdr (.slot d))) (w := w) q
      rwa [Env.setHdr_same] at this
    have h9 := h6.easySlot (d := d) (v := .al q) (x := E.hdr (.slot d)) (by rw [hn]; exact hdd) (h6.free_of hds) rfl (.inr hrs)
      (fun r hr => by
        have : q = r := by simpa [SV.on] using hr
        subst this
        exact ⟨hne, ⟨e, xs, hq6⟩, hqp⟩) (by simp [SV.pts])
    rw [hsame] at h9
    exact ⟨_, h9⟩
end
end Go.Ck

set_option linter.unusedVariables false
namespace Go.Ck
open Go.RowKit
section
variable {P : Program} {O0 : Base} {F : Nat → Prop} {w0 w : World} {s : St} {E : Env} {tmps : Array Value}

theorem RS.congr {A : Nat → Prop} {E' : Env} {v : SV} {y : Value} (ho : E'.obj = E.obj) (h : RS P A E w v y) (hh : ∀ q, v.on q = true → E'.hdr q = E.hdr q) : RS P A E' w v y := by
  induction h with
  | pv q y h => exact .pv q y h
  | nils => exact .nils
  | al q => rw [← hh q (by simp [SV.on])]; exact .al q
  | vw q e off n y h => exact .vw q e off n y (by rw [hh q (by simp [SV.on])]; exact h)
  | ptr o off => rw [← ho]; exact .ptr o off
  | ea q e i j b h => exact .ea q e i j b (by rw [hh q (by simp [SV.on])]; exact h)
  | ra c j vs ad hs h hm => exact .ra c j vs ad hs h hm
  | fn f caps vs hl h1 h ih =>
    refine .fn f caps vs hl h1 (fun i c v hc hv => ih i c v hc hv (fun q hq => ?_))
    have h2 := List.all_eq_true.1 h1 c (List.mem_of_getElem? hc)
    cases c <;> simp [SV.simple] at h2 <;> simp [SV.on] at hq
  | agg cs vs hl h1 h ih =>
    refine .agg cs vs hl h1 (fun i c v hc hv => ih i c v hc hv (fun q hq => ?_))
    rw [(allPlain_pts h1 c (List.mem_of_getElem? hc)).2.1 q] at hq; cases hq
  | mp o => rw [← ho]; exact .mp o
  | yl l => exact .yl l

theorem PVal.congr {A : Nat → Prop} {E' : Env} {p : Place} {v : SV} {y : Value} (ho : E'.obj = E.obj) (hom : E'.om = E.om) (h : PVal P A E w p v y) (hh : ∀ q, v.on q = true → E'.hdr q = E.hdr q) (hp : E'.hdr p = E.hdr p) : PVal P A E' w p v y := by
  cases v <;> simp only [PVal] at h ⊢
  case own e xs => rw [hp, hom]; exact h
  case tup vs => exact h
  all_goals exact h.congr ho hh

/-- A tuple goes from one slot to another. -/
theorem Rel.moveTup (h : Rel P O0 w0 F s E tmps w) {t d : Nat} {vs : List SV} {x : Value} (hl : look t s.sl = some (.tup vs)) (hne : t ≠ d) (hd : d < s.n) (hf : Free (.slot d) s) (hx : tmps[t]? = some x) :
    ∃ E', Rel P O0 w0 F (setSlot d (.tup vs) (setSlot t .dead s)) E' (tmps.setIfInBounds d x) w := by
  have hsz : d < tmps.size := by rw [← h.size]; exact hd
  let H : Place → Value := fun q => match q with | .part d' i => if d' = d then E.hdr (.part t i) else E.hdr q | q => E.hdr q
  have hHs : ∀ d', H (.slot d') = E.hdr (.slot d') := fun _ => rfl
  have hHp : ∀ i, H (.part d i) = E.hdr (.part t i) := fun i => by simp [H]
  have hHq : ∀ d' i, d' ≠ d → H (.part d' i) = E.hdr (.part d' i) := fun d' i hn => by simp [H, hn]
  have hHc : ∀ o i, H (.cell o i) = E.hdr (.cell o i) := fun _ _ => rfl
  have hHn : ∀ q, (∀ i j, q ≠ .part i j) → H q = E.hdr q := by
    intro q hq
    cases q with
    | slot d' => rfl
    | part d' i => exact absurd rfl (hq d' i)
    | cell o i => rfl
  have hat : ∀ p u, (setSlot d (.tup vs) (setSlot t .dead s)).at p = some u → (p = .slot d ∧ u = .tup vs) ∨ (p = .slot t ∧ u = .dead) ∨ (∃ i, p = .part d i ∧ vs[i]? = some u) ∨ (p ≠ .slot d ∧ p ≠ .slot t ∧ (∀ i, p ≠ .part d i) ∧ (∀ i, p ≠ .part t i) ∧ s.at p = some u) := by
    intro p u hp
    rw [at_setSlot] at hp
    cases p with
    | slot d' =>
      simp only at hp
      split at hp
      · rename_i e; subst e; simp at hp; exact .inl ⟨rfl, hp.symm⟩
      · rename_i e
        rw [at_setSlot] at hp
        simp only at hp
        split at hp
        · rename_i e'; subst e'; simp at hp; exact .inr (.inl ⟨rfl, hp.symm⟩)
        · rename_i e'; exact .inr (.inr (.inr ⟨by simpa using fun h => e h.symm, by simpa using fun h => e' h.symm, by simp, by simp, hp⟩))
    | part d' i =>
      simp only at hp
      split at hp
      · rename_i e; subst e; exact .inr (.inr (.inl ⟨i, rfl, hp⟩))
      · rename_i e
        rw [at_setSlot] at hp
        simp only at hp
        split at hp
        · cases hp
        · rename_i e'; exact .inr (.inr (.inr ⟨by simp, by simp, fun i => by simpa using fun h => absurd h.symm e, fun i => by simpa using fun h => absurd h.symm e', hp⟩))
    | cell o i =>
      rw [at_setSlot] at hp
      exact .inr (.inr (.inr ⟨by simp, by simp, by simp, by simp, hp⟩))
  have hpt : ∀ {i u}, vs[i]? = some u → s.at (.part t i) = some u := by
    intro i u hu; simp [St.at, hl, hu]
  have hkeep : ∀ q e xs, q ≠ .slot d → (∀ i j, q ≠ .part i j) → s.at q = some (.own e xs) → (setSlot d (.tup vs) (setSlot t .dead s)).at q = some (.own e xs) := by
    intro q e xs h1 h2 h3
    rw [at_setSlot]
    cases q with
    | slot d' =>
      simp only
      rw [if_neg (by rintro rfl; exact h1 rfl), at_setSlot]
      simp only
      split
      · rename_i e'; subst e'
        simp only [St.at] at h3
        rw [hl] at h3; cases h3
      · exact h3
    | part d' i => exact absurd rfl (h2 d' i)
    | cell o i => simp only; rw [at_setSlot]; exact h3
  have hown : ∀ p e xs, (setSlot d (.tup vs) (setSlot t .dead s)).at p = some (.own e xs) → ∃ p', s.at p' = some (.own e xs) ∧ H p = E.hdr p' ∧ ((p = p' ∧ (∀ i, p ≠ .part d i) ∧ ∀ i, p ≠ .part t i) ∨ ∃ i, p = .part d i ∧ p' = .part t i) := by
    intro p e xs hp
    rcases hat p _ hp with ⟨_, h1⟩ | ⟨_, h1⟩ | ⟨i, rfl, h1⟩ | ⟨h1, h2, h3, h4, h5⟩
    · cases h1
    · cases h1
    · exact ⟨_, hpt h1, hHp i, .inr ⟨i, rfl, rfl⟩⟩
    · refine ⟨p, h5, ?_, .inl ⟨rfl, h3, h4⟩⟩
      cases p with
      | slot d' => rfl
      | part d' i => exact hHq d' i (by rintro rfl; exact h3 i rfl)
      | cell o i => rfl
  refine ⟨{ E with hdr := H }, { place := ?_, obj := ?_, size := by simp [Ck.setSlot, h.size], i1 := h.i1, i2 := ?_, i3 := ?_, om_lt := h.om_lt, om0 := h.om0, na := ?_, np := ?_, gr := h.gr, flt := h.flt, ob := h.ob }⟩
  · intro p v hp
    rcases hat p v hp with ⟨rfl, rfl⟩ | ⟨rfl, rfl⟩ | ⟨i, rfl, h1⟩ | ⟨h1, h2, h3, h4, h5⟩
    · obtain ⟨x', hx', hv⟩ := h.place (.slot t) _ hl
      refine ⟨x, by simp [CV, hsz], ?_⟩
      have : x' = x := by simp only [CV] at hx'; rw [hx] at hx'; exact (Option.some.inj hx').symm
      subst this
      exact hv
    · obtain ⟨x', hx', hv⟩ := h.place (.slot t) _ hl
      exact ⟨x', by simp only [CV] at hx' ⊢; rw [Array.getElem?_setIfInBounds_ne (Ne.symm hne)]; exact hx', trivial⟩
    · obtain ⟨x', hx', hv⟩ := h.place _ _ (hpt h1)
      refine ⟨x', ?_, ?_⟩
      · simp only [CV] at hx' ⊢
        obtain ⟨us, h6, h7⟩ := hx'
        rw [hx] at h6
        cases h6
        exact ⟨us, by simp [hsz], h7⟩
      · have hon : ∀ q, v.on q = true → H q = E.hdr q := fun q hq => hHn q (h.na _ v q (hpt h1) hq).2.2
        cases v <;> simp only [PVal] at hv ⊢
        case own e xs => rw [hHp]; exact hv
        case tup us => exact hv
        all_goals exact RS.congr (E := E) rfl hv hon
    · obtain ⟨x', hx', hv⟩ := h.place p v h5
      refine ⟨x', ?_, ?_⟩
      · cases p with
        | slot d' => simp only [CV] at hx' ⊢; rw [Array.getElem?_setIfInBounds_ne (by rintro rfl; exact h1 rfl)]; exact hx'
        | part d' i =>
          simp only [CV] at hx' ⊢
          obtain ⟨us, h6, h7⟩ := hx'
          exact ⟨us, by rw [Array.getElem?_setIfInBounds_ne (by rintro rfl; exact h3 i rfl)]; exact h6, h7⟩
        | cell o i => exact hx'
      · refine PVal.congr (E := E) (E' := { E with hdr := H }) rfl rfl hv (fun q hq => hHn q (h.na _ v q h5 hq).2.2) ?_
        cases p with
        | slot d' => rfl
        | part d' i => exact hHq d' i (by rintro rfl; exact h3 i rfl)
        | cell o i => rfl
  · intro o y hy
    obtain ⟨h1, h2⟩ := h.obj o y hy
    refine ⟨h1, ?_⟩
    cases y <;> exact h2
  · intro p q e xs e' ys b hp hq hpb hqb
    obtain ⟨p', h1, h2, h3⟩ := hown p e xs hp
    obtain ⟨q', h4, h5, h6⟩ := hown q e' ys hq
    simp only at hpb hqb
    rw [h2] at hpb
    rw [h5] at hqb
    have heq := h.i2 p' q' e xs e' ys b h1 h4 hpb hqb
    subst heq
    rcases h3 with ⟨rfl, k1, k2⟩ | ⟨i, rfl, rfl⟩
    · rcases h6 with ⟨rfl, _⟩ | ⟨j, rfl, k3⟩
      · rfl
      · exact absurd k3 (k2 j)
    · rcases h6 with ⟨k3, _, k4⟩ | ⟨j, rfl, k3⟩
      · exact absurd k3 (k4 i)
      · cases k3; rfl
  · intro p e xs o y b hp hy hpb
    obtain ⟨p', h1, h2, h3⟩ := hown p e xs hp
    simp only at hpb
    rw [h2] at hpb
    exact h.i3 p' e xs o y b h1 hy hpb
  · intro p v q hp hq
    have key : ∀ p', s.at p' = some v → ((∃ d, p' = .slot d) ∧ (∃ e xs, (setSlot d (.tup vs) (setSlot t .dead s)).at q = some (.own e xs)) ∧ ∀ d i, q ≠ .part d i) := by
      intro p' hp'
      obtain ⟨h6, ⟨e, xs, h7⟩, h8⟩ := h.na p' v q hp' hq
      refine ⟨h6, ⟨e, xs, hkeep q e xs ?_ h8 h7⟩, h8⟩
      rintro rfl
      rw [hf p' v hp'] at hq
      cases hq
    rcases hat p v hp with ⟨rfl, rfl⟩ | ⟨rfl, rfl⟩ | ⟨i, rfl, h1⟩ | ⟨h1, h2, h3, h4, h5⟩
    · simp [SV.on] at hq
    · simp [SV.on] at hq
    · obtain ⟨⟨d', h6⟩, _⟩ := key _ (hpt h1)
      cases h6
    · exact key p h5
  · intro p v o hp ho
    rcases hat p v hp with ⟨rfl, rfl⟩ | ⟨rfl, rfl⟩ | ⟨i, rfl, h1⟩ | ⟨h1, h2, h3, h4, h5⟩
    · simp [SV.pts] at ho
    · simp [SV.pts] at ho
    · exact h.np _ v o (hpt h1) ho
    · exact h.np p v o h5 ho
end
end Go.Ck

set_option linter.unusedVariables false
namespace Go.Ck
open Go.RowKit
section
variable {P : Program} {O0 : Base} {F : Nat → Prop} {w0 w : World} {s : St} {E : Env} {tmps : Array Value}

theorem put_hp (d : Nat) (v : SV) (s : St) : (put d v s).hp = s.hp := by
  unfold put; split
  · show (Ck.clear d s).hp = s.hp; exact clear_hp d s
  · rfl
theorem put_n (d : Nat) (v : SV) (s : St) : (put d v s).n = s.n := by
  unfold put; split
  · show (Ck.clear d s).n = s.n; exact clear_n d s
  · rfl
theorem put_own {d : Nat} {v : SV} {p : Place} {e : TypeId} {xs : List PV} (hne : p ≠ .slot d) (hnp : ∀ i, p ≠ .part d i) (h : s.at p = some (.own e xs)) : (put d v s).at p = some (.own e xs) := by
  unfold put; split
  · rw [at_setSlot]
    have := clear_own d s h
    cases p with
    | slot d' => simp only; rw [if_neg (by rintro rfl; exact hne rfl)]; exact this
    | part d' i => simp only; rw [if_neg (by rintro rfl; exact hnp i rfl)]; exact this
    | cell o i => exact this
  · exact h

theorem Rel.putDead (h : Rel P O0 w0 F s E tmps w) (d : Nat) (x : Value) : Rel P O0 w0 F (put d .dead s) E (tmps.setIfInBounds d x) w := by
  unfold put
  split
  · rename_i hd
    obtain ⟨hc, hf⟩ := h.clear d
    simp only [SV.on, Bool.false_eq_true, if_false]
    exact hc.setDead x (by rw [clear_n]; exact hd) hf
  · rename_i hd
    rw [Array.setIfInBounds_eq_of_size_le (by rw [← h.size]; omega)]
    exact h

theorem newObj_sound (h : Rel P O0 w0 F s E tmps w) {d : Nat} {t : TypeId} {cs : List SV} {s' : St} (hn : newObj d (.cells t cs) s = some s') (vs : Array Value) (hsz : vs.size = cs.length)
    (hc : ∀ (i : Nat) (c : SV), cs[i]? = some c → c.easy = true ∧ oneSV c = true ∧ (∀ v, vs[i]? = some v → c = .dead ∨ RS P (fun b => E.om b ∨ F b) E w c v) ∧ (∀ q, c.on q = false) ∧ ∀ o, c.pts o = true → ∃ y, look o s.hp = some y) :
    ∃ E', E'.hdr = E.hdr ∧ E'.obj d = w.heap.size ∧ s' = put d (.ptr d 0) ⟨s.n, s.sl, (d, .cells t cs) :: s.hp⟩ ∧ Rel P O0 w0 F s' E' (tmps.setIfInBounds d (.pointer (some ⟨w.heap.size, 0, none⟩))) (w.alloc (.cells vs t)) := by
  unfold newObj at hn
  split at hn <;> cases hn
  rename_i hl
  have h1 := h.newObj hl (.cells t cs) (.cells vs t) ⟨vs, by rw [Env.addObj_same]; exact heap_alloc_new w _, hsz, fun c hc' => by
      obtain ⟨i, hi, he⟩ := List.mem_iff_getElem.1 hc'
      exact (hc i c (by rw [← he]; exact List.getElem?_eq_getElem hi)).2.1⟩
    (fun i c hic => by
      obtain ⟨k1, k2, k3, k4, k5⟩ := hc i c hic
      have hi : i < vs.size := by rw [hsz]; exact (List.getElem?_eq_some_iff.1 hic).1
      refine ⟨k1, ⟨vs[i], ?_, k3 _ (Array.getElem?_eq_getElem hi)⟩, k4, k5⟩
      have := World.cell?_alloc_new w vs t i
      rw [this]; exact Array.getElem?_eq_getElem hi)
  refine ⟨_, ?_, ?_, rfl, h1.putGood d ⟨rfl, by simp [SV.on], fun o ho => ?_⟩ ?_⟩
  · rfl
  · exact Env.addObj_same _ _ _
  · have : d = o := by simpa [SV.pts] using ho
    subst this
    exact ⟨.cells t cs, by simp [look]⟩
  · have := RS.ptr (P := P) (A := fun b => (E.addObj d w.heap.size).om b ∨ F b) (E := E.addObj d w.heap.size) (w := w.alloc (.cells vs t)) d 0
    rwa [Env.addObj_same] at this

theorem ofConsts_get {vs : List Value} {cs : List SV} (h : ofConsts vs = some cs) : vs.length = cs.length ∧ ∀ (i : Nat) (c : SV) (v : Value), cs[i]? = some c → vs[i]? = some v → ofConst v = some c := by
  induction vs generalizing cs with
  | nil => cases h; simp
  | cons v r ih =>
    unfold ofConsts at h
    split at h
    · rename_i x xs hx hxs
      cases h
      obtain ⟨h1, h2⟩ := ih hxs
      refine ⟨by simp [h1], fun i c v' hc hv => ?_⟩
      cases i with
      | zero => simp at hc hv; subst hc; subst hv; exact hx
      | succ i => exact h2 i c v' (by simpa using hc) (by simpa using hv)
    · cases h
theorem zcs_sound {t : TypeId} {cs : List SV} (h : zcs P t = some cs) : ∃ i z, P.info? t = some i ∧ i.zero = some z ∧ z.cells.size = i.size ∧ z.cells.size = cs.length ∧ ∀ (j : Nat) (c : SV) (v : Value), cs[j]? = some c → z.cells[j]? = some v → ofConst v = some c := by
  unfold zcs at h
  split at h
  · rename_i i hi
    split at h
    · rename_i z hz
      split at h
      · rename_i hs
        obtain ⟨h1, h2⟩ := ofConsts_get h
        exact ⟨i, z, hi, hz, hs, by simpa using h1, fun j c v hc hv => h2 j c v hc (by simpa using hv)⟩
      · cases h
    · cases h
  · cases h

theorem run_newVar (w : World) (t : TypeId) (v : Value) : (newVar t v).run P w = .ok ⟨w.heap.size, 0, none⟩ (w.alloc (.cells v.cells t)) := by
  simp [newVar, newRow]

/-- new(T) -/
theorem alloc_sound (h : Rel P O0 w0 F s E tmps w) {d : Nat} {t : TypeId} {cs : List SV} {s' : St} (hz : zcs P t = some cs) (hn : newObj d (.cells t cs) s = some s') :
    ∃ v w' E', (Instr.alloc t true (.tuple #[])).run P w = .ok v w' ∧ Rel P O0 w0 F s' E' (tmps.setIfInBounds d v) w' := by
  obtain ⟨i, z, hi, hiz, hs, hl, hc⟩ := zcs_sound hz
  obtain ⟨E', _, _, _, hE⟩ := newObj_sound h hn z.cells hl (fun j c hj => by
    have hlt : j < z.cells.size := by rw [hl]; exact (List.getElem?_eq_some_iff.1 hj).1
    have h1 := hc j c _ hj (Array.getElem?_eq_getElem hlt)
    obtain ⟨g1, g2, g3, g4, g5⟩ := ofConst_good (s := s) h1
    exact ⟨g1.1, g3, fun v hv => .inr (RS.ofConst (hc j c v hj hv)), g4, fun o ho => by rw [g5 o] at ho; cases ho⟩)
  refine ⟨_, _, E', ?_, hE⟩
  simp [Instr.alloc, zeroValue, typeInfo, hi, hiz, run_newVar]

/-- A variable with a first value. -/
theorem box_sound (h : Rel P O0 w0 F s E tmps w) {d : Nat} {t : TypeId} {cs : List SV} {s' : St} (x : Value) (hn : newObj d (.cells t cs) s = some s') (hsz : x.cells.size = cs.length)
    (hc : ∀ (i : Nat) (c : SV), cs[i]? = some c → c.easy = true ∧ oneSV c = true ∧ (∀ v, x.cells[i]? = some v → c = .dead ∨ RS P (fun b => E.om b ∨ F b) E w c v) ∧ (∀ q, c.on q = false) ∧ ∀ o, c.pts o = true → ∃ y, look o s.hp = some y) :
    ∃ v w' E', (Instr.box t x).run P w = .ok v w' ∧ Rel P O0 w0 F s' E' (tmps.setIfInBounds d v) w' := by
  obtain ⟨E', _, _, _, hE⟩ := newObj_sound h hn x.cells hsz hc
  exact ⟨_, _, E', by simp [Instr.box, run_newVar], hE⟩
theorem box_one (h : Rel P O0 w0 F s E tmps w) {d : Nat} {t : TypeId} {c : SV} {s' : St} (x : Value) (hn : newObj d (.cells t [c]) s = some s') (hx : x.cells = #[x]) (hg : Good s c) (h1 : oneSV c = true) (hon : ∀ q, c.on q = false) (hr : RS P (fun b => E.om b ∨ F b) E w c x) :
    ∃ v w' E', (Instr.box t x).run P w = .ok v w' ∧ Rel P O0 w0 F s' E' (tmps.setIfInBounds d v) w' := by
  refine box_sound h x hn (by rw [hx]; rfl) (fun i c' hi => ?_)
  cases i with
  | zero =>
    simp at hi
    subst hi
    exact ⟨hg.1, h1, fun v hv => by rw [hx] at hv; simp at hv; subst hv; exact .inr hr, hon, hg.2.2⟩
  | succ i => simp at hi
theorem box_own (h : Rel P O0 w0 F s E tmps w) {d : Nat} {t : TypeId} {p : Place} {e : TypeId} {xs : List PV} {s' : St} (hp : s.at p = some (.own e xs)) (hpn : ∀ d i, p ≠ .part d i) (hd : p ≠ .slot d) (hn : newObj d (.cells t [.dead]) s = some s') :
    ∃ v w' E', (Instr.box t (E.hdr p)).run P w = .ok v w' ∧ Rel P O0 w0 F (transfer p (.cell d 0) e xs s') E' (tmps.setIfInBounds d v) w' := by
  obtain ⟨a, cap, hx, _⟩ := (h.own hp).form
  have hx1 : (E.hdr p).cells = #[E.hdr p] := by rw [hx]; rfl
  obtain ⟨E', h1, h2, h3, hE⟩ := newObj_sound h hn (E.hdr p).cells (by rw [hx1]; rfl) (fun i c' hi => by
    cases i with
    | zero => simp at hi; subst hi; exact ⟨rfl, rfl, fun _ _ => .inl rfl, fun _ => rfl, fun o ho => by simp [SV.pts] at ho⟩
    | succ i => simp at hi)
  have hl : look d s.hp = none := by
    unfold Ck.newObj at hn
    split at hn
    · assumption
    · cases hn
  have hpc : ∀ i, p ≠ .cell d i := by
    rintro i rfl
    rw [at_cell, hl] at hp
    cases hp
  have hp' : s'.at p = some (.own e xs) := by
    rw [h3]
    refine put_own hd (fun i => hpn d i) ?_
    cases p with
    | slot d' => exact hp
    | part d' i => exact hp
    | cell o i =>
      rw [at_cell] at hp ⊢
      simp only [look]
      rw [if_neg (by rintro rfl; exact hpc i rfl)]
      exact hp
  have hq : s'.at (.cell d 0) = some .dead := by
    rw [h3, at_cell, put_hp]
    simp [look, HO.list]
  obtain ⟨E2, hE2⟩ := transfer_sound hE (q := .cell d 0) hp' hq rfl (fun h4 => hpc 0 h4.symm) (by
    simp only [CV, h2, h1]
    rw [hx1]
    have := World.cell?_alloc_new w #[E.hdr p] t 0
    rw [this]; rfl) (by simp)
  exact ⟨_, _, E2, by simp [Instr.box, run_newVar], hE2⟩
end
end Go.Ck

set_option linter.unusedVariables false
namespace Go.Ck
open Go.RowKit

def CP (A : Nat → Prop) (w : World) (c : SV) (v : Value) : Prop := match c with
  | .pv p => p.one = true ∧ RO A w p v
  | .nils => v = .slice none 0 0
  | _ => False
def CPs (A : Nat → Prop) (w : World) (cs : List SV) (vs : List Value) : Prop :=
  vs.length = cs.length ∧ ∀ (i : Nat) (c : SV) (v : Value), cs[i]? = some c → vs[i]? = some v → CP A w c v

section
variable {A A' : Nat → Prop} {w : World}
theorem CP.sub (h : ∀ b, ¬ A b → ¬ A' b) {c : SV} {v : Value} (hr : CP A w c v) : CP A' w c v := by
  cases c <;> simp only [CP] at hr ⊢
  · exact ⟨hr.1, hr.2.sub h⟩
  · exact hr
theorem CPs.sub (h : ∀ b, ¬ A b → ¬ A' b) {cs : List SV} {vs : List Value} (hr : CPs A w cs vs) : CPs A' w cs vs :=
  ⟨hr.1, fun i c v hc hv => (hr.2 i c v hc hv).sub h⟩
theorem CPs.append {cs ds : List SV} {vs us : List Value} (h : CPs A w cs vs) (k : CPs A w ds us) : CPs A w (cs ++ ds) (vs ++ us) := by
  refine ⟨by simp [h.1, k.1], fun i c v hc hv => ?_⟩
  by_cases hi : i < cs.length
  · rw [List.getElem?_append_left hi] at hc
    rw [List.getElem?_append_left (by rw [h.1]; exact hi)] at hv
    exact h.2 i c v hc hv
  · rw [List.getElem?_append_right (by omega)] at hc
    rw [List.getElem?_append_right (by rw [h.1]; omega), h.1] at hv
    exact k.2 _ c v hc hv
theorem CPs.drop {cs : List SV} {vs : List Value} (h : CPs A w cs vs) (n : Nat) : CPs A w (cs.drop n) (vs.drop n) := by
  refine ⟨by simp [h.1], fun i c v hc hv => ?_⟩
  rw [List.getElem?_drop] at hc hv
  exact h.2 _ c v hc hv
theorem CPs.take {cs : List SV} {vs : List Value} (h : CPs A w cs vs) (n : Nat) : CPs A w (cs.take n) (vs.take n) := by
  refine ⟨by simp [h.1], fun i c v hc hv => ?_⟩
  rw [List.getElem?_take] at hc hv
  split at hc
  · rename_i hi
    rw [if_pos hi] at hv
    exact h.2 _ c v hc hv
  · cases hc
theorem CPs.ofROs {ps : List PV} {vs : List Value} (h : ROs A w ps vs) : CPs A w (ps.map .pv) vs := by
  refine ⟨by simp [h.1], fun i c v hc hv => ?_⟩
  rw [List.getElem?_map, Option.map_eq_some_iff] at hc
  obtain ⟨p, hp, rfl⟩ := hc
  exact ⟨h.2.1 p (List.mem_of_getElem? hp), h.2.2 i p v hp hv⟩
theorem CPs.plain {cs : List SV} {vs : List Value} (h : CPs A w cs vs) : allPlain cs = true := by
  induction cs generalizing vs with
  | nil => rfl
  | cons c r ih =>
    cases vs with
    | nil => have := h.1; simp at this
    | cons v vs =>
      have h0 := h.2 0 c v rfl rfl
      have h1 := ih (vs := vs) ⟨by have := h.1; simpa using this, fun i c' v' hc hv => h.2 (i + 1) c' v' (by simpa using hc) (by simpa using hv)⟩
      cases c <;> simp only [CP] at h0
      · simp [allPlain, h0.1, h1]
      · simp [allPlain, h1]
theorem CP.rs {P : Program} {E : Env} {c : SV} {v : Value} (h : CP A w c v) : RS P A E w c v := by
  cases c <;> simp only [CP] at h
  · exact .pv _ _ h.2
  · subst h; exact .nils
theorem CP.ofRS {P : Program} {E : Env} {cs : List SV} (hp : allPlain cs = true) {c : SV} (hc : c ∈ cs) {v : Value} (h : RS P A E w c v) : CP A w c v := by
  induction cs with
  | nil => cases hc
  | cons d r ih =>
    cases d <;> simp [allPlain] at hp
    · rcases List.mem_cons.1 hc with rfl | hc
      · cases h with | pv _ _ h => exact ⟨hp.1, h⟩
      · exact ih hp.2 hc
    · rcases List.mem_cons.1 hc with rfl | hc
      · cases h; rfl
      · exact ih hp hc

section
variable {P : Program} {O0 : Base} {F : Nat → Prop} {w0 : World} {s : St} {E : Env} {a : Act}

theorem ofConst_cp {c : Value} {v : SV} (h : ofConst c = some v) : CP A w v c := by
  unfold ofConst at h
  split at h <;> cases h
  · exact ⟨rfl, .int _ _⟩
  · exact ⟨rfl, .bool _⟩
  · rename_i l
    have : (⟨l.data.toList.toArray⟩ : ByteArray) = l := by simp
    exact ⟨rfl, by rw [← this]; simpa using RO.str (A := A) (w := w) l.data.toList⟩
  · rfl
  · exact ⟨rfl, .nilp⟩
  · exact ⟨rfl, .nilf⟩
  · exact ⟨rfl, .nili⟩

theorem partCells_sound (h : Rel P O0 w0 F s E a.tmps w) {v : SV} {x : Value} {new : List SV} {s' : St} (hf : partCells P s v = some (new, s')) (hr : RS P (fun b => E.om b ∨ F b) E w v x) :
    ∃ E', (∀ b, E'.om b → E.om b) ∧ Rel P O0 w0 F s' E' a.tmps w ∧ CPs (fun b => E'.om b ∨ F b) w new x.cells.toList := by
  unfold partCells at hf
  split at hf
  · rename_i cs
    cases hf
    cases hr with | agg _ vs hl h1 h2 => ?_
    refine ⟨E, fun _ hb => hb, h, by simpa [Value.cells] using hl, fun i c v hc hv => CP.ofRS h1 (List.mem_of_getElem? hc) (h2 i c v hc (by simpa [Value.cells] using hv))⟩
  · cases hf
    cases hr
    refine ⟨E, fun _ hb => hb, h, rfl, fun i c v hc hv => ?_⟩
    cases i with
    | zero => simp [Value.cells] at hc hv; subst hc; subst hv; rfl
    | succ i => simp at hc
  · split at hf
    · rename_i p s1 hfr
      cases hf
      obtain ⟨E1, h1, h2, h3⟩ := freeze_sound h hfr hr
      exact ⟨E1, h1, h2, CPs.ofROs h3.cellsROs⟩
    · cases hf

theorem fillParts_sound {fs : List (Nat × Nat × Bool)} {place : Nat → Option (Nat × Nat)} (hpl : ∀ i f, fs[i]? = some f → place i = some (f.1, f.2.1)) : ∀ (ps : List (Nat × Operand)) {cs : List SV} {s : St} {E : Env} {cells : Array Value} {cs' : List SV} {s' : St}, Rel P O0 w0 F s E a.tmps w → fillParts P fs ps cs s = some (cs', s') →
    CPs (fun b => E.om b ∨ F b) w cs cells.toList →
    ∃ E' cells', Instr.fill place cells (ps.map fun (i, x) => (i, a.eval x)) = some cells' ∧ Rel P O0 w0 F s' E' a.tmps w ∧ CPs (fun b => E'.om b ∨ F b) w cs' cells'.toList
  | [], cs, s, E, cells, cs', s', h, hf, hr => by
    cases hf
    exact ⟨E, cells, rfl, h, hr⟩
  | (i, x) :: r, cs, s, E, cells, cs', s', h, hf, hr => by
    unfold fillParts at hf
    split at hf
    · rename_i fo fz fa v hfs hv
      split at hf
      · rename_i new s1 hfr
        split at hf
        · rename_i hc
          obtain ⟨E1, hom, h1, hro⟩ := partCells_sound h hfr (ev_rs h hv)
          have hlen : cells.size = cs.length := by simpa using hr.1
          have hsub : ∀ b, ¬ (E.om b ∨ F b) → ¬ (E1.om b ∨ F b) := fun b hn h6 => hn (h6.imp (hom b) id)
          have hxl : (a.eval x).cells.size = fz := by have := hro.1; simp only [Array.length_toList] at this; rw [this, hc.1]
          obtain ⟨cells1, e1, e2⟩ := fill_cons (place := place) (cells := cells) (i := i) (off := fo) (size := fz) (v := a.eval x) (rest := r.map fun (i, x) => (i, a.eval x))
            (hpl _ _ hfs) hxl (by rw [hlen]; exact hc.2)
          have hr1 : CPs (fun b => E1.om b ∨ F b) w (setCells cs new fo) cells1.toList := by
            rw [e2, setCells, hc.1]
            exact (((hr.sub hsub).take _).append hro).append ((hr.sub hsub).drop _)
          obtain ⟨E2, cells2, f1, f2, f3⟩ := fillParts_sound hpl r h1 hf hr1
          exact ⟨E2, cells2, by rw [List.map_cons]; exact e1.trans f1, f2, f3⟩
        · cases hf
      · cases hf
    · cases hf

theorem places_of {fl : List Field} (h : ∀ f ∈ fl.map (fieldRow P), f.2.1 ≠ 0) : fl.mapM (fun f => (P.info? f.type).map fun i => (f.offset, i.size)) = some ((fl.map (fieldRow P)).map fun f => (f.1, f.2.1)) := by
  induction fl with
  | nil => rfl
  | cons f r ih =>
    have h0 := h (fieldRow P f) (by simp)
    have hr := ih (fun g hg => h g (by simp at hg ⊢; exact .inr hg))
    obtain ⟨⟨fo, fz, fa⟩, hfr⟩ : ∃ y, fieldRow P f = y := ⟨_, rfl⟩
    rw [hfr] at h0
    obtain ⟨rfl, ht⟩ := fieldRow_parts hfr h0
    obtain ⟨d, i, hu, hi, hs, _⟩ := tsh_parts (w := default) ht
    simp [List.mapM_cons, hi, hr, hfr, hs]

/-- A struct made of parts. -/
theorem build_sound (h : Rel P O0 w0 F s E a.tmps w) {t : TypeId} {fs : List (Nat × Nat × Bool)} {z cs : List SV} {ps : Array (Nat × Operand)} {s' : St} (d : Nat) (hT : tk P t = .st fs) (hz : zcs P t = some z) (hfs : fs.all (fun f => f.2.1 != 0) = true) (hf : fillParts P fs ps.toList z s = some (cs, s')) :
    ∃ v w' E', (Instr.build t (ps.map fun (i, x) => (i, a.eval x))).run P w = .ok v w' ∧ Rel P O0 w0 F (put d (mkAgg cs) s') E' (a.tmps.setIfInBounds d v) w' := by
  obtain ⟨fl, hu, rfl⟩ := tk_st hT
  obtain ⟨i, zv, hi, hiz, hs, hl, hc⟩ := zcs_sound hz
  obtain ⟨E', cells', f1, f2, f3⟩ := fillParts_sound (place := (((fl.toList.map (fieldRow P)).map fun f => (f.1, f.2.1)).toArray[·]?)) (fun i f hf => by simp only [List.getElem?_toArray, List.getElem?_map] at hf ⊢; rw [hf]; rfl) ps.toList h hf (cells := zv.cells) ⟨by simpa using hl, fun j c v hj hv => ofConst_cp (hc j c v hj (by simpa using hv))⟩
  have hpl := places_of (P := P) (fl := fl.toList) (fun f hf' => by have := List.all_eq_true.1 hfs f hf'; simpa using this)
  refine ⟨_, _, E', run_build w t _ cells' ?_, ?_⟩
  · unfold Program.built
    rw [hi, hu]
    simp only [hiz, hpl]
    rw [Array.toList_map]
    exact f1
  · unfold mkAgg
    split
    · rename_i qs hqs
      obtain ⟨g1, g2⟩ := allPV_get hqs
      refine f2.putGood d (.pv _ _) (.pv _ _ (.agg qs cells' (by have := f3.1; simp at this; omega) (fun c hc => ?_) (fun j c v hj hv => ?_)))
      · obtain ⟨j, hj, he⟩ := List.mem_iff_getElem.1 hc
        have h1 := g2 j c (by rw [← he]; exact List.getElem?_eq_getElem hj)
        have hj' : j < cells'.toList.length := by rw [f3.1, ← g1]; exact hj
        have := f3.2 j _ _ h1 (List.getElem?_eq_getElem hj')
        exact this.1
      · exact (f3.2 j _ v (g2 j c hj) (by simpa using hv)).2
    · refine f2.putGood d ⟨rfl, by simp [SV.on], by simp [SV.pts]⟩ ?_
      have := RS.agg (P := P) (E := E') cs cells'.toList f3.1 f3.plain (fun j c v hj hv => (f3.2 j c v hj hv).rs)
      simpa using this
/-- An array made of parts. -/
theorem buildArr_sound (h : Rel P O0 w0 F s E a.tmps w) {t n e ez : Nat} {ea : Bool} {z cs : List SV} {ps : Array (Nat × Operand)} {s' : St} (d : Nat) (hT : tk P t = .arr n e ez ea) (hez : ez ≠ 0) (hz : zcs P t = some z) (hf : fillParts P (arrFs ez n) ps.toList z s = some (cs, s')) :
    ∃ v w' E', (Instr.build t (ps.map fun (i, x) => (i, a.eval x))).run P w = .ok v w' ∧ Rel P O0 w0 F (put d (mkAgg cs) s') E' (a.tmps.setIfInBounds d v) w' := by
  obtain ⟨hu, hce⟩ := tk_arr hT
  obtain ⟨i, zv, hi, hiz, hs, hl, hc⟩ := zcs_sound hz
  obtain ⟨ie, hie, hies⟩ : ∃ ie, P.info? e = some ie ∧ ie.size = ez := by
    cases hie : P.info? e with
    | none => simp [Program.cellsOf, hie] at hce; exact absurd hce.symm hez
    | some ie => exact ⟨ie, rfl, by simpa [Program.cellsOf, hie] using hce⟩
  obtain ⟨E', cells', f1, f2, f3⟩ := fillParts_sound (place := fun i => some (i * ie.size, ie.size)) (fun i f hf => by
      rw [arrFs_get] at hf
      split at hf
      · cases hf; rw [hies]
      · cases hf) ps.toList h hf (cells := zv.cells) ⟨by simpa using hl, fun j c v hj hv => ofConst_cp (hc j c v hj (by simpa using hv))⟩
  refine ⟨_, _, E', run_build w t _ cells' ?_, ?_⟩
  · unfold Program.built
    rw [hi, hu]
    simp only [hiz, hie]
    rw [Array.toList_map]
    exact f1
  · unfold mkAgg
    split
    · rename_i qs hqs
      obtain ⟨g1, g2⟩ := allPV_get hqs
      refine f2.putGood d (.pv _ _) (.pv _ _ (.agg qs cells' (by have := f3.1; simp at this; omega) (fun c hc => ?_) (fun j c v hj hv => ?_)))
      · obtain ⟨j, hj, he⟩ := List.mem_iff_getElem.1 hc
        have h1 := g2 j c (by rw [← he]; exact List.getElem?_eq_getElem hj)
        have hj' : j < cells'.toList.length := by rw [f3.1, ← g1]; exact hj
        have := f3.2 j _ _ h1 (List.getElem?_eq_getElem hj')
        exact this.1
      · exact (f3.2 j _ v (g2 j c hj) (by simpa using hv)).2
    · refine f2.putGood d ⟨rfl, by simp [SV.on], by simp [SV.pts]⟩ ?_
      have := RS.agg (P := P) (E := E') cs cells'.toList f3.1 f3.plain (fun j c v hj hv => (f3.2 j c v hj hv).rs)
      simpa using this
end
end
end Go.Ck

set_option linter.unusedVariables false
namespace Go.Ck
open Go.RowKit
section
variable {P : Program} {O0 : Base} {F : Nat → Prop} {w0 w : World} {s : St} {E : Env} {a : Act}

theorem getD_of {tmps : Array Value} {t : Nat} {x : Value} (h : tmps[t]? = some x) : tmps.getD t undef = x := by simp [Array.getD_eq_getD_getElem?, h]

/-- An operation with a result that does more than read. -/
theorem aeff_sound (h : Rel P O0 w0 F s E a.tmps w) {o : Oper} {d : Nat} {s' : St} (hv : aeff P s d o.type o.op = some s') :
    ∃ x w' E', (execOp a.eval o).run P w = .ok (.value x) w' ∧ Rel P O0 w0 F s' E' (a.tmps.setIfInBounds d x) w' := by
  unfold execOp
  unfold aeff at hv
  split at hv
  · -- move
    rename_i x he
    rw [he]
    split at hv
    · rename_i t
      split at hv
      · rename_i vs hl
        split at hv <;> cases hv
        rename_i hc
        obtain ⟨x, hx, _⟩ := h.place (.slot t) _ hl
        obtain ⟨h1, h2⟩ := h.clear d
        have hl' : look t (Ck.clear d s).sl = some (.tup vs) := by
          unfold Ck.clear
          split
          · simp only [Ck.kill, look_killL, hl]; rfl
          · exact hl
        obtain ⟨E', hE⟩ := h1.moveTup hl' hc.1 (by rw [clear_n]; exact hc.2) h2 hx
        exact ⟨x, w, E', by simp [Act.eval, getD_of hx], hE⟩
      · cases hv
    · cases hv
  · -- assign
    rename_i x he
    rw [he]
    split at hv
    · rename_i hx
      split at hv
      · rename_i e _ _ _ _
        cases hv
        have hr := ev_rs h hx
        obtain ⟨E', hE⟩ := h.putOwn (e := e) (xs := []) (x := .slice none 0 0) d ⟨[], World.ownsRow_nil w 0 _ _, ROs.nil _ _, by simp, by simp⟩ (by simp [Value.ownBlock])
        refine ⟨_, w, E', rfl, ?_⟩
        generalize a.eval x = xv at hr
        cases hr
        exact hE
      · cases hv
    · rename_i t hx
      split at hv
      · rename_i t'
        split at hv
        · rename_i hc
          obtain ⟨rfl, hne, hd⟩ := hc
          split at hv
          · rename_i e xs hl
            cases hv
            obtain ⟨x, hx', hx2, _⟩ := h.place (.slot t') _ hl
            subst hx2
            have h1 := h.putDead d (E.hdr (.slot t'))
            have hsz : d < a.tmps.size := by rw [← h.size]; exact hd
            have hds : (put d .dead s).at (.slot d) = some .dead := by
              unfold put
              rw [if_pos hd]
              simp [SV.on, at_setSlot]
            have hts : (put d .dead s).at (.slot t') = some (.own e xs) := put_own (by simpa using hne) (by simp) hl
            obtain ⟨E', hE⟩ := transfer_sound h1 (q := .slot d) hts hds rfl (by simpa using Ne.symm hne) (by simp [CV, hsz]) (by simp)
            exact ⟨_, w, E', by simp [Act.eval, getD_of hx'], hE⟩
          · cases hv
        · cases hv
      · cases hv
    · cases hv
  · -- extract
    rename_i x i he
    rw [he]
    split at hv
    · rename_i t
      split at hv
      · rename_i e xs hp
        split at hv <;> cases hv
        obtain ⟨h1, h2, h3, h4⟩ := h.take hp
        obtain ⟨vs, h5, h6⟩ := h1
        obtain ⟨E', hE⟩ := h4.putOwn d h2 h3
        refine ⟨_, w, E', ?_, hE⟩
        simp [Act.eval, getD_of h5, Instr.extract, h6]
      · cases hv
    · cases hv
  · -- alloc
    rename_i t he
    rw [he]
    split at hv
    · rename_i cs hz
      obtain ⟨v, w', E', h1, h2⟩ := alloc_sound h hz hv
      exact ⟨v, w', E', by simp [h1], h2⟩
    · cases hv
  · -- box
    rename_i t x he
    rw [he]
    have key : (∃ v w' E', (Instr.box t (a.eval x)).run P w = .ok v w' ∧ Rel P O0 w0 F s' E' (a.tmps.setIfInBounds d v) w') → ∃ x_1 w' E', Sem.run P (do let y ← Instr.box t (a.eval x); pure (Next.value y)) w = .ok (.value x_1) w' ∧ Rel P O0 w0 F s' E' (a.tmps.setIfInBounds d x_1) w' := by
      rintro ⟨v, w', E', h1, h2⟩
      exact ⟨v, w', E', by simp [h1], h2⟩
    refine key ?_
    split at hv
    · rename_i p hx
      have hr := ev_rs h hx
      have hg := h.ev_good hx
      split at hv
      · rename_i e xs hp
        split at hv
        · cases hv
        · rename_i hpd
          split at hv <;> cases hv
          rename_i s1 hn
          have := box_own h hp (hg.2.1 p (by simp [SV.on])).2 hpd hn
          rwa [hr.al_inv]
      · cases hv
    · rename_i p hx
      have hr := ev_pv h hx
      have hc := hr.cellsROs
      refine box_sound h _ hv (by have := hc.1; simpa using this) (fun i c hi => ?_)
      rw [List.getElem?_map, Option.map_eq_some_iff] at hi
      obtain ⟨q, hq, rfl⟩ := hi
      exact ⟨rfl, hc.2.1 q (List.mem_of_getElem? hq), fun v hv => .inr (.pv _ _ (hc.2.2 i q v hq (by simpa using hv))), fun _ => rfl, fun o ho => by simp [SV.pts] at ho⟩
    · rename_i cs hx
      have hr := ev_rs h hx
      generalize hxv : a.eval x = xv at hr
      cases hr with | agg _ vs hl h1 h2 => ?_
      refine box_sound h _ hv (by simp [Value.cells, hl]) (fun i c hi => ?_)
      obtain ⟨k1, k2, k3, k4⟩ := allPlain_pts h1 c (List.mem_of_getElem? hi)
      exact ⟨k3, k4, fun v hv => .inr (h2 i c v hi (by simpa [Value.cells] using hv)), k2, fun o ho => by rw [k1 o] at ho; cases ho⟩
    · rename_i hx
      have hr := ev_rs h hx
      have hg := h.ev_good hx
      refine box_one h _ hv ?_ hg rfl (fun _ => rfl) hr
      generalize a.eval x = xv at hr
      cases hr; rfl
    · rename_i o off hx
      have hr := ev_rs h hx
      have hg := h.ev_good hx
      refine box_one h _ hv ?_ hg rfl (fun _ => rfl) hr
      generalize a.eval x = xv at hr
      cases hr; rfl
    · rename_i f caps hx
      have hr := ev_rs h hx
      have hg := h.ev_good hx
      refine box_one h _ hv ?_ hg rfl (fun _ => rfl) hr
      generalize a.eval x = xv at hr
      cases hr; rfl
    · cases hv
  · -- build
    rename_i t ps he
    rw [he]
    split at hv
    · rename_i fs z hT hz
      split at hv
      · rename_i hfs
        split at hv <;> cases hv
        rename_i cs s1 hf
        obtain ⟨v, w', E', h1, h2⟩ := build_sound h d hT hz hfs hf
        exact ⟨v, w', E', by simp only [Sem.run_bind]; rw [h1]; rfl, h2⟩
      · cases hv
    · rename_i n e ez ea z hT hz
      split at hv
      · rename_i hez
        split at hv <;> cases hv
        rename_i cs s1 hf
        obtain ⟨v, w', E', h1, h2⟩ := buildArr_sound h d hT hez hz hf
        exact ⟨v, w', E', by simp only [Sem.run_bind]; rw [h1]; rfl, h2⟩
      · cases hv
    · cases hv
  · -- buildSlice
    rename_i t n ps he
    rw [he]
    split at hv
    · rename_i e ez eb ea hT
      split at hv
      · rename_i z hz
        split at hv
        · rename_i hc
          split at hv <;> cases hv
          rename_i xs s1 hf
          obtain ⟨v, w', E', h1, h2⟩ := buildSlice_sound h d hT hz hc.1 hc.2.1 hc.2.2 hf
          exact ⟨v, w', E', by simp only [Sem.run_bind]; rw [h1]; rfl, h2⟩
        · cases hv
      · cases hv
    · cases hv
  · -- makeSlice
    rename_i t l c he
    rw [he]
    split at hv
    · rename_i n m e ez eb ea hl hc hT
      split at hv
      · rename_i z hz
        split at hv <;> cases hv
        rename_i hh
        obtain ⟨v, w', E', h1, h2⟩ := makeSlice_sound h d hT hz hh.1 hh.2.1 hh.2.2.1 hh.2.2.2.1 hh.2.2.2.2
        have e1 := (ev_pv h hl).int_eq
        have e2 := (ev_pv h hc).int_eq
        exact ⟨v, w', E', by simp [e1, e2, h1], h2⟩
      · cases hv
    · cases hv
  · -- makeFunc
    rename_i f first caps he
    rw [he]
    split at hv
    · rename_i g vs hfi hcs
      split at hv <;> cases hv
      rename_i hh
      obtain ⟨h1, h2⟩ := evs_sound h hcs
      have hf0 : first = #[] := by apply Array.ext'; rw [hfi]
      subst hf0
      refine ⟨.func (.func g) #[] (caps.map a.eval), w, E, by simp [Instr.makeFunc], h.putGood d ⟨rfl, by simp [SV.on], fun o' ho => ?_⟩ ?_⟩
      · simp only [SV.pts, List.any_eq_true] at ho
        obtain ⟨c, hc, hco⟩ := ho
        obtain ⟨i, hi, he⟩ := List.mem_iff_getElem.1 hc
        have hi' : i < caps.toList.length := by rw [← h1]; exact hi
        have hev := h2 i _ c (List.getElem?_eq_getElem hi') (by rw [← he]; exact List.getElem?_eq_getElem hi)
        have hg := h.ev_good hev
        cases c <;> simp at hco
        subst hco
        exact hg.2.2 _ (by simp [SV.pts])
      · have := RS.fn (P := P) (A := fun b => E.om b ∨ F b) (E := E) (w := w) g vs (caps.toList.map a.eval) (by simpa using h1.symm) hh (fun i c v hc hv' => by
          rw [List.getElem?_map, Option.map_eq_some_iff] at hv'
          obtain ⟨x, hx, rfl⟩ := hv'
          exact ev_rs h (h2 i x c hx hc))
        have e : caps.map a.eval = (caps.toList.map a.eval).toArray := by apply Array.ext'; simp
        rw [e]
        exact this
    · cases hv
  · -- makeMap
    rename_i t he
    rw [he]
    split at hv
    · rename_i hl
      cases hv
      have h1 := h.newObj hl (.mp []) (.map #[] 0) ⟨#[], 0, by rw [Env.addObj_same]; exact heap_alloc_new w _, rfl, by simp⟩ (by simp [HO.list])
      have hrs := RS.mp (P := P) (A := fun b => (E.addObj d w.heap.size).om b ∨ F b) (E := E.addObj d w.heap.size) (w := w.alloc (.map #[] 0)) d
      rw [Env.addObj_same] at hrs
      refine ⟨_, _, _, ?_, h1.putGood d ⟨rfl, by simp [SV.on], fun o ho => ?_⟩ hrs⟩
      · simp [Instr.makeMap]
      · have : d = o := by simpa [SV.pts] using ho
        subst this
        exact ⟨.mp [], by simp [look]⟩
    · cases hv
  · -- append
    rename_i c he
    rw [he]
    split at hv
    · rename_i hc
      split at hv
      · rename_i x y t tx hvs hts
        split at hv
        · rename_i hsrc
          obtain ⟨h1, h2⟩ := evs_sound h hvs
          match hcl : c.args.toList, h1 with
          | [x0, y0], _ =>
            have e0 := ev_rs h (h2 0 x0 _ (by rw [hcl]; rfl) rfl)
            have e1 := ev_rs h (h2 1 y0 _ (by rw [hcl]; rfl) rfl)
            have hal : c.args = #[x0, y0] := by apply Array.ext'; rw [hcl]
            have hat : c.argTypes = #[t, tx] := by apply Array.ext'; rw [hts]
            obtain ⟨v, w', E', h3, h4⟩ := aappend_sound (ty := o.type) h hsrc hv e0 e1
            refine ⟨v, w', E', ?_, h4⟩
            simp [resolve, hc, invoke, builtin, hal, hat, h3]
        · cases hv
      · cases hv
    · cases hv
  · cases hv
end
end Go.Ck

set_option linter.unusedVariables false
namespace Go.Ck
open Go.RowKit
section
variable {P : Program} {O0 : Base} {F : Nat → Prop} {w0 w : World} {s : St} {E : Env} {tmps : Array Value}

theorem run_storeVar' (w : World) (b o : Nat) {ty : TypeId} {z : Nat} (hz : P.cellsOf ty = z) (h0 : 0 < z) (v : Value) (hs : v.cells.size = z) (cur : Array Value) (e : TypeId) (hb : w.heap[b]? = some (.cells cur e (0, 0))) (hle : o + z ≤ cur.size) (h1 : ∀ u ∈ v.cells.toList, u.oneCell' = true) :
    (Instr.storeAt ty (.pointer (some ⟨b, o, none⟩)) v).run P w = .ok () (w.setCells b o v.cells.toList) := by
  obtain ⟨i, hi, hiz⟩ := info_of_cells (P := P) (t := ty) (by omega)
  have hst := run_storeCells_cells (P := P) b o v.cells.toList 0 w (fun j hj => by
      simp at hj
      simp [World.cell?, hb]; omega) (fun j hj => by simp [World.frozen?, hb]) h1
  simp only [Nat.add_zero] at hst
  simp [Instr.storeAt, Instr.sureAddr, storeVar, sizeOf, typeInfo, hi, hiz, hz, hs, hst]

/-- Elements of an own list are written. -/
theorem Rel.writeOwn (h : Rel P O0 w0 F s E tmps w) {p : Place} {e : TypeId} {xs ys : List PV} {b : Nat} {w' : World} (hp : s.at p = some (.own e xs)) (hb : (E.hdr p).ownBlock = some b) (hg : Grow (fun k => k = b) w w') (hsz : w'.heap.size = w.heap.size)
    (ho : OwnL P (fun b => E.om b ∨ F b) w' e (E.hdr p) ys) : Rel P O0 w0 F (setAt p (.own e ys) s) E tmps w' := by
  obtain ⟨x0, hx0, hpe, _, hom⟩ := h.place p _ hp
  have hbo := hom b hb
  have hA : ∀ k, k < w.heap.size → ¬ (E.om k ∨ F k) → ¬ (E.om k ∨ F k) ∧ w'.heap[k]? = w.heap[k]? := fun k hk hn => ⟨hn, hg.block k hk (fun he => hn (.inl (he ▸ hbo)))⟩
  have hlk : ∀ o z, look o (setAt p (.own e ys) s).hp = some z → ∃ z', look o s.hp = some z' := by
    intro o z hz
    rcases setAt_hp p _ s o z hz with h2 | ⟨e', cs, i, _, h2, _⟩
    · exact ⟨z, h2⟩
    · exact ⟨_, h2⟩
  have hobj : ∀ o y, look o s.hp = some y → w'.heap[E.obj o]? = w.heap[E.obj o]? := fun o y hl => hg.block _ (h.om_lt _ (h.obj o y hl).1).1 (fun he => h.i3 p e xs o y b hp hl hb he)
  have hcv : ∀ q x, (∃ v, s.at q = some v) → CV E tmps w q x → CV E tmps w' q x := by
    intro q x hq hc
    cases q with
    | slot d => exact hc
    | part d i => exact hc
    | cell o i =>
      simp only [CV] at hc ⊢
      obtain ⟨v, hv⟩ := hq
      rw [at_cell] at hv
      split at hv
      · rename_i y hy
        exact (World.cell?_of_block (w := w) (a := ⟨E.obj o, i, none⟩) (hobj o y hy)).trans hc
      · cases hv
  have hown : ∀ q e' zs, (setAt p (.own e ys) s).at q = some (.own e' zs) → ∃ zs', s.at q = some (.own e' zs') := by
    intro q e' zs hq
    rcases setAt_inv hp rfl rfl hq with ⟨rfl, h2⟩ | ⟨_, h2⟩ | ⟨_, _, _, _, _, _, h2⟩
    · cases h2; exact ⟨xs, hp⟩
    · exact ⟨zs, h2⟩
    · cases h2
  refine { place := ?_, obj := ?_, size := (setAt_n _ _ _).trans h.size, i1 := ?_, i2 := ?_, i3 := ?_, om_lt := fun k hk => by rw [hsz]; exact h.om_lt k hk, om0 := h.om0, na := ?_, np := ?_, gr := ?_, flt := h.flt, ob := ?_ }
  · intro q v hq
    rcases setAt_inv hp rfl rfl hq with ⟨rfl, rfl⟩ | ⟨hne, h2⟩ | ⟨d, i, vs, rfl, rfl, h2, rfl⟩
    · exact ⟨x0, hcv _ _ ⟨_, hp⟩ hx0, hpe, ho, hom⟩
    · obtain ⟨x, hx, hv⟩ := h.place q v h2
      refine ⟨x, hcv q x ⟨_, h2⟩ hx, ?_⟩
      cases v <;> simp only [PVal] at hv ⊢
      case own e' zs =>
        obtain ⟨k1, k2, k3⟩ := hv
        refine ⟨k1, k2.kept hA (fun k hk => hg.block k (h.om_lt k (k3 k hk)).1 (fun he => ?_)), k3⟩
        subst he
        exact hne (h.i2 q p e' zs e xs k h2 hp hk hb)
      case tup us => exact hv
      all_goals exact hv.grow hA
    · obtain ⟨x, hx, hv⟩ := h.place _ _ h2
      refine ⟨x, hx, ?_⟩
      simp only [PVal] at hv ⊢
      obtain ⟨us, k1, k2⟩ := hv
      exact ⟨us, k1, by simp [k2]⟩
  · intro o y hy
    rcases setAt_hp p _ s o y hy with h2 | ⟨e', cs, i, rfl, h2, rfl⟩
    · obtain ⟨k1, k2⟩ := h.obj o y h2
      refine ⟨k1, ?_⟩
      have hb' := hobj o y h2
      cases y with
      | cells e' cs =>
        obtain ⟨us, k3, k4⟩ := k2
        exact ⟨us, hb'.trans k3, k4⟩
      | mp es =>
        obtain ⟨ms, c, k3, k4, k5⟩ := k2
        exact ⟨ms, c, hb'.trans k3, k4, fun i kv m hk hm => ⟨(k5 i kv m hk hm).1.mono hA, (k5 i kv m hk hm).2.mono hA⟩⟩
    · obtain ⟨k1, us, k2, k3, k4⟩ := h.obj o _ h2
      refine ⟨k1, us, (hobj o _ h2).trans k2, by simp [k3], fun c hc => ?_⟩
      rcases List.mem_or_eq_of_mem_set hc with hc | rfl
      · exact k4 c hc
      · rfl
  · intro o o' y y' hy hy' he
    obtain ⟨z, hz⟩ := hlk o y hy
    obtain ⟨z', hz'⟩ := hlk o' y' hy'
    exact h.i1 o o' z z' hz hz' he
  · intro q r e1 zs e2 us k hq hr hqk hrk
    obtain ⟨zs', h1⟩ := hown q e1 zs hq
    obtain ⟨us', h2⟩ := hown r e2 us hr
    exact h.i2 q r e1 zs' e2 us' k h1 h2 hqk hrk
  · intro q e1 zs o y k hq hy hqk
    obtain ⟨zs', h1⟩ := hown q e1 zs hq
    obtain ⟨z, hz⟩ := hlk o y hy
    exact h.i3 q e1 zs' o z k h1 hz hqk
  · intro q v r hq hr
    rcases setAt_inv hp rfl rfl hq with ⟨rfl, rfl⟩ | ⟨hne, h2⟩ | ⟨d, i, vs, rfl, rfl, h2, rfl⟩
    · simp [SV.on] at hr
    · obtain ⟨k1, ⟨e', zs, k2⟩, k3⟩ := h.na q v r h2 hr
      refine ⟨k1, ?_, k3⟩
      by_cases hrp : r = p
      · subst hrp; exact ⟨e, ys, setAt_same hp⟩
      · exact ⟨e', zs, setAt_keep hp rfl k2 hrp rfl⟩
    · simp [SV.on] at hr
  · intro q v o hq ho'
    rcases setAt_inv hp rfl rfl hq with ⟨rfl, rfl⟩ | ⟨hne, h2⟩ | ⟨d, i, vs, rfl, rfl, h2, rfl⟩
    · simp [SV.pts] at ho'
    · obtain ⟨z, hz⟩ := h.np q v o h2 ho'
      exact setAt_hp' _ _ _ o z hz
    · simp [SV.pts] at ho'
  · exact h.gr.trans hg (fun k hk => by subst hk; exact h.om0 _ hbo)
  · intro o k hok
    obtain ⟨h1, y, hy⟩ := h.ob o k hok
    exact ⟨h1, setAt_hp' _ _ _ o y hy⟩

theorem setCells_grow (w : World) (b o : Nat) (vs : List Value) : Grow (fun k => k = b) w (w.setCells b o vs) ∧ (w.setCells b o vs).heap.size = w.heap.size := by
  induction vs generalizing o w with
  | nil => exact ⟨Grow.refl _ _, rfl⟩
  | cons v r ih =>
    obtain ⟨h1, h2⟩ := ih (w.setCell ⟨b, o, none⟩ v) (o + 1)
    have h3 : Grow (fun k => k = b) w (w.setCell ⟨b, o, none⟩ v) := ⟨rfl, rfl, rfl, by simp, fun k _ hk => by rw [setCell_heap, if_neg hk]⟩
    exact ⟨h3.trans h1 (fun k hk => .inl hk), by rw [World.setCells, h2]; simp⟩
end
end Go.Ck

set_option linter.unusedVariables false
namespace Go.Ck
open Go.RowKit
section
variable {P : Program} {O0 : Base} {F : Nat → Prop} {w0 w : World} {s : St} {E : Env} {tmps : Array Value}

theorem ROs.splice {A : Nat → Prop} {cs new : List PV} {vs us : List Value} (h : ROs A w cs vs) (k : ROs A w new us) (off : Nat) : ROs A w (cs.take off ++ new ++ cs.drop (off + new.length)) (vs.take off ++ us ++ vs.drop (off + us.length)) := by
  rw [k.1]
  exact ((h.take off).append k).append (h.drop _)

/-- Cells of an own list are written. -/
theorem Rel.spliceOwn (h : Rel P O0 w0 F s E tmps w) {p : Place} {e : TypeId} {xs ys : List PV} {b off : Nat} {new : List PV} {us : List Value} (hp : s.at p = some (.own e xs)) (hb : (E.hdr p).ownBlock = some b)
    (hn : ROs (fun b => E.om b ∨ F b) w new us) (hle : off + new.length ≤ xs.length * P.cellsOf e) (hfl : flat ys = (flat xs).take off ++ new ++ (flat xs).drop (off + new.length)) (hyl : ys.length = xs.length) (hyz : ∀ y ∈ ys, y.cells.length = P.cellsOf e) :
    Rel P O0 w0 F (setAt p (.own e ys) s) E tmps (w.setCells b off us) := by
  obtain ⟨hg, hsz⟩ := setCells_grow w b off us
  refine h.writeOwn hp hb hg hsz ?_
  obtain ⟨x0, hx0, hpe, ⟨cs, h1, h2, h3, h4⟩, hom⟩ := h.place p _ hp
  have hA : ∀ k, k < w.heap.size → ¬ (E.om k ∨ F k) → ¬ (E.om k ∨ F k) ∧ (w.setCells b off us).heap[k]? = w.heap[k]? := fun k hk hn => ⟨hn, hg.block k hk (fun he => hn (.inl (he ▸ hom b hb)))⟩
  rcases h1.2 with ⟨e1, _⟩ | ⟨g, cap, cur, e1, hbg, hgb, hle', hcm, hcs, htake⟩
  · rw [e1] at hb; cases hb
  · have : g = b := by rw [e1] at hb; simpa [Value.ownBlock] using hb
    subst this
    obtain ⟨cur', k1, k2, k3⟩ := setCells_heap g us off w cur e (0, 0) hgb
    have hlen : cs.length = xs.length * P.cellsOf e := h1.1
    have hul := hn.1
    refine ⟨cs.take off ++ us ++ cs.drop (off + us.length), ⟨?_, .inr ⟨g, cap, cur', by rw [e1, hyl], hbg, k1, by rw [hyl]; exact hle', hcm, by rw [k2, hcs], ?_⟩⟩, ?_, hyz, by rw [hyl]; exact h4⟩
    · simp only [List.length_append, List.length_take, List.length_drop]; rw [hyl]; omega
    · apply List.ext_getElem?
      intro j
      have hmul : xs.length * P.cellsOf e ≤ cap * P.cellsOf e := Nat.mul_le_mul_right _ hle'
      rw [List.getElem?_take, hyl]
      by_cases hj : j < xs.length * P.cellsOf e
      · rw [if_pos hj, Array.getElem?_toList, k3 j (by omega)]
        have hcur : cur[j]? = cs[j]? := by rw [← htake, List.getElem?_take, if_pos hj, Array.getElem?_toList]
        by_cases h5 : off ≤ j ∧ j < off + us.length
        · rw [if_pos h5, List.append_assoc, List.getElem?_append_right (by simp; omega), List.getElem?_append_left (by simp; omega)]
          congr 1
          simp; omega
        · rw [if_neg h5, hcur]
          by_cases h6 : j < off
          · rw [List.append_assoc, List.getElem?_append_left (by simp; omega), List.getElem?_take, if_pos h6]
          · rw [List.getElem?_append_right (by simp; omega), List.getElem?_drop]
            congr 1
            simp; omega
      · rw [if_neg hj, List.getElem?_eq_none (by simp; omega)]
    · rw [hfl, ← hul]
      rw [show (flat xs).drop (off + us.length) = (flat xs).drop (off + new.length) by rw [hul]]
      exact (h2.mono hA).splice (hn.mono hA) off

theorem setElem_cells {c p : PV} {j : Nat} (hj : j < c.cells.length) (h1 : p.one = true) : (setElem c j p).cells = c.cells.set j p := by
  have hp : p.cells = [p] := by cases p <;> first | rfl | simp [PV.one] at h1
  cases c <;> simp only [setElem]
  case agg cs => rfl
  all_goals
    have hj' : j < 1 := hj
    have : j = 0 := by omega
    subst this
    rw [hp]; rfl

theorem splice_one {α : Type} (l : List α) (i : Nat) (v : α) (h : i < l.length) : l.set i v = l.take i ++ [v] ++ l.drop (i + 1) := by
  rw [List.set_eq_take_append_cons_drop, if_pos h]; simp

theorem flat_setElem {xs : List PV} {z i j : Nat} {c p : PV} (hz : ∀ x ∈ xs, x.cells.length = z) (hc : xs[i]? = some c) (hj : j < z) (h1 : p.one = true) :
    flat (xs.set i (setElem c j p)) = (flat xs).take (i * z + j) ++ [p] ++ (flat xs).drop (i * z + j + 1) := by
  obtain ⟨hi, he⟩ := List.getElem?_eq_some_iff.1 hc
  have hcz := hz c (List.mem_of_getElem? hc)
  have hlen := flat_length hz
  have hmul : i * z + z ≤ xs.length * z := by rw [show i * z + z = (i + 1) * z by rw [Nat.add_mul, Nat.one_mul]]; exact Nat.mul_le_mul_right _ hi
  rw [flat_set hz hi (by rw [setElem_cells (by omega) h1]; simp [hcz]), setElem_cells (by omega) h1, ← splice_one _ _ _ (by omega)]
  apply List.ext_getElem?
  intro k
  rw [List.getElem?_set]
  by_cases h5 : k < i * z
  · rw [List.append_assoc, List.getElem?_append_left (by simp; omega), List.getElem?_take, if_pos h5, if_neg (by omega)]
  · by_cases h6 : k < i * z + z
    · rw [List.getElem?_append_left (by simp; omega), List.getElem?_append_right (by simp; omega), List.getElem?_set]
      have e1 : k - (List.take (i * z) (flat xs)).length = k - i * z := by simp; omega
      rw [e1]
      by_cases h7 : i * z + j = k
      · rw [if_pos h7, if_pos (by omega), if_pos (by omega), if_pos (by omega)]
      · rw [if_neg h7, if_neg (by omega), ← flat_at hz hc (k - i * z) (by omega)]
        congr 1; omega
    · rw [List.getElem?_append_right (by simp [hcz]; omega), List.getElem?_drop, if_neg (by omega)]
      congr 1
      simp [hcz]; omega

theorem RS.ea_inv {A : Nat → Prop} {p : Place} {e i j : Nat} {x : Value} (h : RS P A E w (.ea p e i j) x) : ∃ b, (E.hdr p).ownBlock = some b ∧ x = .pointer (some ⟨b, i * P.cellsOf e + j, none⟩) := by
  cases h with | ea _ _ _ _ b h => exact ⟨b, h, rfl⟩

theorem storeE_sound (h : Rel P O0 w0 F s E tmps w) {p : Place} {e i j : Nat} {ty : TypeId} {v : SV} {s' : St} {x y : Value} (hs : storeE s p e i j (tsh P ty) v (s.at p) = some s') (hx : RS P (fun b => E.om b ∨ F b) E w (.ea p e i j) x) (hy : RS P (fun b => E.om b ∨ F b) E w v y) :
    ∃ w' E', (Instr.storeAt ty x y).run P w = .ok () w' ∧ Rel P O0 w0 F s' E' tmps w' := by
  obtain ⟨b, hb, rfl⟩ := hx.ea_inv
  cases hp : s.at p with
  | none => rw [hp] at hs; cases hs
  | some u =>
    rw [hp] at hs
    unfold storeE at hs
    split at hs
    · rename_i e' xs hu
      cases hu
      split at hs
      · rename_i hee
        subst hee
        split at hs
        · rename_i q
          cases hy with | pv _ _ hy => ?_
          unfold storeElem at hs
          split at hs
          · rename_i c hc
            obtain ⟨x0, hx0, hpe, ⟨cs, h1, h2, h3, h4⟩, hom⟩ := h.place p _ hp
            have hi := (List.getElem?_eq_some_iff.1 hc).1
            have hcz := h3 c (List.mem_of_getElem? hc)
            have hmul : i * P.cellsOf e' + P.cellsOf e' ≤ xs.length * P.cellsOf e' := by rw [show i * P.cellsOf e' + P.cellsOf e' = (i + 1) * P.cellsOf e' by rw [Nat.add_mul, Nat.one_mul]]; exact Nat.mul_le_mul_right _ hi
            have hrow : ∃ cur : Array Value, w.heap[b]? = some (.cells cur e' (0, 0)) ∧ xs.length * P.cellsOf e' ≤ cur.size := by
              rcases h1.2 with ⟨e1, _⟩ | ⟨g, cap, cur, e1, hbg, hgb, hle', hcm, hcs, htake⟩
              · rw [e1] at hb; cases hb
              · have : g = b := by rw [e1] at hb; simpa [Value.ownBlock] using hb
                subst this
                exact ⟨cur, hgb, by rw [hcs]; exact Nat.mul_le_mul_right _ hle'⟩
            obtain ⟨cur, hcur, hcsz⟩ := hrow
            have hyc := hy.cellsROs
            split at hs
            · rename_i n hT
              split at hs <;> cases hs
              rename_i hh
              obtain ⟨rfl, hn1, hn2, hn3, hn0⟩ := hh
              obtain ⟨d', ii, hu, hi', hsz, _⟩ := tsh_parts (w := w) hT
              have htz : P.cellsOf ty = n := by simp [Program.cellsOf, hi', hsz]
              refine ⟨_, E, run_storeVar' w b _ htz hn0 y (by have := hyc.1; simp at this; omega) cur e' hcur (by omega) hyc.oneCell, ?_⟩
              refine h.spliceOwn hp hb hyc (by omega) ?_ (by simp) (fun z hz => ?_)
              · rw [flat_set h3 hi (by omega)]
                simp only [Nat.add_zero]
                rw [hn1, show P.cellsOf e' = n by omega]
              · rcases List.mem_or_eq_of_mem_set hz with hz | rfl
                · exact h3 z hz
                · omega
            · rename_i hT
              split at hs <;> cases hs
              rename_i hh
              obtain ⟨hj, ho⟩ := hh
              obtain ⟨d', ii, hu, hi', hsz, _⟩ := tsh_parts (w := w) hT
              have htz : P.cellsOf ty = 1 := by simp [Program.cellsOf, hi', hsz]
              obtain ⟨hc1, hc2⟩ := hy.cells_of_one ho
              refine ⟨_, E, run_storeVar' w b _ htz (by omega) y (by rw [hc1]; rfl) cur e' hcur (by omega) hyc.oneCell, ?_⟩
              refine h.spliceOwn hp hb hyc (by rw [hc2]; simp; omega) ?_ (by simp) (fun z hz => ?_)
              · rw [hc2]
                exact flat_setElem h3 hc (by omega) ho
              · rcases List.mem_or_eq_of_mem_set hz with hz | rfl
                · exact h3 z hz
                · rw [setElem_cells hj ho]; simp [hcz]
            · cases hs
          · cases hs
        · cases hs
      · cases hs
    · cases hs
end
end Go.Ck
