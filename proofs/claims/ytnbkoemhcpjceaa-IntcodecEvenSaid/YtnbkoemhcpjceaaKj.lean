/- What is proved here: parts of the proofs of this seat's statements (a verified evaluator for calls over pure values, its laws, and contracts of functions). No condition. -/
import Derived.Test.YtnbkoemhcpjceaaKi
import Derived.Test.YtnbkoemhcpjceaaProg
import Derived.KernelRfl
set_option linter.all false
set_option linter.unusedVariables false
namespace Go.Ck
def u64s (l : List Nat) : List PV := l.map fun (n : Nat) => .int .u64 (n : Int)
def bytes (l : List Nat) : List PV := l.map fun (n : Nat) => .int .u8 (n : Int)
def ints (l : List Int) : List PV := l.map (.int .i64)

theorem wrap_u64 (n : Nat) : IntKind.u64.wrap (n : Int) = ((n % 2 ^ 64 : Nat) : Int) := by
  rw [IntKind.wrap_u64]; omega
theorem wrap_u64_lt {n : Nat} (h : n < 2 ^ 64) : IntKind.u64.wrap (n : Int) = (n : Int) := by rw [wrap_u64, Nat.mod_eq_of_lt h]
theorem wrap_u8 (n : Nat) : IntKind.u8.wrap (n : Int) = ((n % 256 : Nat) : Int) := by
  rw [IntKind.wrap_u8]; omega
theorem wrap_u8_lt {n : Nat} (h : n < 256) : IntKind.u8.wrap (n : Int) = (n : Int) := by rw [wrap_u8, Nat.mod_eq_of_lt h]
theorem wrap_i64_of {n : Int} (h : -(2 ^ 63) ≤ n) (h2 : n < 2 ^ 63) : IntKind.i64.wrap n = n := by
  rw [IntKind.wrap_i64]; omega
theorem wrap_i64_nat {n : Nat} (h : n < 2 ^ 63) : IntKind.i64.wrap (n : Int) = (n : Int) := wrap_i64_of (by omega) (by omega)
theorem wrap_i64_succ {n : Nat} (h : n + 1 < 2 ^ 63) : IntKind.i64.wrap ((n : Int) + 1) = ((n + 1 : Nat) : Int) := by rw [wrap_i64_of (by omega) (by omega)]; omega

theorem ofInt_nat (w n : Nat) : BitVec.ofInt w (n : Int) = BitVec.ofNat w n := by simp
theorem ibits_or64 {a b : Nat} (ha : a < 2 ^ 64) (hb : b < 2 ^ 64) : ibits .or .u64 (a : Int) (b : Int) = ((a ||| b : Nat) : Int) := by
  simp only [ibits, ofInt_nat, BitVec.toNat_or, BitVec.toNat_ofNat]
  rw [show IntKind.u64.bits = 64 from rfl, Nat.mod_eq_of_lt ha, Nat.mod_eq_of_lt hb, wrap_u64_lt (Nat.or_lt_two_pow ha hb)]
theorem ibits_and64 {a b : Nat} (ha : a < 2 ^ 64) (hb : b < 2 ^ 64) : ibits .and .u64 (a : Int) (b : Int) = ((a &&& b : Nat) : Int) := by
  simp only [ibits, ofInt_nat, BitVec.toNat_and, BitVec.toNat_ofNat]
  rw [show IntKind.u64.bits = 64 from rfl, Nat.mod_eq_of_lt ha, Nat.mod_eq_of_lt hb, wrap_u64_lt (Nat.lt_of_le_of_lt Nat.and_le_left ha)]
theorem ibits_xor64 {a b : Nat} (ha : a < 2 ^ 64) (hb : b < 2 ^ 64) : ibits .xor .u64 (a : Int) (b : Int) = ((a ^^^ b : Nat) : Int) := by
  simp only [ibits, ofInt_nat, BitVec.toNat_xor, BitVec.toNat_ofNat]
  rw [show IntKind.u64.bits = 64 from rfl, Nat.mod_eq_of_lt ha, Nat.mod_eq_of_lt hb, wrap_u64_lt (Nat.xor_lt_two_pow ha hb)]
theorem ibits_or8 {a b : Nat} (ha : a < 2 ^ 8) (hb : b < 2 ^ 8) : ibits .or .u8 (a : Int) (b : Int) = ((a ||| b : Nat) : Int) := by
  simp only [ibits, ofInt_nat, BitVec.toNat_or, BitVec.toNat_ofNat]
  rw [show IntKind.u8.bits = 8 from rfl, Nat.mod_eq_of_lt ha, Nat.mod_eq_of_lt hb, wrap_u8_lt (Nat.or_lt_two_pow ha hb)]
theorem ibits_and8 {a b : Nat} (ha : a < 2 ^ 8) (hb : b < 2 ^ 8) : ibits .and .u8 (a : Int) (b : Int) = ((a &&& b : Nat) : Int) := by
  simp only [ibits, ofInt_nat, BitVec.toNat_and, BitVec.toNat_ofNat]
  rw [show IntKind.u8.bits = 8 from rfl, Nat.mod_eq_of_lt ha, Nat.mod_eq_of_lt hb, wrap_u8_lt (Nat.lt_of_le_of_lt Nat.and_le_left ha)]
theorem shrI_nat (k : IntKind) (a m : Nat) (hm : m ≤ k.bits) : shrI k (a : Int) (m : Int) = ((a / 2 ^ m : Nat) : Int) := by
  unfold shrI
  rw [Int.toNat_natCast, Nat.min_eq_left hm, Int.fdiv_eq_ediv_of_nonneg _ (by exact_mod_cast Nat.zero_le _)]
  simp
theorem shlI_nat64 (a m : Nat) (hm : m ≤ 64) : shlI .u64 (a : Int) (m : Int) = ((a * 2 ^ m % 2 ^ 64 : Nat) : Int) := by
  unfold shlI
  rw [Int.toNat_natCast, show IntKind.u64.bits = 64 from rfl, Nat.min_eq_left hm, ← wrap_u64]
  simp
theorem shlI_nat8 (a m : Nat) (hm : m ≤ 8) : shlI .u8 (a : Int) (m : Int) = ((a * 2 ^ m % 256 : Nat) : Int) := by
  unfold shlI
  rw [Int.toNat_natCast, show IntKind.u8.bits = 8 from rfl, Nat.min_eq_left hm, ← wrap_u8]
  simp

theorem bytes_length (l : List Nat) : (bytes l).length = l.length := by simp [bytes]
theorem bytes_append (l r : List Nat) : bytes l ++ bytes r = bytes (l ++ r) := by simp [bytes]
theorem bytes_take (l : List Nat) (n : Nat) : (bytes l).take n = bytes (l.take n) := by simp [bytes]
theorem bytes_drop (l : List Nat) (n : Nat) : (bytes l).drop n = bytes (l.drop n) := by simp [bytes]
theorem bytes_one (n : Nat) : [PV.int .u8 (n : Int)] = bytes [n] := rfl
theorem bytes_get {l : List Nat} {i : Nat} (h : i < l.length) : (bytes l)[i]? = some (.int .u8 (l[i] : Nat)) := by simp [bytes, h]
theorem bytes_set (l : List Nat) (i n : Nat) : (bytes l).set i (.int .u8 (n : Int)) = bytes (l.set i n) := by simp [bytes, List.map_set]
theorem u64s_length (l : List Nat) : (u64s l).length = l.length := by simp [u64s]
theorem u64s_append (l r : List Nat) : u64s l ++ u64s r = u64s (l ++ r) := by simp [u64s]
theorem u64s_take (l : List Nat) (n : Nat) : (u64s l).take n = u64s (l.take n) := by simp [u64s]
theorem u64s_drop (l : List Nat) (n : Nat) : (u64s l).drop n = u64s (l.drop n) := by simp [u64s]
theorem u64s_get {l : List Nat} {i : Nat} (h : i < l.length) : (u64s l)[i]? = some (.int .u64 (l[i] : Nat)) := by simp [u64s, h]
theorem ints_length (l : List Int) : (ints l).length = l.length := by simp [ints]
theorem ints_append (l r : List Int) : ints l ++ ints r = ints (l ++ r) := by simp [ints]
theorem ints_take (l : List Int) (n : Nat) : (ints l).take n = ints (l.take n) := by simp [ints]
theorem ints_drop (l : List Int) (n : Nat) : (ints l).drop n = ints (l.drop n) := by simp [ints]
theorem ints_get {l : List Int} {i : Nat} (h : i < l.length) : (ints l)[i]? = some (.int .i64 l[i]) := by simp [ints, h]
theorem cloL_bytes (l : List Nat) : cloL (bytes l) = true := by induction l with | nil => rfl | cons a l ih => simpa [bytes, cloL, PV.clo] using ih
theorem cloL_u64s (l : List Nat) : cloL (u64s l) = true := by induction l with | nil => rfl | cons a l ih => simpa [u64s, cloL, PV.clo] using ih
theorem cloL_ints (l : List Int) : cloL (ints l) = true := by induction l with | nil => rfl | cons a l ih => simpa [ints, cloL, PV.clo] using ih
def nis (l : List Nat) : List PV := l.map fun (n : Nat) => .int .i64 (n : Int)
theorem nis_length (l : List Nat) : (nis l).length = l.length := by simp [nis]
theorem nis_append (l r : List Nat) : nis l ++ nis r = nis (l ++ r) := by simp [nis]
theorem nis_take (l : List Nat) (n : Nat) : (nis l).take n = nis (l.take n) := by simp [nis]
theorem nis_drop (l : List Nat) (n : Nat) : (nis l).drop n = nis (l.drop n) := by simp [nis]
theorem nis_one (n : Nat) : [PV.int .i64 (n : Int)] = nis [n] := rfl
theorem nis_get {l : List Nat} {i : Nat} (h : i < l.length) : (nis l)[i]? = some (.int .i64 (l[i] : Nat)) := by simp [nis, h]
theorem cloL_nis (l : List Nat) : cloL (nis l) = true := by induction l with | nil => rfl | cons a l ih => simpa [nis, cloL, PV.clo] using ih
theorem u64s_one (n : Nat) : [PV.int .u64 (n : Int)] = u64s [n] := rfl
theorem u64s_set (l : List Nat) (i n : Nat) : (u64s l).set i (.int .u64 (n : Int)) = u64s (l.set i n) := by simp [u64s, List.map_set]
theorem ints_one (n : Int) : [PV.int .i64 n] = ints [n] := rfl
attribute [go_sem] nis_length nis_append nis_take nis_drop cloL_nis
theorem bytes_get0 (x : Nat) (r : List Nat) : (bytes (x :: r))[0]? = some (.int .u8 (x : Int)) := rfl
theorem u64s_get0 (x : Nat) (r : List Nat) : (u64s (x :: r))[0]? = some (.int .u64 (x : Int)) := rfl
theorem nis_get0 (x : Nat) (r : List Nat) : (nis (x :: r))[0]? = some (.int .i64 (x : Int)) := rfl
theorem ints_get0 (x : Int) (r : List Int) : (ints (x :: r))[0]? = some (.int .i64 x) := rfl
attribute [go_sem] bytes_get0 u64s_get0 nis_get0 ints_get0
theorem nat_lt_zero (n : Nat) : ((n : Int) < 0) = False := by simp
theorem zero_le_nat (n : Nat) : ((0 : Int) ≤ (n : Int)) = True := by simp
theorem le_maxLen (n : Nat) (h : n ≤ 1000 := by decide) : n ≤ maxLen := by unfold maxLen; omega
theorem le_room (n : Nat) (h : n ≤ 1000 := by decide) : n ≤ room := by unfold room; omega
theorem le_maxLen0 : (0 ≤ maxLen) = True := by simp
theorem le_maxLen1 : (1 ≤ maxLen) = True := by simp [le_maxLen]
theorem le_maxLen2 : (2 ≤ maxLen) = True := by simp [le_maxLen]
theorem le_maxLen3 : (3 ≤ maxLen) = True := by simp [le_maxLen]
theorem le_maxLen16 : (16 ≤ maxLen) = True := by simp [le_maxLen]
theorem le_room0 : (0 ≤ room) = True := by simp
theorem le_room1 : (1 ≤ room) = True := by simp [le_room]
theorem le_room8 : (8 ≤ room) = True := by simp [le_room]
theorem natmul (k n : Nat) : ((k : Nat) : Int) * (n : Int) = ((k * n : Nat) : Int) := rfl
attribute [go_sem] le_maxLen0 le_maxLen1 le_maxLen2 le_maxLen3 le_maxLen16 le_room0 le_room1 le_room8 natmul Nat.one_mul Int.toNat_natCast
attribute [go_sem] nat_lt_zero zero_le_nat id_eq id bytes_length bytes_append bytes_take bytes_drop u64s_length u64s_append u64s_take u64s_drop ints_length ints_append ints_take ints_drop cloL_bytes cloL_u64s cloL_ints Int.ofNat_le Int.ofNat_lt SV.clo HO.clo PV.clo okA okB resOK nodupB freshO nilL cellsIn inL offP offM neM HM allIn List.isEmpty_nil Option.isSome_some Int.natCast_nonneg Int.sub_zero Option.map_some Option.map_none
end Go.Ck

set_option linter.unusedVariables false
namespace Go.Ck
theorem cells_one {p q : PV} (h : p.cells = [q]) (h1 : p.one = true) : p = q := by
  cases p <;> first | (simp [PV.cells] at h; exact h) | simp [PV.one] at h1
section
variable {P : Program} {n : Nat} {t : TypeId} {p : PV}
theorem PT_int {k : IntKind} (hu : P.underlying t = some (.int k)) (h : PT P (n + 1) t p.cells) (h1 : p.one = !isAggT P t) : ∃ m, p = .int k m ∧ (Lit.int k m).wf = true := by
  unfold isAggT at h1
  rw [hu] at h1
  unfold PT at h
  rw [hu] at h
  obtain ⟨m, e, hw⟩ := h
  exact ⟨m, cells_one e h1, hw⟩
theorem PT_slice {e : TypeId} (hu : P.underlying t = some (.slice e)) (h : PT P (n + 1) t p.cells) (h1 : p.one = !isAggT P t) : ∃ xs, p = .sl (P.cellsOf e) xs ∧ xs.length ≤ maxLen ∧ ∀ x ∈ xs, PT P n e x.cells ∧ x.one = !isAggT P e := by
  unfold isAggT at h1
  rw [hu] at h1
  unfold PT at h
  rw [hu] at h
  obtain ⟨xs, e, h2, h3⟩ := h
  exact ⟨xs, cells_one e h1, h2, h3⟩
theorem ints_of {k : IntKind} : ∀ (xs : List PV), (∀ x ∈ xs, ∃ m, x = .int k m ∧ (Lit.int k m).wf = true) → ∃ l : List Int, xs = l.map (.int k) ∧ ∀ m ∈ l, (Lit.int k m).wf = true
  | [], _ => ⟨[], rfl, by simp⟩
  | x :: r, h => by
    obtain ⟨m, rfl, hm⟩ := h x (by simp)
    obtain ⟨l, rfl, hl⟩ := ints_of r (fun y hy => h y (by simp [hy]))
    exact ⟨m :: l, rfl, by simpa using ⟨hm, hl⟩⟩
theorem PT_ints {e : TypeId} {k : IntKind} (hu : P.underlying t = some (.slice e)) (he : P.underlying e = some (.int k)) (hc : P.cellsOf e = 1) (h : PT P (n + 2) t p.cells) (h1 : p.one = !isAggT P t) : ∃ l : List Int, p = .sl 1 (l.map (.int k)) ∧ l.length ≤ maxLen ∧ ∀ m ∈ l, (Lit.int k m).wf = true := by
  obtain ⟨xs, rfl, h2, h3⟩ := PT_slice (n := n + 1) hu h h1
  obtain ⟨l, rfl, hl⟩ := ints_of xs (fun x hx => PT_int (n := n) he (h3 x hx).1 (h3 x hx).2)
  exact ⟨l, by rw [hc], by simpa using h2, hl⟩
theorem nats_of {k : IntKind} (hk : k.signed = false) : ∀ (l : List Int), (∀ m ∈ l, (Lit.int k m).wf = true) → ∃ r : List Nat, l = r.map (fun (n : Nat) => (n : Int)) ∧ ∀ x ∈ r, x < 2 ^ k.bits
  | [], _ => ⟨[], rfl, by simp⟩
  | m :: r, h => by
    have hm := h m (by simp)
    simp only [Lit.wf, IntKind.min, IntKind.max, hk, Bool.and_eq_true, decide_eq_true_eq] at hm
    obtain ⟨l, rfl, hl⟩ := nats_of hk r (fun y hy => h y (by simp [hy]))
    obtain ⟨a, rfl⟩ : ∃ a : Nat, m = a := ⟨m.toNat, by have := hm.1; simp at this; omega⟩
    refine ⟨a :: l, rfl, ?_⟩
    simp only [List.mem_cons, forall_eq_or_imp]
    refine ⟨?_, hl⟩
    have h2 : (a : Int) ≤ 2 ^ k.bits - 1 := hm.2
    have h3 : ((2 ^ k.bits : Nat) : Int) = (2 : Int) ^ k.bits := by norm_cast
    omega
theorem PT_bytes {e : TypeId} (hu : P.underlying t = some (.slice e)) (he : P.underlying e = some (.int .u8)) (hc : P.cellsOf e = 1) (h : PT P (n + 2) t p.cells) (h1 : p.one = !isAggT P t) : ∃ l : List Nat, p = .sl 1 (bytes l) ∧ l.length ≤ maxLen ∧ ∀ x ∈ l, x < 256 := by
  obtain ⟨l, rfl, h2, h3⟩ := PT_ints (n := n) hu he hc h h1
  obtain ⟨r, rfl, h4⟩ := nats_of rfl l h3
  exact ⟨r, by simp [bytes], by simpa using h2, h4⟩
theorem PT_u8 (hu : P.underlying t = some (.int .u8)) (h : PT P (n + 1) t p.cells) (h1 : p.one = !isAggT P t) : ∃ v : Nat, p = .int .u8 v ∧ v < 256 := by
  obtain ⟨m, rfl, hm⟩ := PT_int hu h h1
  obtain ⟨r, hr, h4⟩ := nats_of (k := .u8) rfl [m] (by simpa using hm)
  match r, hr with
  | [a], hr => simp at hr; subst hr; exact ⟨a, rfl, h4 a (by simp)⟩
theorem wf_i64 {m : Int} (h : (Lit.int .i64 m).wf = true) : -2 ^ 63 ≤ m ∧ m < 2 ^ 63 := by
  simp only [Lit.wf, IntKind.min, IntKind.max, Bool.and_eq_true, decide_eq_true_eq] at h
  have h1 : -(2 : Int) ^ 63 ≤ m := of_decide_eq_true h.1
  have h2 : m ≤ (2 : Int) ^ 63 - 1 := of_decide_eq_true h.2
  omega
theorem PT_i64 (hu : P.underlying t = some (.int .i64)) (h : PT P (n + 1) t p.cells) (h1 : p.one = !isAggT P t) : ∃ v : Int, p = .int .i64 v ∧ -2 ^ 63 ≤ v ∧ v < 2 ^ 63 := by
  obtain ⟨m, rfl, hm⟩ := PT_int hu h h1
  exact ⟨m, rfl, wf_i64 hm⟩
theorem PT_i64s {e : TypeId} (hu : P.underlying t = some (.slice e)) (he : P.underlying e = some (.int .i64)) (hc : P.cellsOf e = 1) (h : PT P (n + 2) t p.cells) (h1 : p.one = !isAggT P t) : ∃ l : List Int, p = .sl 1 (ints l) ∧ l.length ≤ maxLen ∧ ∀ x ∈ l, -2 ^ 63 ≤ x ∧ x < 2 ^ 63 := by
  obtain ⟨l, rfl, h2, h3⟩ := PT_ints (n := n) hu he hc h h1
  exact ⟨l, rfl, h2, fun x hx => wf_i64 (h3 x hx)⟩
theorem PA1 {N : Nat} {t : TypeId} {pl : List PV} (h : PA P N [t] pl) : ∃ p, pl = [p] ∧ PT P N t p.cells ∧ p.one = !isAggT P t := by
  obtain ⟨h1, h2⟩ := h
  match pl, h1 with
  | [p], _ => exact ⟨p, rfl, h2 0 _ _ rfl rfl⟩
theorem PA2 {N : Nat} {t u : TypeId} {pl : List PV} (h : PA P N [t, u] pl) : ∃ p q, pl = [p, q] ∧ (PT P N t p.cells ∧ p.one = !isAggT P t) ∧ (PT P N u q.cells ∧ q.one = !isAggT P u) := by
  obtain ⟨h1, h2⟩ := h
  match pl, h1 with
  | [p, q], _ => exact ⟨p, q, rfl, h2 0 _ _ rfl rfl, h2 1 _ _ rfl rfl⟩
theorem PA3 {N : Nat} {t u v : TypeId} {pl : List PV} (h : PA P N [t, u, v] pl) : ∃ p q r, pl = [p, q, r] ∧ (PT P N t p.cells ∧ p.one = !isAggT P t) ∧ (PT P N u q.cells ∧ q.one = !isAggT P u) ∧ (PT P N v r.cells ∧ r.one = !isAggT P v) := by
  obtain ⟨h1, h2⟩ := h
  match pl, h1 with
  | [p, q, r], _ => exact ⟨p, q, r, rfl, h2 0 _ _ rfl rfl, h2 1 _ _ rfl rfl, h2 2 _ _ rfl rfl⟩
end
end Go.Ck

set_option linter.unusedVariables false
namespace Go.Ck
open Go.RowKit Go.ChangeShapes Go.WideShapes Go.ChangeAt
theorem law_plain {C : Checked} {os : Os} {f : FuncId} {fn : Func} {s : ChangeSpec} {H : Type} {enc : TypeId × Value → H} {N : Nat} {tb : TypeId} (own : ownKnob C.prog.godebug = none) (started : os.Started) (noInit : C.prog.inits.idxOf? f = none) (hfn : C.prog.funcs[f]? = some fn)
    (witness : ∃ (w : World) (tape : Tape) (i : Input), w.os = os ∧ (w.forCall tape i).Shaped C.prog ∧ i.vars = [] ∧ Input.okWide C.prog (w.forCall tape i) .any w.heap.size f i ∧
      s.pre6 enc C.prog fn [] false (w.forCall tape i).memory i.args ∧ ({} : Assume).holds C.prog (lone (Frame.enter C.prog f i.args .normal) [] (w.forCall tape i)))
    (hl : laidOutB C.prog = true) (hm : mapsRowed C.prog = true) (ht : fn.params.toList.all (fun t => decide (t < C.prog.types.size) && okP C.prog N t && C.prog.readableRec t) = true) (hv : s.vars = [])
    (hs : ∀ ds : List (DataW H), ds.length = fn.params.size → s.fn H ds = { results := [.lit (.bool true)], args := ds }) (hrt : fn.resultTypes = #[tb]) (hub : C.prog.underlying tb = some .bool)
    (hF : ∀ pl, PA C.prog N fn.params.toList pl → Fn C.prog f [] (pl.map .pv) (fun rs H' => rs = [.pv (.bool true)] ∧ H' = [])) (hG : gtabs C.prog = []) :
    ReturnsInHanded {} C os f .any (s.pre6 enc C.prog fn [] false) (s.post enc C.prog fn false true false false) := by
  refine returnsInHanded_of_change (C := C) own started noInit hfn witness ?_
  intro W base args ds gs before hval hW _ _
  have ht' : ∀ t ∈ fn.params.toList, t < C.prog.types.size ∧ okP C.prog N t = true ∧ C.prog.readableRec t = true := fun t h => by
    have := List.all_eq_true.1 ht t h
    simp only [Bool.and_eq_true, decide_eq_true_eq] at this
    exact ⟨this.1.1, this.1.2, this.2⟩
  have hW' := hW
  obtain ⟨p, q, hA, hV, _, _, _⟩ := hW
  refine (law_calls (enc := enc) hl hm (fun t h => ⟨(ht' t h).1, (ht' t h).2.1⟩) hF (gok_none hG) (fun j t v hj hv => hval j t v (by simpa using hj) hv) hA).mono fun e W' ⟨he, hb⟩ => ⟨_, he, ?_⟩
  exact law_post hl hv hs hrt hub (fun t h => ⟨(ht' t h).2.2, (ht' t h).1⟩) hW' hb
end Go.Ck

-- type facts, printed by mkfacts.py
set_option linter.unusedVariables false
namespace Go.Ck
open Go.Proofs
theorem tk_1 : tk Try.prog 1 = .fn := by kernel_rfl
theorem tk_2 : tk Try.prog 2 = .int .i64 := by kernel_rfl
theorem tsh_2 : tsh Try.prog 2 = some (1, false) := by kernel_rfl
theorem co_2 : Program.cellsOf Try.prog 2 = 1 := by kernel_rfl
theorem zcs_2 : zcs Try.prog 2 = some [.pv (.int .i64 0)] := by kernel_rfl
theorem ze_2 : zeroElem Try.prog 2 = some (.int .i64 0) := by kernel_rfl
theorem zok_2 : zok Try.prog 2 = true := by kernel_rfl
theorem tk_3 : tk Try.prog 3 = .int .i64 := by kernel_rfl
theorem tsh_3 : tsh Try.prog 3 = some (1, false) := by kernel_rfl
theorem co_3 : Program.cellsOf Try.prog 3 = 1 := by kernel_rfl
theorem zcs_3 : zcs Try.prog 3 = some [.pv (.int .i64 0)] := by kernel_rfl
theorem ze_3 : zeroElem Try.prog 3 = some (.int .i64 0) := by kernel_rfl
theorem zok_3 : zok Try.prog 3 = true := by kernel_rfl
theorem tk_4 : tk Try.prog 4 = .bool := by kernel_rfl
theorem tsh_4 : tsh Try.prog 4 = some (1, false) := by kernel_rfl
theorem co_4 : Program.cellsOf Try.prog 4 = 1 := by kernel_rfl
theorem zcs_4 : zcs Try.prog 4 = some [.pv (.bool false)] := by kernel_rfl
theorem ze_4 : zeroElem Try.prog 4 = some (.bool false) := by kernel_rfl
theorem zok_4 : zok Try.prog 4 = true := by kernel_rfl
theorem tk_5 : tk Try.prog 5 = .int .u8 := by kernel_rfl
theorem tsh_5 : tsh Try.prog 5 = some (1, false) := by kernel_rfl
theorem co_5 : Program.cellsOf Try.prog 5 = 1 := by kernel_rfl
theorem zcs_5 : zcs Try.prog 5 = some [.pv (.int .u8 0)] := by kernel_rfl
theorem ze_5 : zeroElem Try.prog 5 = some (.int .u8 0) := by kernel_rfl
theorem zok_5 : zok Try.prog 5 = true := by kernel_rfl
theorem tk_6 : tk Try.prog 6 = .int .u8 := by kernel_rfl
theorem tsh_6 : tsh Try.prog 6 = some (1, false) := by kernel_rfl
theorem co_6 : Program.cellsOf Try.prog 6 = 1 := by kernel_rfl
theorem zcs_6 : zcs Try.prog 6 = some [.pv (.int .u8 0)] := by kernel_rfl
theorem ze_6 : zeroElem Try.prog 6 = some (.int .u8 0) := by kernel_rfl
theorem zok_6 : zok Try.prog 6 = true := by kernel_rfl
theorem tk_7 : tk Try.prog 7 = .st [(0, 1, false), (1, 1, false), (2, 1, false), (3, 1, false)] := by kernel_rfl
theorem tsh_7 : tsh Try.prog 7 = some (4, true) := by kernel_rfl
theorem co_7 : Program.cellsOf Try.prog 7 = 4 := by kernel_rfl
theorem zcs_7 : zcs Try.prog 7 = some [.pv (.int .i64 0), .pv (.int .i64 0), .pv (.bool false), .pv (.int .u8 0)] := by kernel_rfl
theorem ze_7 : zeroElem Try.prog 7 = some (.agg [(.int .i64 0), (.int .i64 0), (.bool false), (.int .u8 0)]) := by kernel_rfl
theorem zok_7 : zok Try.prog 7 = true := by kernel_rfl
theorem tk_8 : tk Try.prog 8 = .st [(0, 1, false), (1, 1, false), (2, 1, false), (3, 1, false)] := by kernel_rfl
theorem tsh_8 : tsh Try.prog 8 = some (4, true) := by kernel_rfl
theorem co_8 : Program.cellsOf Try.prog 8 = 4 := by kernel_rfl
theorem zcs_8 : zcs Try.prog 8 = some [.pv (.int .i64 0), .pv (.int .i64 0), .pv (.bool false), .pv (.int .u8 0)] := by kernel_rfl
theorem ze_8 : zeroElem Try.prog 8 = some (.agg [(.int .i64 0), (.int .i64 0), (.bool false), (.int .u8 0)]) := by kernel_rfl
theorem zok_8 : zok Try.prog 8 = true := by kernel_rfl
theorem tk_9 : tk Try.prog 9 = .str := by kernel_rfl
theorem tsh_9 : tsh Try.prog 9 = some (1, false) := by kernel_rfl
theorem co_9 : Program.cellsOf Try.prog 9 = 1 := by kernel_rfl
theorem zcs_9 : zcs Try.prog 9 = some [.pv (.str [])] := by kernel_rfl
theorem ze_9 : zeroElem Try.prog 9 = some (.str []) := by kernel_rfl
theorem zok_9 : zok Try.prog 9 = true := by kernel_rfl
theorem tk_10 : tk Try.prog 10 = .str := by kernel_rfl
theorem tsh_10 : tsh Try.prog 10 = some (1, false) := by kernel_rfl
theorem co_10 : Program.cellsOf Try.prog 10 = 1 := by kernel_rfl
theorem zcs_10 : zcs Try.prog 10 = some [.pv (.str [])] := by kernel_rfl
theorem ze_10 : zeroElem Try.prog 10 = some (.str []) := by kernel_rfl
theorem zok_10 : zok Try.prog 10 = true := by kernel_rfl
theorem tk_11 : tk Try.prog 11 = .str := by kernel_rfl
theorem tsh_11 : tsh Try.prog 11 = some (1, false) := by kernel_rfl
theorem co_11 : Program.cellsOf Try.prog 11 = 1 := by kernel_rfl
theorem zcs_11 : zcs Try.prog 11 = some [.pv (.str [])] := by kernel_rfl
theorem ze_11 : zeroElem Try.prog 11 = some (.str []) := by kernel_rfl
theorem zok_11 : zok Try.prog 11 = true := by kernel_rfl
theorem tk_12 : tk Try.prog 12 = .int .u64 := by kernel_rfl
theorem tsh_12 : tsh Try.prog 12 = some (1, false) := by kernel_rfl
theorem co_12 : Program.cellsOf Try.prog 12 = 1 := by kernel_rfl
theorem zcs_12 : zcs Try.prog 12 = some [.pv (.int .u64 0)] := by kernel_rfl
theorem ze_12 : zeroElem Try.prog 12 = some (.int .u64 0) := by kernel_rfl
theorem zok_12 : zok Try.prog 12 = true := by kernel_rfl
theorem tk_13 : tk Try.prog 13 = .st [(0, 1, false), (1, 1, false)] := by kernel_rfl
theorem tsh_13 : tsh Try.prog 13 = some (2, true) := by kernel_rfl
theorem co_13 : Program.cellsOf Try.prog 13 = 2 := by kernel_rfl
theorem zcs_13 : zcs Try.prog 13 = some [.pv (.str []), .pv (.int .u64 0)] := by kernel_rfl
theorem ze_13 : zeroElem Try.prog 13 = some (.agg [(.str []), (.int .u64 0)]) := by kernel_rfl
theorem zok_13 : zok Try.prog 13 = true := by kernel_rfl
theorem tk_14 : tk Try.prog 14 = .st [(0, 1, false), (1, 1, false)] := by kernel_rfl
theorem tsh_14 : tsh Try.prog 14 = some (2, true) := by kernel_rfl
theorem co_14 : Program.cellsOf Try.prog 14 = 2 := by kernel_rfl
theorem zcs_14 : zcs Try.prog 14 = some [.pv (.str []), .pv (.int .u64 0)] := by kernel_rfl
theorem ze_14 : zeroElem Try.prog 14 = some (.agg [(.str []), (.int .u64 0)]) := by kernel_rfl
theorem zok_14 : zok Try.prog 14 = true := by kernel_rfl
theorem tk_15 : tk Try.prog 15 = .ptr 115 := by kernel_rfl
theorem tsh_15 : tsh Try.prog 15 = some (1, false) := by kernel_rfl
theorem co_15 : Program.cellsOf Try.prog 15 = 1 := by kernel_rfl
theorem zcs_15 : zcs Try.prog 15 = some [.pv .nilp] := by kernel_rfl
theorem ze_15 : zeroElem Try.prog 15 = some .nilp := by kernel_rfl
theorem zok_15 : zok Try.prog 15 = true := by kernel_rfl
theorem tk_16 : tk Try.prog 16 = .ptr 118 := by kernel_rfl
theorem tsh_16 : tsh Try.prog 16 = some (1, false) := by kernel_rfl
theorem co_16 : Program.cellsOf Try.prog 16 = 1 := by kernel_rfl
theorem zcs_16 : zcs Try.prog 16 = some [.pv .nilp] := by kernel_rfl
theorem ze_16 : zeroElem Try.prog 16 = some .nilp := by kernel_rfl
theorem zok_16 : zok Try.prog 16 = true := by kernel_rfl
theorem tk_17 : tk Try.prog 17 = .ptr 127 := by kernel_rfl
theorem tsh_17 : tsh Try.prog 17 = some (1, false) := by kernel_rfl
theorem co_17 : Program.cellsOf Try.prog 17 = 1 := by kernel_rfl
theorem zcs_17 : zcs Try.prog 17 = some [.pv .nilp] := by kernel_rfl
theorem ze_17 : zeroElem Try.prog 17 = some .nilp := by kernel_rfl
theorem zok_17 : zok Try.prog 17 = true := by kernel_rfl
theorem tk_18 : tk Try.prog 18 = .st [(0, 1, false)] := by kernel_rfl
theorem tsh_18 : tsh Try.prog 18 = some (1, true) := by kernel_rfl
theorem co_18 : Program.cellsOf Try.prog 18 = 1 := by kernel_rfl
theorem zcs_18 : zcs Try.prog 18 = some [.pv .nilp] := by kernel_rfl
theorem ze_18 : zeroElem Try.prog 18 = some (.agg [.nilp]) := by kernel_rfl
theorem zok_18 : zok Try.prog 18 = true := by kernel_rfl
theorem tk_19 : tk Try.prog 19 = .st [(0, 1, false)] := by kernel_rfl
theorem tsh_19 : tsh Try.prog 19 = some (1, true) := by kernel_rfl
theorem co_19 : Program.cellsOf Try.prog 19 = 1 := by kernel_rfl
theorem zcs_19 : zcs Try.prog 19 = some [.pv .nilp] := by kernel_rfl
theorem ze_19 : zeroElem Try.prog 19 = some (.agg [.nilp]) := by kernel_rfl
theorem zok_19 : zok Try.prog 19 = true := by kernel_rfl
theorem tk_20 : tk Try.prog 20 = .iface := by kernel_rfl
theorem tk_21 : tk Try.prog 21 = .int .i32 := by kernel_rfl
theorem tsh_21 : tsh Try.prog 21 = some (1, false) := by kernel_rfl
theorem co_21 : Program.cellsOf Try.prog 21 = 1 := by kernel_rfl
theorem zcs_21 : zcs Try.prog 21 = some [.pv (.int .i32 0)] := by kernel_rfl
theorem ze_21 : zeroElem Try.prog 21 = some (.int .i32 0) := by kernel_rfl
theorem zok_21 : zok Try.prog 21 = true := by kernel_rfl
theorem tk_22 : tk Try.prog 22 = .sl 3 1 8 false := by kernel_rfl
theorem tsh_22 : tsh Try.prog 22 = some (1, false) := by kernel_rfl
theorem co_22 : Program.cellsOf Try.prog 22 = 1 := by kernel_rfl
theorem zcs_22 : zcs Try.prog 22 = some [.nils] := by kernel_rfl
theorem ze_22 : zeroElem Try.prog 22 = some (.sl 1 []) := by kernel_rfl
theorem zok_22 : zok Try.prog 22 = true := by kernel_rfl
theorem tk_23 : tk Try.prog 23 = .fn := by kernel_rfl
theorem tk_24 : tk Try.prog 24 = .sl 5 1 1 false := by kernel_rfl
theorem tsh_24 : tsh Try.prog 24 = some (1, false) := by kernel_rfl
theorem co_24 : Program.cellsOf Try.prog 24 = 1 := by kernel_rfl
theorem zcs_24 : zcs Try.prog 24 = some [.nils] := by kernel_rfl
theorem ze_24 : zeroElem Try.prog 24 = some (.sl 1 []) := by kernel_rfl
theorem zok_24 : zok Try.prog 24 = true := by kernel_rfl
theorem tk_25 : tk Try.prog 25 = .int .i64 := by kernel_rfl
theorem tsh_25 : tsh Try.prog 25 = some (1, false) := by kernel_rfl
theorem co_25 : Program.cellsOf Try.prog 25 = 1 := by kernel_rfl
theorem zcs_25 : zcs Try.prog 25 = some [.pv (.int .i64 0)] := by kernel_rfl
theorem ze_25 : zeroElem Try.prog 25 = some (.int .i64 0) := by kernel_rfl
theorem zok_25 : zok Try.prog 25 = true := by kernel_rfl
theorem tk_27 : tk Try.prog 27 = .fn := by kernel_rfl
theorem tk_28 : tk Try.prog 28 = .fn := by kernel_rfl
theorem tk_29 : tk Try.prog 29 = .fn := by kernel_rfl
theorem tk_30 : tk Try.prog 30 = .fn := by kernel_rfl
theorem tk_31 : tk Try.prog 31 = .fn := by kernel_rfl
theorem tk_33 : tk Try.prog 33 = .fn := by kernel_rfl
theorem tk_34 : tk Try.prog 34 = .fn := by kernel_rfl
theorem tk_35 : tk Try.prog 35 = .fn := by kernel_rfl
theorem tk_36 : tk Try.prog 36 = .fn := by kernel_rfl
theorem tk_37 : tk Try.prog 37 = .fn := by kernel_rfl
theorem tk_38 : tk Try.prog 38 = .fn := by kernel_rfl
theorem tk_39 : tk Try.prog 39 = .fn := by kernel_rfl
theorem tk_40 : tk Try.prog 40 = .fn := by kernel_rfl
theorem tk_41 : tk Try.prog 41 = .fn := by kernel_rfl
theorem tk_42 : tk Try.prog 42 = .int .u64 := by kernel_rfl
theorem tsh_42 : tsh Try.prog 42 = some (1, false) := by kernel_rfl
theorem co_42 : Program.cellsOf Try.prog 42 = 1 := by kernel_rfl
theorem zcs_42 : zcs Try.prog 42 = some [.pv (.int .u64 0)] := by kernel_rfl
theorem ze_42 : zeroElem Try.prog 42 = some (.int .u64 0) := by kernel_rfl
theorem zok_42 : zok Try.prog 42 = true := by kernel_rfl
theorem tk_43 : tk Try.prog 43 = .sl 42 1 8 false := by kernel_rfl
theorem tsh_43 : tsh Try.prog 43 = some (1, false) := by kernel_rfl
theorem co_43 : Program.cellsOf Try.prog 43 = 1 := by kernel_rfl
theorem zcs_43 : zcs Try.prog 43 = some [.nils] := by kernel_rfl
theorem ze_43 : zeroElem Try.prog 43 = some (.sl 1 []) := by kernel_rfl
theorem zok_43 : zok Try.prog 43 = true := by kernel_rfl
theorem tk_44 : tk Try.prog 44 = .fn := by kernel_rfl
theorem tk_45 : tk Try.prog 45 = .fn := by kernel_rfl
theorem tk_46 : tk Try.prog 46 = .fn := by kernel_rfl
theorem tk_47 : tk Try.prog 47 = .fn := by kernel_rfl
theorem tk_48 : tk Try.prog 48 = .ptr 66 := by kernel_rfl
theorem tsh_48 : tsh Try.prog 48 = some (1, false) := by kernel_rfl
theorem co_48 : Program.cellsOf Try.prog 48 = 1 := by kernel_rfl
theorem zcs_48 : zcs Try.prog 48 = some [.pv .nilp] := by kernel_rfl
theorem ze_48 : zeroElem Try.prog 48 = some .nilp := by kernel_rfl
theorem zok_48 : zok Try.prog 48 = true := by kernel_rfl
theorem tk_49 : tk Try.prog 49 = .fn := by kernel_rfl
theorem tk_51 : tk Try.prog 51 = .fn := by kernel_rfl
theorem tk_52 : tk Try.prog 52 = .fn := by kernel_rfl
theorem tk_54 : tk Try.prog 54 = .fn := by kernel_rfl
theorem tk_55 : tk Try.prog 55 = .fn := by kernel_rfl
theorem tk_56 : tk Try.prog 56 = .fn := by kernel_rfl
theorem tk_57 : tk Try.prog 57 = .fn := by kernel_rfl
theorem tk_58 : tk Try.prog 58 = .fn := by kernel_rfl
theorem tk_59 : tk Try.prog 59 = .int .u64 := by kernel_rfl
theorem tsh_59 : tsh Try.prog 59 = some (1, false) := by kernel_rfl
theorem co_59 : Program.cellsOf Try.prog 59 = 1 := by kernel_rfl
theorem zcs_59 : zcs Try.prog 59 = some [.pv (.int .u64 0)] := by kernel_rfl
theorem ze_59 : zeroElem Try.prog 59 = some (.int .u64 0) := by kernel_rfl
theorem zok_59 : zok Try.prog 59 = true := by kernel_rfl
theorem tk_60 : tk Try.prog 60 = .fn := by kernel_rfl
theorem tk_61 : tk Try.prog 61 = .fn := by kernel_rfl
theorem tk_62 : tk Try.prog 62 = .fn := by kernel_rfl
theorem tk_63 : tk Try.prog 63 = .st [(0, 1, false)] := by kernel_rfl
theorem tsh_63 : tsh Try.prog 63 = some (1, true) := by kernel_rfl
theorem co_63 : Program.cellsOf Try.prog 63 = 1 := by kernel_rfl
theorem zcs_63 : zcs Try.prog 63 = some [.nils] := by kernel_rfl
theorem ze_63 : zeroElem Try.prog 63 = some (.agg [(.sl 1 [])]) := by kernel_rfl
theorem zok_63 : zok Try.prog 63 = true := by kernel_rfl
theorem tk_64 : tk Try.prog 64 = .st [(0, 1, false)] := by kernel_rfl
theorem tsh_64 : tsh Try.prog 64 = some (1, true) := by kernel_rfl
theorem co_64 : Program.cellsOf Try.prog 64 = 1 := by kernel_rfl
theorem zcs_64 : zcs Try.prog 64 = some [.nils] := by kernel_rfl
theorem ze_64 : zeroElem Try.prog 64 = some (.agg [(.sl 1 [])]) := by kernel_rfl
theorem zok_64 : zok Try.prog 64 = true := by kernel_rfl
theorem tk_65 : tk Try.prog 65 = .st [(0, 1, true)] := by kernel_rfl
theorem tsh_65 : tsh Try.prog 65 = some (1, true) := by kernel_rfl
theorem co_65 : Program.cellsOf Try.prog 65 = 1 := by kernel_rfl
theorem zcs_65 : zcs Try.prog 65 = some [.nils] := by kernel_rfl
theorem ze_65 : zeroElem Try.prog 65 = some (.agg [(.sl 1 [])]) := by kernel_rfl
theorem zok_65 : zok Try.prog 65 = true := by kernel_rfl
theorem tk_66 : tk Try.prog 66 = .st [(0, 1, true)] := by kernel_rfl
theorem tsh_66 : tsh Try.prog 66 = some (1, true) := by kernel_rfl
theorem co_66 : Program.cellsOf Try.prog 66 = 1 := by kernel_rfl
theorem zcs_66 : zcs Try.prog 66 = some [.nils] := by kernel_rfl
theorem ze_66 : zeroElem Try.prog 66 = some (.agg [(.sl 1 [])]) := by kernel_rfl
theorem zok_66 : zok Try.prog 66 = true := by kernel_rfl
theorem tk_67 : tk Try.prog 67 = .fn := by kernel_rfl
theorem tk_69 : tk Try.prog 69 = .fn := by kernel_rfl
theorem tk_70 : tk Try.prog 70 = .fn := by kernel_rfl
theorem tk_71 : tk Try.prog 71 = .fn := by kernel_rfl
theorem tk_72 : tk Try.prog 72 = .fn := by kernel_rfl
theorem tk_74 : tk Try.prog 74 = .fn := by kernel_rfl
theorem tk_75 : tk Try.prog 75 = .fn := by kernel_rfl
theorem tk_77 : tk Try.prog 77 = .fn := by kernel_rfl
theorem tk_78 : tk Try.prog 78 = .ptr 80 := by kernel_rfl
theorem tsh_78 : tsh Try.prog 78 = some (1, false) := by kernel_rfl
theorem co_78 : Program.cellsOf Try.prog 78 = 1 := by kernel_rfl
theorem zcs_78 : zcs Try.prog 78 = some [.pv .nilp] := by kernel_rfl
theorem ze_78 : zeroElem Try.prog 78 = some .nilp := by kernel_rfl
theorem zok_78 : zok Try.prog 78 = true := by kernel_rfl
theorem tk_79 : tk Try.prog 79 = .st [(0, 1, false), (1, 1, false)] := by kernel_rfl
theorem tsh_79 : tsh Try.prog 79 = some (2, true) := by kernel_rfl
theorem co_79 : Program.cellsOf Try.prog 79 = 2 := by kernel_rfl
theorem zcs_79 : zcs Try.prog 79 = some [.nils, .pv (.int .i64 0)] := by kernel_rfl
theorem ze_79 : zeroElem Try.prog 79 = some (.agg [(.sl 1 []), (.int .i64 0)]) := by kernel_rfl
theorem zok_79 : zok Try.prog 79 = true := by kernel_rfl
theorem tk_80 : tk Try.prog 80 = .st [(0, 1, false), (1, 1, false)] := by kernel_rfl
theorem tsh_80 : tsh Try.prog 80 = some (2, true) := by kernel_rfl
theorem co_80 : Program.cellsOf Try.prog 80 = 2 := by kernel_rfl
theorem zcs_80 : zcs Try.prog 80 = some [.nils, .pv (.int .i64 0)] := by kernel_rfl
theorem ze_80 : zeroElem Try.prog 80 = some (.agg [(.sl 1 []), (.int .i64 0)]) := by kernel_rfl
theorem zok_80 : zok Try.prog 80 = true := by kernel_rfl
theorem tk_81 : tk Try.prog 81 = .fn := by kernel_rfl
theorem tk_82 : tk Try.prog 82 = .fn := by kernel_rfl
theorem tk_83 : tk Try.prog 83 = .fn := by kernel_rfl
theorem tk_84 : tk Try.prog 84 = .fn := by kernel_rfl
theorem tk_86 : tk Try.prog 86 = .fn := by kernel_rfl
theorem tk_87 : tk Try.prog 87 = .fn := by kernel_rfl
theorem tk_88 : tk Try.prog 88 = .fn := by kernel_rfl
theorem tk_90 : tk Try.prog 90 = .fn := by kernel_rfl
theorem tk_91 : tk Try.prog 91 = .fn := by kernel_rfl
theorem tk_92 : tk Try.prog 92 = .fn := by kernel_rfl
theorem tk_94 : tk Try.prog 94 = .fn := by kernel_rfl
theorem tk_95 : tk Try.prog 95 = .fn := by kernel_rfl
theorem tk_96 : tk Try.prog 96 = .fn := by kernel_rfl
theorem tk_97 : tk Try.prog 97 = .fn := by kernel_rfl
theorem tsh_97 : tsh Try.prog 97 = some (1, false) := by kernel_rfl
theorem co_97 : Program.cellsOf Try.prog 97 = 1 := by kernel_rfl
theorem zcs_97 : zcs Try.prog 97 = some [.pv .nilf] := by kernel_rfl
theorem ze_97 : zeroElem Try.prog 97 = some .nilf := by kernel_rfl
theorem zok_97 : zok Try.prog 97 = true := by kernel_rfl
theorem tk_98 : tk Try.prog 98 = .fn := by kernel_rfl
theorem tk_99 : tk Try.prog 99 = .fn := by kernel_rfl
theorem tk_100 : tk Try.prog 100 = .arr 2 3 1 false := by kernel_rfl
theorem tsh_100 : tsh Try.prog 100 = some (2, true) := by kernel_rfl
theorem co_100 : Program.cellsOf Try.prog 100 = 2 := by kernel_rfl
theorem zcs_100 : zcs Try.prog 100 = some [.pv (.int .i64 0), .pv (.int .i64 0)] := by kernel_rfl
theorem ze_100 : zeroElem Try.prog 100 = some (.agg [(.int .i64 0), (.int .i64 0)]) := by kernel_rfl
theorem zok_100 : zok Try.prog 100 = true := by kernel_rfl
theorem tk_101 : tk Try.prog 101 = .arr 16 100 2 true := by kernel_rfl
theorem tsh_101 : tsh Try.prog 101 = some (32, true) := by kernel_rfl
theorem co_101 : Program.cellsOf Try.prog 101 = 32 := by kernel_rfl
theorem zcs_101 : zcs Try.prog 101 = some [.pv (.int .i64 0), .pv (.int .i64 0), .pv (.int .i64 0), .pv (.int .i64 0), .pv (.int .i64 0), .pv (.int .i64 0), .pv (.int .i64 0), .pv (.int .i64 0), .pv (.int .i64 0), .pv (.int .i64 0), .pv (.int .i64 0), .pv (.int .i64 0), .pv (.int .i64 0), .pv (.int .i64 0), .pv (.int .i64 0), .pv (.int .i64 0), .pv (.int .i64 0), .pv (.int .i64 0), .pv (.int .i64 0), .pv (.int .i64 0), .pv (.int .i64 0), .pv (.int .i64 0), .pv (.int .i64 0), .pv (.int .i64 0), .pv (.int .i64 0), .pv (.int .i64 0), .pv (.int .i64 0), .pv (.int .i64 0), .pv (.int .i64 0), .pv (.int .i64 0), .pv (.int .i64 0), .pv (.int .i64 0)] := by kernel_rfl
theorem ze_101 : zeroElem Try.prog 101 = some (.agg [(.int .i64 0), (.int .i64 0), (.int .i64 0), (.int .i64 0), (.int .i64 0), (.int .i64 0), (.int .i64 0), (.int .i64 0), (.int .i64 0), (.int .i64 0), (.int .i64 0), (.int .i64 0), (.int .i64 0), (.int .i64 0), (.int .i64 0), (.int .i64 0), (.int .i64 0), (.int .i64 0), (.int .i64 0), (.int .i64 0), (.int .i64 0), (.int .i64 0), (.int .i64 0), (.int .i64 0), (.int .i64 0), (.int .i64 0), (.int .i64 0), (.int .i64 0), (.int .i64 0), (.int .i64 0), (.int .i64 0), (.int .i64 0)]) := by kernel_rfl
theorem zok_101 : zok Try.prog 101 = true := by kernel_rfl
theorem tk_102 : tk Try.prog 102 = .fn := by kernel_rfl
theorem tk_103 : tk Try.prog 103 = .ptr 64 := by kernel_rfl
theorem tsh_103 : tsh Try.prog 103 = some (1, false) := by kernel_rfl
theorem co_103 : Program.cellsOf Try.prog 103 = 1 := by kernel_rfl
theorem zcs_103 : zcs Try.prog 103 = some [.pv .nilp] := by kernel_rfl
theorem ze_103 : zeroElem Try.prog 103 = some .nilp := by kernel_rfl
theorem zok_103 : zok Try.prog 103 = true := by kernel_rfl
theorem tk_104 : tk Try.prog 104 = .ptr 112 := by kernel_rfl
theorem tsh_104 : tsh Try.prog 104 = some (1, false) := by kernel_rfl
theorem co_104 : Program.cellsOf Try.prog 104 = 1 := by kernel_rfl
theorem zcs_104 : zcs Try.prog 104 = some [.pv .nilp] := by kernel_rfl
theorem ze_104 : zeroElem Try.prog 104 = some .nilp := by kernel_rfl
theorem zok_104 : zok Try.prog 104 = true := by kernel_rfl
theorem tk_105 : tk Try.prog 105 = .fn := by kernel_rfl
theorem tk_106 : tk Try.prog 106 = .fn := by kernel_rfl
theorem tk_107 : tk Try.prog 107 = .fn := by kernel_rfl
theorem tk_109 : tk Try.prog 109 = .fn := by kernel_rfl
theorem tk_110 : tk Try.prog 110 = .fn := by kernel_rfl
theorem tk_111 : tk Try.prog 111 = .st [(0, 1, false), (1, 1, false)] := by kernel_rfl
theorem tsh_111 : tsh Try.prog 111 = some (2, true) := by kernel_rfl
theorem co_111 : Program.cellsOf Try.prog 111 = 2 := by kernel_rfl
theorem zcs_111 : zcs Try.prog 111 = some [.nils, .pv (.int .i64 0)] := by kernel_rfl
theorem ze_111 : zeroElem Try.prog 111 = some (.agg [(.sl 1 []), (.int .i64 0)]) := by kernel_rfl
theorem zok_111 : zok Try.prog 111 = true := by kernel_rfl
theorem tk_112 : tk Try.prog 112 = .st [(0, 1, false), (1, 1, false)] := by kernel_rfl
theorem tsh_112 : tsh Try.prog 112 = some (2, true) := by kernel_rfl
theorem co_112 : Program.cellsOf Try.prog 112 = 2 := by kernel_rfl
theorem zcs_112 : zcs Try.prog 112 = some [.nils, .pv (.int .i64 0)] := by kernel_rfl
theorem ze_112 : zeroElem Try.prog 112 = some (.agg [(.sl 1 []), (.int .i64 0)]) := by kernel_rfl
theorem zok_112 : zok Try.prog 112 = true := by kernel_rfl
theorem tk_113 : tk Try.prog 113 = .fn := by kernel_rfl
theorem tk_114 : tk Try.prog 114 = .st [(0, 1, false), (1, 1, false), (2, 1, false), (3, 1, false)] := by kernel_rfl
theorem tsh_114 : tsh Try.prog 114 = some (4, true) := by kernel_rfl
theorem co_114 : Program.cellsOf Try.prog 114 = 4 := by kernel_rfl
theorem zcs_114 : zcs Try.prog 114 = some [.pv .nilp, .pv .nilp, .pv .nilp, .pv (.str [])] := by kernel_rfl
theorem ze_114 : zeroElem Try.prog 114 = some (.agg [.nilp, .nilp, .nilp, (.str [])]) := by kernel_rfl
theorem zok_114 : zok Try.prog 114 = true := by kernel_rfl
theorem tk_115 : tk Try.prog 115 = .st [(0, 1, false), (1, 1, false), (2, 1, false), (3, 1, false)] := by kernel_rfl
theorem tsh_115 : tsh Try.prog 115 = some (4, true) := by kernel_rfl
theorem co_115 : Program.cellsOf Try.prog 115 = 4 := by kernel_rfl
theorem zcs_115 : zcs Try.prog 115 = some [.pv .nilp, .pv .nilp, .pv .nilp, .pv (.str [])] := by kernel_rfl
theorem ze_115 : zeroElem Try.prog 115 = some (.agg [.nilp, .nilp, .nilp, (.str [])]) := by kernel_rfl
theorem zok_115 : zok Try.prog 115 = true := by kernel_rfl
theorem tk_116 : tk Try.prog 116 = .arr 0 16 1 false := by kernel_rfl
theorem tsh_116 : tsh Try.prog 116 = some (0, true) := by kernel_rfl
theorem co_116 : Program.cellsOf Try.prog 116 = 0 := by kernel_rfl
theorem zcs_116 : zcs Try.prog 116 = some [] := by kernel_rfl
theorem ze_116 : zeroElem Try.prog 116 = some (.agg []) := by kernel_rfl
theorem zok_116 : zok Try.prog 116 = true := by kernel_rfl
theorem tk_117 : tk Try.prog 117 = .st [(0, 0, true)] := by kernel_rfl
theorem tsh_117 : tsh Try.prog 117 = some (0, true) := by kernel_rfl
theorem co_117 : Program.cellsOf Try.prog 117 = 0 := by kernel_rfl
theorem zcs_117 : zcs Try.prog 117 = some [] := by kernel_rfl
theorem ze_117 : zeroElem Try.prog 117 = some (.agg []) := by kernel_rfl
theorem zok_117 : zok Try.prog 117 = true := by kernel_rfl
theorem tk_118 : tk Try.prog 118 = .st [(0, 0, true)] := by kernel_rfl
theorem tsh_118 : tsh Try.prog 118 = some (0, true) := by kernel_rfl
theorem co_118 : Program.cellsOf Try.prog 118 = 0 := by kernel_rfl
theorem zcs_118 : zcs Try.prog 118 = some [] := by kernel_rfl
theorem ze_118 : zeroElem Try.prog 118 = some (.agg []) := by kernel_rfl
theorem zok_118 : zok Try.prog 118 = true := by kernel_rfl
theorem tk_119 : tk Try.prog 119 = .int .u32 := by kernel_rfl
theorem tsh_119 : tsh Try.prog 119 = some (1, false) := by kernel_rfl
theorem co_119 : Program.cellsOf Try.prog 119 = 1 := by kernel_rfl
theorem zcs_119 : zcs Try.prog 119 = some [.pv (.int .u32 0)] := by kernel_rfl
theorem ze_119 : zeroElem Try.prog 119 = some (.int .u32 0) := by kernel_rfl
theorem zok_119 : zok Try.prog 119 = true := by kernel_rfl
theorem tk_120 : tk Try.prog 120 = .int .u8 := by kernel_rfl
theorem tsh_120 : tsh Try.prog 120 = some (1, false) := by kernel_rfl
theorem co_120 : Program.cellsOf Try.prog 120 = 1 := by kernel_rfl
theorem zcs_120 : zcs Try.prog 120 = some [.pv (.int .u8 0)] := by kernel_rfl
theorem ze_120 : zeroElem Try.prog 120 = some (.int .u8 0) := by kernel_rfl
theorem zok_120 : zok Try.prog 120 = true := by kernel_rfl
theorem tk_121 : tk Try.prog 121 = .int .u8 := by kernel_rfl
theorem tsh_121 : tsh Try.prog 121 = some (1, false) := by kernel_rfl
theorem co_121 : Program.cellsOf Try.prog 121 = 1 := by kernel_rfl
theorem zcs_121 : zcs Try.prog 121 = some [.pv (.int .u8 0)] := by kernel_rfl
theorem ze_121 : zeroElem Try.prog 121 = some (.int .u8 0) := by kernel_rfl
theorem zok_121 : zok Try.prog 121 = true := by kernel_rfl
theorem tk_122 : tk Try.prog 122 = .fn := by kernel_rfl
theorem tk_123 : tk Try.prog 123 = .ptr 5 := by kernel_rfl
theorem tsh_123 : tsh Try.prog 123 = some (1, false) := by kernel_rfl
theorem co_123 : Program.cellsOf Try.prog 123 = 1 := by kernel_rfl
theorem zcs_123 : zcs Try.prog 123 = some [.pv .nilp] := by kernel_rfl
theorem ze_123 : zeroElem Try.prog 123 = some .nilp := by kernel_rfl
theorem zok_123 : zok Try.prog 123 = true := by kernel_rfl
theorem tk_124 : tk Try.prog 124 = .int .i32 := by kernel_rfl
theorem tsh_124 : tsh Try.prog 124 = some (1, false) := by kernel_rfl
theorem co_124 : Program.cellsOf Try.prog 124 = 1 := by kernel_rfl
theorem zcs_124 : zcs Try.prog 124 = some [.pv (.int .i32 0)] := by kernel_rfl
theorem ze_124 : zeroElem Try.prog 124 = some (.int .i32 0) := by kernel_rfl
theorem zok_124 : zok Try.prog 124 = true := by kernel_rfl
theorem tk_125 : tk Try.prog 125 = .int .i32 := by kernel_rfl
theorem tsh_125 : tsh Try.prog 125 = some (1, false) := by kernel_rfl
theorem co_125 : Program.cellsOf Try.prog 125 = 1 := by kernel_rfl
theorem zcs_125 : zcs Try.prog 125 = some [.pv (.int .i32 0)] := by kernel_rfl
theorem ze_125 : zeroElem Try.prog 125 = some (.int .i32 0) := by kernel_rfl
theorem zok_125 : zok Try.prog 125 = true := by kernel_rfl
theorem tk_126 : tk Try.prog 126 = .st [(0, 1, false), (1, 1, false), (2, 1, false), (3, 1, false), (4, 1, false), (5, 1, false), (6, 1, false), (7, 1, false), (8, 1, false), (9, 1, false), (10, 1, false)] := by kernel_rfl
theorem tsh_126 : tsh Try.prog 126 = some (11, true) := by kernel_rfl
theorem co_126 : Program.cellsOf Try.prog 126 = 11 := by kernel_rfl
theorem zcs_126 : zcs Try.prog 126 = some [.pv (.int .u64 0), .pv (.int .u64 0), .pv (.int .u32 0), .pv (.int .u8 0), .pv (.int .u8 0), .pv (.int .u8 0), .pv (.int .u8 0), .pv .nilf, .pv .nilp, .pv (.int .i32 0), .pv (.int .i32 0)] := by kernel_rfl
theorem ze_126 : zeroElem Try.prog 126 = some (.agg [(.int .u64 0), (.int .u64 0), (.int .u32 0), (.int .u8 0), (.int .u8 0), (.int .u8 0), (.int .u8 0), .nilf, .nilp, (.int .i32 0), (.int .i32 0)]) := by kernel_rfl
theorem zok_126 : zok Try.prog 126 = true := by kernel_rfl
theorem tk_127 : tk Try.prog 127 = .st [(0, 1, false), (1, 1, false), (2, 1, false), (3, 1, false), (4, 1, false), (5, 1, false), (6, 1, false), (7, 1, false), (8, 1, false), (9, 1, false), (10, 1, false)] := by kernel_rfl
theorem tsh_127 : tsh Try.prog 127 = some (11, true) := by kernel_rfl
theorem co_127 : Program.cellsOf Try.prog 127 = 11 := by kernel_rfl
theorem zcs_127 : zcs Try.prog 127 = some [.pv (.int .u64 0), .pv (.int .u64 0), .pv (.int .u32 0), .pv (.int .u8 0), .pv (.int .u8 0), .pv (.int .u8 0), .pv (.int .u8 0), .pv .nilf, .pv .nilp, .pv (.int .i32 0), .pv (.int .i32 0)] := by kernel_rfl
theorem ze_127 : zeroElem Try.prog 127 = some (.agg [(.int .u64 0), (.int .u64 0), (.int .u32 0), (.int .u8 0), (.int .u8 0), (.int .u8 0), (.int .u8 0), .nilf, .nilp, (.int .i32 0), (.int .i32 0)]) := by kernel_rfl
theorem zok_127 : zok Try.prog 127 = true := by kernel_rfl
theorem mixed : Try.prog.follows .mixedOrders = true := by kernel_rfl
attribute [go_sem] tk_1 tk_2 tsh_2 co_2 zcs_2 ze_2 zok_2 tk_3 tsh_3 co_3 zcs_3 ze_3 zok_3 tk_4 tsh_4 co_4 zcs_4 ze_4 zok_4 tk_5 tsh_5 co_5 zcs_5 ze_5 zok_5 tk_6 tsh_6 co_6 zcs_6 ze_6 zok_6 tk_7 tsh_7 co_7 zcs_7 ze_7 zok_7 tk_8 tsh_8 co_8 zcs_8 ze_8 zok_8 tk_9 tsh_9 co_9 zcs_9 ze_9 zok_9 tk_10 tsh_10 co_10 zcs_10 ze_10 zok_10 tk_11 tsh_11 co_11 zcs_11 ze_11 zok_11 tk_12 tsh_12 co_12 zcs_12 ze_12 zok_12 tk_13 tsh_13 co_13 zcs_13 ze_13 zok_13 tk_14 tsh_14 co_14 zcs_14 ze_14 zok_14 tk_15 tsh_15 co_15 zcs_15 ze_15 zok_15 tk_16 tsh_16 co_16 zcs_16 ze_16 zok_16 tk_17 tsh_17 co_17 zcs_17 ze_17 zok_17 tk_18 tsh_18 co_18 zcs_18 ze_18 zok_18 tk_19 tsh_19 co_19 zcs_19 ze_19 zok_19 tk_20 tk_21 tsh_21 co_21 zcs_21 ze_21 zok_21 tk_22 tsh_22 co_22 zcs_22 ze_22 zok_22 tk_23 tk_24 tsh_24 co_24 zcs_24 ze_24 zok_24 tk_25 tsh_25 co_25 zcs_25 ze_25 zok_25 tk_27 tk_28 tk_29 tk_30 tk_31 tk_33 tk_34 tk_35 tk_36 tk_37 tk_38 tk_39 tk_40 tk_41 tk_42 tsh_42 co_42 zcs_42 ze_42 zok_42 tk_43 tsh_43 co_43 zcs_43 ze_43 zok_43 tk_44 tk_45 tk_46 tk_47 tk_48 tsh_48 co_48 zcs_48 ze_48 zok_48 tk_49 tk_51 tk_52 tk_54 tk_55 tk_56 tk_57 tk_58 tk_59 tsh_59 co_59 zcs_59 ze_59 zok_59 tk_60 tk_61 tk_62 tk_63 tsh_63 co_63 zcs_63 ze_63 zok_63 tk_64 tsh_64 co_64 zcs_64 ze_64 zok_64 tk_65 tsh_65 co_65 zcs_65 ze_65 zok_65 tk_66 tsh_66 co_66 zcs_66 ze_66 zok_66 tk_67 tk_69 tk_70 tk_71 tk_72 tk_74 tk_75 tk_77 tk_78 tsh_78 co_78 zcs_78 ze_78 zok_78 tk_79 tsh_79 co_79 zcs_79 ze_79 zok_79 tk_80 tsh_80 co_80 zcs_80 ze_80 zok_80 tk_81 tk_82 tk_83 tk_84 tk_86 tk_87 tk_88 tk_90 tk_91 tk_92 tk_94 tk_95 tk_96 tk_97 tsh_97 co_97 zcs_97 ze_97 zok_97 tk_98 tk_99 tk_100 tsh_100 co_100 zcs_100 ze_100 zok_100 tk_101 tsh_101 co_101 zcs_101 ze_101 zok_101 tk_102 tk_103 tsh_103 co_103 zcs_103 ze_103 zok_103 tk_104 tsh_104 co_104 zcs_104 ze_104 zok_104 tk_105 tk_106 tk_107 tk_109 tk_110 tk_111 tsh_111 co_111 zcs_111 ze_111 zok_111 tk_112 tsh_112 co_112 zcs_112 ze_112 zok_112 tk_113 tk_114 tsh_114 co_114 zcs_114 ze_114 zok_114 tk_115 tsh_115 co_115 zcs_115 ze_115 zok_115 tk_116 tsh_116 co_116 zcs_116 ze_116 zok_116 tk_117 tsh_117 co_117 zcs_117 ze_117 zok_117 tk_118 tsh_118 co_118 zcs_118 ze_118 zok_118 tk_119 tsh_119 co_119 zcs_119 ze_119 zok_119 tk_120 tsh_120 co_120 zcs_120 ze_120 zok_120 tk_121 tsh_121 co_121 zcs_121 ze_121 zok_121 tk_122 tk_123 tsh_123 co_123 zcs_123 ze_123 zok_123 tk_124 tsh_124 co_124 zcs_124 ze_124 zok_124 tk_125 tsh_125 co_125 zcs_125 ze_125 zok_125 tk_126 tsh_126 co_126 zcs_126 ze_126 zok_126 tk_127 tsh_127 co_127 zcs_127 ze_127 zok_127 mixed
end Go.Ck

set_option linter.unusedVariables false
set_option maxRecDepth 10000
namespace Go.Ck
open Go.Proofs
theorem clone_bytes (l : List Nat) (hl : l.length ≤ room) : Fn Try.prog 42 [] [.pv (.sl 1 (bytes l))] (fun rs H' => rs = [.own 5 (bytes l)] ∧ H' = []) := by
  refine Fn.of_body (fn := Try.f42) (n := 8) (res := [.tmp 2]) (by kernel_rfl) rfl rfl rfl rfl rfl (fun C => ?_)
  refine AW.go ?_
  refine AW.eqNil (.inl rfl) rfl rfl rfl tk_24 (by simp only [go_sem, ↓reduceIte] <;> rfl) rfl rfl rfl (fun b hb => ?_)
  refine AW.go ?_
  refine AW.cond (b := b) (by simp only [go_sem, ↓reduceIte] <;> rfl) (fun h1 => ?_) (fun h1 => ?_)
  · have hx : l = [] := by simpa [bytes] using hb h1
    subst hx
    refine AW.go ?_
    refine AW.finE (.move rfl .nil) rfl
  · refine AW.go ?_ (by simp only [go_sem, ↓reduceIte, hl] <;> rfl)
    refine AW.finE (.move rfl .nil) rfl

theorem with_fn (xs ys : List Nat) (hl : xs.length + ys.length ≤ room) : Fn Try.prog 43 [] [.own 5 (bytes xs), .pv (.sl 1 (bytes ys))] (fun rs H' => rs = [.own 5 (bytes (xs ++ ys))] ∧ H' = []) := by
  refine Fn.of_body (fn := Try.f43) (n := 8) (res := [.tmp 4]) (by kernel_rfl) rfl rfl rfl rfl rfl (fun C => ?_)
  refine AW.go ?_ (by simp only [go_sem, ↓reduceIte, hl] <;> rfl)
  refine AW.finE (.move rfl .nil) rfl
end Go.Ck

set_option linter.unusedVariables false
namespace Go.Ck
def leb (v : Nat) : List Nat := if v < 128 then [v] else (v % 128 + 128) :: leb (v / 128)
termination_by v
decreasing_by omega
theorem leb_lt {v : Nat} (h : v < 128) : leb v = [v] := by rw [leb, if_pos h]
theorem leb_ge {v : Nat} (h : ¬ v < 128) : leb v = (v % 128 + 128) :: leb (v / 128) := by rw [leb, if_neg h]
theorem leb_pos (v : Nat) : 0 < (leb v).length := by
  by_cases h : v < 128
  · rw [leb_lt h]; simp
  · rw [leb_ge h]; simp
theorem leb_len (n : Nat) : ∀ v, v < 128 ^ (n + 1) → (leb v).length ≤ n + 1 := by
  induction n with
  | zero => intro v h; rw [leb_lt (by omega)]; simp
  | succ n ih =>
    intro v h
    by_cases h1 : v < 128
    · rw [leb_lt h1]; simp
    · rw [leb_ge h1, List.length_cons]
      have := ih (v / 128) (by rw [Nat.div_lt_iff_lt_mul (by omega)]; rw [Nat.pow_succ] at h; omega)
      omega
theorem leb_len10 {v : Nat} (h : v < 2 ^ 64) : (leb v).length ≤ 10 := leb_len 9 v (by omega)
theorem leb_byte (v : Nat) : ∀ x ∈ leb v, x < 256 := by
  induction v using Nat.strongRecOn with
  | _ v ih =>
    by_cases h : v < 128
    · rw [leb_lt h]; simp; omega
    · rw [leb_ge h]
      intro x hx
      rcases List.mem_cons.1 hx with rfl | hx
      · omega
      · exact ih (v / 128) (by omega) x hx
theorem or128 {x : Nat} (h : x < 256) : x ||| 128 = x % 128 + 128 := by
  have : ∀ x : Fin 256, x.val ||| 128 = x.val % 128 + 128 := by decide +kernel
  exact this ⟨x, h⟩
end Go.Ck
namespace Go.Ck
/-- A number out of bytes; how many bytes it took; why there is none. -/
def rdv : Nat → Nat → List Nat → Nat × Nat × Int
  | _, _, [] => (0, 0, 2)
  | k, acc, x :: r => if k = 9 ∧ 1 < x then (0, 0, 3) else if 128 ≤ x then rdv (k + 1) (acc + x % 128 * 128 ^ k) r else if x = 0 ∧ 0 < k then (0, 0, 3) else (acc + x * 128 ^ k, k + 1, 0)
def readV (b : List Nat) : Nat × Nat × Int := rdv 0 0 (b.take 10)

theorem rdv_bound : ∀ (l : List Nat) (k acc : Nat), (rdv k acc l).2.1 ≤ k + l.length ∧ ((rdv k acc l).2.2 ≠ 0 → (rdv k acc l).1 = 0 ∧ (rdv k acc l).2.1 = 0) ∧ (rdv k acc l).2.1 ≤ k + l.length
  | [], k, acc => by simp [rdv]
  | x :: r, k, acc => by
    simp only [rdv]
    split
    · simp
    · split
      · have := rdv_bound r (k + 1) (acc + x % 128 * 128 ^ k)
        simp only [List.length_cons]
        refine ⟨by omega, this.2.1, by omega⟩
      · split
        · simp
        · simp
theorem readV_le (b : List Nat) : (readV b).2.1 ≤ b.length := by
  have := (rdv_bound (b.take 10) 0 0).1
  simp at this
  unfold readV
  omega
theorem rdv_lt : ∀ (l : List Nat) (k acc : Nat), k + l.length ≤ 10 → (∀ x ∈ l, x < 256) → acc < 128 ^ k → (rdv k acc l).1 < 2 ^ 64
  | [], k, acc, _, _, _ => by simp [rdv]
  | x :: r, k, acc, hk, hx, ha => by
    have hx0 := hx x (by simp)
    simp only [List.length_cons] at hk
    have hp : 128 ^ (k + 1) = 128 ^ k * 128 := Nat.pow_succ ..
    simp only [rdv]
    split
    · simp
    · rename_i h9
      split
      · refine rdv_lt r (k + 1) _ (by omega) (fun y hy => hx y (by simp [hy])) ?_
        rw [hp]
        have h1 : x % 128 * 128 ^ k ≤ 127 * 128 ^ k := Nat.mul_le_mul_right _ (by omega)
        omega
      · split
        · simp
        · simp only
          by_cases hk9 : k = 9
          · subst hk9
            have : x ≤ 1 := by omega
            have h1 : x * 128 ^ 9 ≤ 1 * 128 ^ 9 := Nat.mul_le_mul_right _ this
            omega
          · have h2 : 128 ^ k ≤ 128 ^ 8 := Nat.pow_le_pow_right (by omega) (by omega)
            have h1 : x * 128 ^ k ≤ 127 * 128 ^ k := Nat.mul_le_mul_right _ (by omega)
            omega
theorem readV_lt {b : List Nat} (hb : ∀ x ∈ b, x < 256) : (readV b).1 < 2 ^ 64 := rdv_lt _ 0 0 (by simp; omega) (fun x hx => hb x (List.mem_of_mem_take hx)) (by simp)
theorem andNot128 {x : Nat} (h : x < 256) : ibits .andNot .u8 (x : Int) 128 = ((x % 128 : Nat) : Int) := by
  have : ∀ x : Fin 256, ibits .andNot .u8 ((x.val : Nat) : Int) 128 = ((x.val % 128 : Nat) : Int) := by decide +kernel
  exact this ⟨x, h⟩
theorem or_shift {a x k : Nat} (ha : a < 128 ^ k) (hx : x * 128 ^ k < 2 ^ 64) (ha2 : a < 2 ^ 64) (hk : 7 * k ≤ 64) : ibits .or .u64 (a : Int) (shlI .u64 (x : Int) ((7 * k : Nat) : Int)) = ((a + x * 128 ^ k : Nat) : Int) := by
  have hp : (2 : Nat) ^ (7 * k) = 128 ^ k := by rw [Nat.pow_mul]
  rw [shlI_nat64 _ _ hk, hp, Nat.mod_eq_of_lt hx, ibits_or64 ha2 hx]
  congr 1
  have := Nat.two_pow_add_eq_or_of_lt (i := 7 * k) (b := a) (by rw [hp]; exact ha) x
  rw [hp] at this
  rw [Nat.or_comm, Nat.mul_comm x, ← this, Nat.add_comm]
end Go.Ck

set_option linter.unusedVariables false
set_option maxRecDepth 10000
namespace Go.Ck
open Go.Proofs
theorem append_fn (b : List Nat) (v : Nat) (hv : v < 2 ^ 64) (hl : b.length + 10 ≤ room) : Fn Try.prog 23 [] [.pv (.sl 1 (bytes b)), .pv (.int .u64 v)] (fun rs H' => rs = [.own 5 (bytes (b ++ leb v))] ∧ H' = []) := by
  refine Fn.of_body (fn := Try.f23) (n := 23) (res := [.tmp 4]) (by kernel_rfl) rfl rfl rfl rfl rfl (fun C => ?_)
  refine AW.go ?_
  refine AW.callE (fun _ => 0) (clone_bytes b (by omega)) (.pv _ .nil) ?_
  refine AW.go ?_
  have hlen := leb_len10 hv
  refine AW.loopS (fun a : List Nat × Nat => ⟨23, [(5, .own 5 (bytes a.1)), (1, .pv (.int .u64 a.2))], []⟩) (fun a => a.1 ++ leb a.2 = b ++ leb v ∧ a.2 < 2 ^ 64) (fun a => a.2) [5, 1] [] (b, v) ⟨rfl, hv⟩ ?_
  rintro ⟨o, u⟩ ⟨ho, hu⟩ K hK
  simp only at ho hu
  have hol : o.length + (leb u).length = b.length + (leb v).length := by rw [← List.length_append, ho, List.length_append]
  have hup := leb_pos u
  refine AW.go ?_
  refine AW.cond rfl (fun hb => ?_) (fun hb => ?_)
  · have hge : ¬ u < 128 := by simp at hb; omega
    refine AW.go ?_
    have e1 : ibits .or .u8 (IntKind.u8.wrap (u : Int)) 128 = ((u % 128 + 128 : Nat) : Int) := by
      rw [wrap_u8]
      have := ibits_or8 (a := u % 256) (b := 128) (by omega) (by omega)
      rw [or128 (by omega)] at this
      refine this.trans ?_
      congr 2; omega
    rw [e1]
    refine AW.callE (fun _ => 0) (with_fn o [u % 128 + 128] (by simp; omega)) (.move rfl (.lend rfl co_5 .nil)) ?_
    refine AW.go ?_
    have e2 : shrI .u64 (u : Int) 7 = ((u / 128 : Nat) : Int) := shrI_nat .u64 u 7 (by decide)
    refine AW.again hK (o ++ [u % 128 + 128], u / 128) ⟨?_, by simp only; omega⟩ (by simp only; omega) (by simp only [go_sem, ↓reduceIte]) (by simp only [go_sem, ↓reduceIte, e2])
    simp only [List.append_assoc, List.singleton_append]
    rw [← leb_ge hge, ho]
  · have hlt : u < 128 := by simp at hb; omega
    refine AW.go ?_
    have e1 : IntKind.u8.wrap (u : Int) = ((u : Nat) : Int) := wrap_u8_lt (by omega)
    rw [e1]
    refine AW.callE (fun _ => 0) (with_fn o [u] (by simp; omega)) (.move rfl (.lend rfl co_5 .nil)) ?_
    refine AW.go ?_
    refine AW.finE (.move rfl .nil) ?_
    rw [← ho, leb_lt hlt]
end Go.Ck

set_option linter.unusedVariables false
set_option maxRecDepth 10000
namespace Go.Ck
open Go.Proofs
abbrev curO (l : List Nat) : List (Nat × HO) := [(1000, .cells 66 [.pv (.sl 1 (bytes l))])]

attribute [go_sem] curO
theorem curNew_fn (l : List Nat) (hl : l.length ≤ room) : Fn Try.prog 30 [] [.pv (.sl 1 (bytes l))] (fun rs H' => rs = [.ptr 7 0] ∧ H' = [(7, .cells 66 [.pv (.sl 1 (bytes l))])]) := by
  refine Fn.of_body (fn := Try.f30) (n := 8) (res := [.tmp 2]) (by kernel_rfl) rfl rfl rfl rfl rfl (fun C => ?_)
  refine AW.go ?_
  refine AW.callE (fun _ => 0) (clone_bytes l hl) (.pv _ .nil) ?_
  refine AW.go ?_
  refine AW.finE (.ptr rfl .nil) rfl

theorem left_fn (l : List Nat) : Fn Try.prog 73 (curO l) [.ptr 1000 0] (fun rs H' => rs = [.pv (.int .i64 l.length)] ∧ H' = curO l) := by
  refine Fn.of_body (fn := Try.f73) (n := 8) (res := [.tmp 2]) (by kernel_rfl) rfl rfl rfl rfl rfl (fun C => ?_)
  refine AW.go ?_
  refine AW.finE (.pv _ .nil) rfl

theorem take_fn (l : List Nat) (n : Nat) (hn : n ≤ l.length) (hl : l.length ≤ room) : Fn Try.prog 74 (curO l) [.ptr 1000 0, .pv (.int .i64 n)] (fun rs H' => rs = [.own 5 (bytes (l.take n))] ∧ H' = curO (l.drop n)) := by
  refine Fn.of_body (fn := Try.f74) (n := 23) (res := [.tmp 4]) (by kernel_rfl) rfl rfl rfl rfl rfl (fun C => ?_)
  refine AW.go ?_ (by simp only [go_sem, ↓reduceIte, hn] <;> rfl)
  refine AW.callE (fun _ => 0) (clone_bytes (l.take n) (by simp; omega)) (.pv _ .nil) ?_
  have e : (((l.length : Int) - (n : Int)).toNat) = l.length - n := by omega
  have e2 : (bytes (l.drop n)).take (l.length - n) = bytes (l.drop n) := List.take_of_length_le (by simp [bytes])
  refine AW.go ?_ (by simp only [go_sem, ↓reduceIte, hn, e]; rw [← bytes_take, e2] <;> rfl)
  refine AW.finE (.move rfl .nil) rfl
end Go.Ck

set_option linter.unusedVariables false
set_option maxRecDepth 10000
namespace Go.Ck
open Go.Proofs
theorem curLeft_fn (l : List Nat) : Fn Try.prog 55 (curO l) [.ptr 1000 0] (fun rs H' => rs = [.pv (.int .i64 l.length)] ∧ H' = curO l) := by
  refine Fn.of_body (fn := Try.f55) (n := 9) (res := [.tmp 2]) (by kernel_rfl) rfl rfl rfl rfl rfl (fun C => ?_)
  refine AW.go ?_
  refine AW.condF rfl ?_
  refine AW.go ?_
  refine AW.callE id (left_fn l) (.ptr rfl .nil) ?_
  refine AW.go ?_
  refine AW.finE (.pv _ .nil) rfl

theorem curEnd_fn (l : List Nat) : Fn Try.prog 53 (curO l) [.ptr 1000 0] (fun rs H' => rs = [.pv (.int .i64 (if l = [] then 0 else 3))] ∧ H' = curO l) := by
  refine Fn.of_body (fn := Try.f53) (n := 12) (res := [.tmp 2]) (by kernel_rfl) rfl rfl rfl rfl rfl (fun C => ?_)
  refine AW.go ?_
  refine AW.condF rfl ?_
  refine AW.go ?_
  refine AW.callE id (left_fn l) (.ptr rfl .nil) ?_
  refine AW.go ?_
  refine AW.cond rfl (fun hb => ?_) (fun hb => ?_)
  · refine AW.go ?_
    refine AW.finE (.pv _ .nil) ?_
    rw [if_neg (by rintro rfl; simp at hb)]
  · refine AW.go ?_
    refine AW.finE (.pv _ .nil) ?_
    rw [if_pos (by simpa using hb)]

theorem curBytes_fn (l : List Nat) (n : Nat) (hl : l.length ≤ room) : Fn Try.prog 51 (curO l) [.ptr 1000 0, .pv (.int .i64 n)]
    (fun rs H' => rs = [.own 5 (bytes (if n ≤ l.length then l.take n else [])), .pv (.int .i64 (if n ≤ l.length then 0 else 2))] ∧ H' = curO (if n ≤ l.length then l.drop n else l)) := by
  refine Fn.of_body (fn := Try.f51) (n := 25) (res := [.tmp 4, .tmp 5]) (by kernel_rfl) rfl rfl rfl rfl rfl (fun C => ?_)
  refine AW.gg ?_
  refine AW.condF rfl ?_
  refine AW.go ?_
  refine AW.callE id (left_fn l) (.ptr rfl .nil) ?_
  refine AW.go ?_
  refine AW.cond rfl (fun hb => ?_) (fun hb => ?_)
  · have hn : ¬ n ≤ l.length := by simp at hb; omega
    simp only [if_neg hn]
    refine AW.go ?_
    refine AW.finE (.move rfl (.pv _ .nil)) rfl
  · have hn : n ≤ l.length := by simp at hb; omega
    simp only [if_pos hn]
    refine AW.go ?_
    refine AW.callE id (take_fn l n hn hl) (.ptr rfl (.pv _ .nil)) ?_
    refine AW.go ?_
    refine AW.finE (.move rfl (.pv _ .nil)) rfl
end Go.Ck

set_option linter.unusedVariables false
set_option maxRecDepth 10000
namespace Go.Ck
open Go.Proofs
theorem via {T Q : Prop} (h : (Unit → T) → Q) (t : T) : Q := h (fun _ => t)
theorem read_fn (b : List Nat) (hb : ∀ x ∈ b, x < 256) : Fn Try.prog 75 [] [.pv (.sl 1 (bytes b))] (fun rs H' => rs = [.pv (.int .u64 ((readV b).1 : Nat)), .pv (.int .i64 ((readV b).2.1 : Nat)), .pv (.int .i64 (readV b).2.2)] ∧ H' = []) := by
  refine Fn.of_body (fn := Try.f75) (n := 47) (res := [.tmp 2, .tmp 3, .tmp 4]) (by kernel_rfl) rfl rfl rfl rfl rfl (fun C => ?_)
  have hm : (if (10 : Int) < (b.length : Int) then (10 : Int) else (b.length : Int)) = ((b.take 10).length : Nat) := by
    rw [List.length_take]; split <;> omega
  have h1 : (b.take 10).length ≤ b.length := by simp; omega
  have h2 : b.take (b.take 10).length = b.take 10 := by rw [List.length_take]; simp [List.take_eq_take_iff]
  refine AW.go ?_ (by simp only [go_sem, ↓reduceIte, hm, h1, h2] <;> rfl)
  have hbb : ∀ x ∈ b.take 10, x < 256 := fun x hx => hb x (List.mem_of_mem_take hx)
  have hlen : (b.take 10).length ≤ 10 := by simp; omega
  unfold readV
  generalize b.take 10 = c at hbb hlen ⊢
  refine AW.loopS (fun a : Nat × Nat => ⟨47, [(14, .pv (.int .i64 a.1)), (5, .pv (.int .u64 a.2)), (12, .pv (.sl 1 (bytes c))), (13, .pv (.int .i64 c.length))], []⟩) (fun a => a.1 ≤ c.length ∧ rdv a.1 a.2 (c.drop a.1) = rdv 0 0 c ∧ a.2 < 128 ^ a.1) (fun a => c.length - a.1) [14, 5, 12, 13] [] (0, 0) ⟨Nat.zero_le _, rfl, by simp⟩ ?_
  rintro ⟨i, v⟩ ⟨hi, hr, hv⟩ K hK
  simp only at hi hr hv
  refine AW.go ?_
  refine AW.cond rfl (fun hc => ?_) (fun hc => ?_)
  · have hlt : i < c.length := by simpa using hc
    have hx := hbb c[i] (List.getElem_mem hlt)
    have hget := bytes_get hlt
    rw [List.drop_eq_getElem_cons hlt] at hr
    simp only [rdv] at hr
    generalize c[i] = x at hx hget hr
    have hvlt : v < 2 ^ 64 := by
      have : 128 ^ i ≤ 128 ^ 9 := Nat.pow_le_pow_right (by omega) (by omega)
      omega
    have hp : 128 ^ (i + 1) = 128 ^ i * 128 := Nat.pow_succ ..
    have e9 : ((i : Int) == 9) = decide (i = 9) := by rw [Bool.eq_iff_iff]; simp; omega
    have e1 : decide ((x : Int) > 1) = decide (1 < x) := by rw [Bool.eq_iff_iff]; simp; omega
    have e7 : IntKind.i64.wrap (7 * (i : Int)) = ((7 * i : Nat) : Int) := by rw [wrap_i64_of (by omega) (by omega)]; omega
    have hu : IntKind.u64.wrap ((x % 128 : Nat) : Int) = ((x % 128 : Nat) : Int) := wrap_u64_lt (by omega)
    have ei : IntKind.i64.wrap ((i : Int) + 1) = ((i + 1 : Nat) : Int) := wrap_i64_succ (by omega)
    by_cases h9 : i = 9 ∧ 1 < x
    · obtain ⟨k1, k2⟩ := h9
      rw [if_pos ⟨k1, k2⟩] at hr
      have b1 : decide (i = 9) = true := by simpa using k1
      have b2 : decide (1 < x) = true := by simpa using k2
      refine AW.gg ?_ (by simp only [go_sem, ↓reduceIte, hget, e9, e1, b1, b2] <;> rfl)
      refine AW.condT rfl ?_
      refine AW.go ?_
      refine AW.finE (.pv _ (.pv _ (.pv _ .nil))) ?_
      rw [← hr]; rfl
    · rw [if_neg h9] at hr
      have ea : ibits .andNot .u8 (x : Int) 128 = ((x % 128 : Nat) : Int) := andNot128 hx
      have hi9 : i ≤ 9 := by omega
      have hpw : 128 ^ i ≤ 128 ^ 9 := Nat.pow_le_pow_right (by omega) hi9
      have hxs : x % 128 * 128 ^ i < 2 ^ 64 := by
        by_cases k : i = 9
        · subst k
          have : x ≤ 1 := by omega
          have h1 : x % 128 * 128 ^ 9 ≤ 1 * 128 ^ 9 := Nat.mul_le_mul_right _ (by omega)
          omega
        · have h2 : 128 ^ i ≤ 128 ^ 8 := Nat.pow_le_pow_right (by omega) (by omega)
          have h1 : x % 128 * 128 ^ i ≤ 127 * 128 ^ i := Nat.mul_le_mul_right _ (by omega)
          omega
      have eo := or_shift (a := v) (x := x % 128) (k := i) hv hxs hvlt (by omega)
      refine via (T := ?T) (fun hT => ?_) ?_
      rotate_left
      · by_cases k : i = 9
        · have b1 : decide (i = 9) = true := by simpa using k
          refine AW.gg ?_ (by simp only [go_sem, ↓reduceIte, hget, e9, b1] <;> rfl)
          refine AW.cond rfl (fun hc2 => absurd ⟨k, by simp at hc2; omega⟩ h9) (fun hc2 => ?_)
          refine AW.keepB [5, 6, 7, 12, 13, 14] [] (by simp only [go_sem, ↓reduceIte]) (by simp only [go_sem, ↓reduceIte] <;> rfl) ?_
          exact hT ()
        · have b1 : decide (i = 9) = false := by simpa using k
          refine AW.gg ?_ (by simp only [go_sem, ↓reduceIte, hget, e9, b1] <;> rfl)
          refine AW.condF rfl ?_
          refine AW.keepB [5, 6, 7, 12, 13, 14] [] (by simp only [go_sem, ↓reduceIte]) (by simp only [go_sem, ↓reduceIte] <;> rfl) ?_
          exact hT ()
      refine AW.go ?_ (by simp only [go_sem, ↓reduceIte, ea, e7, hu, eo] <;> rfl)
      refine AW.cond rfl (fun hc2 => ?_) (fun hc2 => ?_)
      · have h128 : 128 ≤ x := by simp at hc2; omega
        rw [if_pos h128] at hr
        refine AW.go ?_ (by simp only [go_sem, ↓reduceIte, ei] <;> rfl)
        refine AW.again hK (i + 1, v + x % 128 * 128 ^ i) ⟨hlt, hr, ?_⟩ (by simp only; omega)
        simp only
        rw [hp]
        have h1 : x % 128 * 128 ^ i ≤ 127 * 128 ^ i := Nat.mul_le_mul_right _ (by omega)
        omega
      · have h128 : ¬ 128 ≤ x := by simp at hc2; omega
        rw [if_neg h128] at hr
        have hxm : x % 128 = x := Nat.mod_eq_of_lt (by omega)
        have e0 : ((x : Int) == 0) = decide (x = 0) := by rw [Bool.eq_iff_iff]; simp
        have ep : decide ((i : Int) > 0) = decide (0 < i) := by rw [Bool.eq_iff_iff]; simp
        rw [hxm]
        by_cases k0 : x = 0
        · have b1 : decide (x = 0) = true := by simpa using k0
          refine AW.gg ?_ (by simp only [go_sem, ↓reduceIte, e0, b1] <;> rfl)
          refine AW.cond rfl (fun hc3 => ?_) (fun hc3 => ?_)
          · have : 0 < i := by simp at hc3; omega
            rw [if_pos ⟨k0, this⟩] at hr
            refine AW.go ?_
            refine AW.finE (.pv _ (.pv _ (.pv _ .nil))) ?_
            rw [← hr]; rfl
          · have : ¬ 0 < i := by simp at hc3; omega
            rw [if_neg (fun h => this h.2)] at hr
            refine AW.go ?_ (by simp only [go_sem, ↓reduceIte, ei] <;> rfl)
            refine AW.finE (.pv _ (.pv _ (.pv _ .nil))) ?_
            rw [← hr]
        · have b1 : decide (x = 0) = false := by simpa using k0
          refine AW.gg ?_ (by simp only [go_sem, ↓reduceIte, e0, b1] <;> rfl)
          refine AW.condF rfl ?_
          rw [if_neg (fun h => k0 h.1)] at hr
          refine AW.go ?_ (by simp only [go_sem, ↓reduceIte, ei] <;> rfl)
          refine AW.finE (.pv _ (.pv _ (.pv _ .nil))) ?_
          rw [← hr]
  · have hge : ¬ i < c.length := by simpa using hc
    rw [List.drop_eq_nil_of_le (by omega), rdv] at hr
    refine AW.go ?_
    refine AW.finE (.pv _ (.pv _ (.pv _ .nil))) ?_
    rw [← hr]; rfl
end Go.Ck

set_option linter.unusedVariables false
namespace Go.Ck
/-- Bytes, the first the greatest. -/
def beN (l : List Nat) : Nat := l.foldl (fun a x => a * 256 + x) 0
theorem beN_snoc (l : List Nat) (x : Nat) : beN (l ++ [x]) = beN l * 256 + x := by simp [beN]
theorem beN_lt (l : List Nat) (h : ∀ x ∈ l, x < 256) : beN l < 256 ^ l.length := by
  have : ∀ (n : Nat) (l : List Nat), l.length = n → (∀ x ∈ l, x < 256) → beN l < 256 ^ n := by
    intro n
    induction n with
    | zero => intro l hl _; rw [List.length_eq_zero_iff.1 hl]; simp [beN]
    | succ n ih =>
      intro l hl h
      have hne : l ≠ [] := by rintro rfl; simp at hl
      rw [← List.dropLast_concat_getLast hne, beN_snoc]
      have h1 := ih l.dropLast (by simp; omega) (fun x hx => h x (List.dropLast_subset l hx))
      have h2 := h _ (List.getLast_mem hne)
      rw [Nat.pow_succ]
      omega
  exact this _ l rfl h
/-- A number in n bytes. -/
def beB (v : Nat) : Nat → List Nat
  | 0 => []
  | n + 1 => (v / 256 ^ n % 256) :: beB v n
theorem beB_len (v n : Nat) : (beB v n).length = n := by induction n with | zero => rfl | succ n ih => simp [beB, ih]
theorem beB_byte (v n : Nat) : ∀ x ∈ beB v n, x < 256 := by
  induction n with
  | zero => simp [beB]
  | succ n ih => intro x hx; rcases List.mem_cons.1 hx with rfl | hx
                 · omega
                 · exact ih x hx
theorem or_lt256 {a x : Nat} (ha : a < 2 ^ 56) (hx : x < 256) : ibits .or .u64 (shlI .u64 (a : Int) 8) (x : Int) = ((a * 256 + x : Nat) : Int) := by
  have h8 : ((8 : Nat) : Int) = 8 := rfl
  have := shlI_nat64 a 8 (by omega)
  rw [h8] at this
  rw [this, show (2 : Nat) ^ 8 = 256 from rfl, Nat.mod_eq_of_lt (by omega), ibits_or64 (by omega) (by omega)]
  congr 1
  have := Nat.two_pow_add_eq_or_of_lt (i := 8) (b := x) (by omega) a
  rw [Nat.mul_comm a, ← this]
/-- The next block: bytes, why not, what is left. -/
def blk (l : List Nat) (m : Nat) : List Nat × Int × List Nat :=
  if (readV l).2.2 ≠ 0 then ([], (readV l).2.2, l) else if m < (readV l).1 then ([], 4, l) else if l.length - (readV l).2.1 < (readV l).1 then ([], 2, l)
  else ((l.drop (readV l).2.1).take (readV l).1, 0, l.drop ((readV l).2.1 + (readV l).1))
end Go.Ck
namespace Go.Ck
theorem rdv_take : ∀ (l : List Nat) (k acc n : Nat), k ≤ 9 → k + n = 10 → rdv k acc (l.take n) = rdv k acc l
  | [], k, acc, n, hk, h => by simp
  | x :: r, k, acc, 0, hk, h => by omega
  | x :: r, k, acc, n + 1, hk, h => by
    rw [List.take_succ_cons]
    simp only [rdv]
    split
    · rfl
    · rename_i h9
      split
      · rw [rdv_take r (k + 1) _ n (by omega) (by omega)]
      · rfl
theorem readV_eq (l : List Nat) : readV l = rdv 0 0 l := rdv_take l 0 0 10 (by omega) (by omega)
theorem beB_succ (v n : Nat) : beB v (n + 1) = (v / 256 ^ n % 256) :: beB v n := rfl
end Go.Ck

set_option linter.unusedVariables false
set_option maxRecDepth 10000
namespace Go.Ck
open Go.Proofs
theorem curByte_fn (l : List Nat) (hl : l.length ≤ room) : Fn Try.prog 31 (curO l) [.ptr 1000 0]
    (fun rs H' => rs = [.pv (.int .u8 (l.headD 0 : Nat)), .pv (.int .i64 (if l = [] then 2 else 0))] ∧ H' = curO l.tail) := by
  refine Fn.of_body (fn := Try.f31) (n := 17) (res := [.tmp 2, .tmp 3]) (by kernel_rfl) rfl rfl rfl rfl rfl (fun C => ?_)
  refine AW.go ?_
  cases l with
  | nil =>
    have := curBytes_fn [] 1 hl
    simp only [List.length_nil, Nat.le_zero_eq, Nat.reduceEqDiff, Nat.one_ne_zero, if_false] at this
    refine AW.callE id this (.ptr rfl (.pv _ .nil)) ?_
    refine AW.go ?_
    refine AW.condT rfl ?_
    refine AW.go ?_
    refine AW.finE (.pv _ (.pv _ .nil)) rfl
  | cons x r =>
    have := curBytes_fn (x :: r) 1 hl
    simp only [List.length_cons, Nat.le_add_left, if_true, List.take_succ_cons, List.take_zero, List.drop_succ_cons, List.drop_zero] at this
    refine AW.callE id this (.ptr rfl (.pv _ .nil)) ?_
    refine AW.go ?_
    refine AW.condF rfl ?_
    have hget : (bytes [x])[0]? = some (.int .u8 (x : Nat)) := rfl
    refine AW.go ?_ (by simp only [go_sem, ↓reduceIte, hget] <;> rfl)
    refine AW.finE (.pv _ (.pv _ .nil)) rfl

theorem curVarint_fn (l : List Nat) (hl : l.length ≤ room) (hb : ∀ x ∈ l, x < 256) : Fn Try.prog 54 (curO l) [.ptr 1000 0]
    (fun rs H' => rs = [.pv (.int .u64 ((readV l).1 : Nat)), .pv (.int .i64 (readV l).2.2)] ∧ H' = curO (l.drop (readV l).2.1)) := by
  refine Fn.of_body (fn := Try.f54) (n := 26) (res := [.tmp 2, .tmp 3]) (by kernel_rfl) rfl rfl rfl rfl rfl (fun C => ?_)
  refine AW.go ?_
  refine AW.condF rfl ?_
  refine AW.go ?_
  refine AW.callE (fun _ => 0) (read_fn l hb) (.pv _ .nil) ?_
  refine AW.go ?_
  refine AW.callE id (take_fn l _ (readV_le l) hl) (.ptr rfl (.pv _ .nil)) ?_
  refine AW.go ?_
  refine AW.finE (.pv _ (.pv _ .nil)) rfl

theorem curFixed_fn (l : List Nat) (n : Nat) (hn : n ≤ 8) (hl : l.length ≤ room) (hb : ∀ x ∈ l, x < 256) : Fn Try.prog 52 (curO l) [.ptr 1000 0, .pv (.int .i64 n)]
    (fun rs H' => rs = [.pv (.int .u64 ((if n ≤ l.length then beN (l.take n) else 0) : Nat)), .pv (.int .i64 (if n ≤ l.length then 0 else 2))] ∧ H' = curO (if n ≤ l.length then l.drop n else l)) := by
  refine Fn.of_body (fn := Try.f52) (n := 33) (res := [.tmp 4, .tmp 5]) (by kernel_rfl) rfl rfl rfl rfl rfl (fun C => ?_)
  refine AW.go ?_
  refine AW.condF (by simp only [go_sem, ↓reduceIte]; congr 3; simp; omega) ?_
  refine AW.go ?_
  refine AW.callE id (curBytes_fn l n hl) (.ptr rfl (.pv _ .nil)) ?_
  have e0 : (if n ≤ l.length then beN (l.take n) else 0) = beN (if n ≤ l.length then l.take n else []) := by split <;> rfl
  rw [e0]
  have hxl : (if n ≤ l.length then l.take n else []).length ≤ 8 := by split <;> simp <;> omega
  have hxb : ∀ x ∈ (if n ≤ l.length then l.take n else []), x < 256 := by
    split
    · exact fun x hx => hb x (List.mem_of_mem_take hx)
    · simp
  generalize (if n ≤ l.length then l.take n else []) = xs at *
  generalize hE : (if n ≤ l.length then 0 else 2 : Int) = er
  generalize hR : (if n ≤ l.length then l.drop n else l) = lr
  refine AW.go ?_
  have hr : room < 2 ^ 63 := by decide
  refine AW.loopS (fun i : Nat => ⟨33, [(21, .pv (.int .i64 i)), (8, .pv (.int .u64 (beN (xs.take i) : Nat))), (19, .al (.slot 6)), (20, .pv (.int .i64 xs.length)), (6, .own 5 (bytes xs)), (7, .pv (.int .i64 er))], curO lr⟩) (fun i => i ≤ xs.length) (fun i => xs.length - i) [21, 8, 19, 20, 6, 7] [1000] 0 (Nat.zero_le _) ?_
  rintro i hi K hK
  refine AW.go ?_
  refine AW.cond rfl (fun hc => ?_) (fun hc => ?_)
  · have hlt : i < xs.length := by simpa using hc
    have hget := bytes_get hlt
    have hx := hxb _ (List.getElem_mem hlt)
    have hti : xs.take (i + 1) = xs.take i ++ [xs[i]] := by simp
    have hbl := beN_lt (xs.take i) (fun x hx => hxb x (List.mem_of_mem_take hx))
    have hp : 256 ^ (xs.take i).length ≤ 256 ^ 7 := Nat.pow_le_pow_right (by omega) (by simp; omega)
    have eo := or_lt256 (a := beN (xs.take i)) (x := xs[i]) (by omega) hx
    have eu : IntKind.u64.wrap ((xs[i] : Nat) : Int) = (xs[i] : Nat) := wrap_u64_lt (by omega)
    have ei : IntKind.i64.wrap ((i : Int) + 1) = ((i + 1 : Nat) : Int) := wrap_i64_succ (by omega)
    rw [← beN_snoc, ← hti] at eo
    refine AW.go ?_ (by simp only [go_sem, ↓reduceIte, hget, hlt, eu, eo, ei] <;> rfl)
    refine AW.again hK (i + 1) hlt (by omega)
  · have hge : ¬ i < xs.length := by simpa using hc
    rw [List.take_of_length_le (by omega)]
    refine AW.go ?_
    refine AW.finE (.pv _ (.pv _ .nil)) rfl
end Go.Ck
