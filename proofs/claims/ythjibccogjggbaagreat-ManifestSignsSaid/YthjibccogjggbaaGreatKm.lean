/- What is proved here: parts of the proofs of this seat's statements (a verified evaluator for calls over pure values, its laws, and contracts of functions). No condition. -/
import Derived.Test.YthjibccogjggbaaGreatKl
set_option linter.all false
set_option linter.unusedVariables false
namespace Go.Ck
def u64s (l : List Nat) : List PV := l.map fun (n : Nat) => .int .u64 (n : Int)
def bytes (l : List Nat) : List PV := l.map fun (n : Nat) => .int .u8 (n : Int)
def ints (l : List Int) : List PV := l.map (.int .i64)

theorem wrap_u64 (n : Nat) : IntKind.u64.wrap (n : Int) = ((n % 2 ^ 64 : Nat) : Int) := by
  rw [IntKind.wrap_u64]; omega
theorem wrap_u64_lt {n : Nat} (h : n < 2 ^ 64) : IntKind.u64.wrap (n : Int) = (n : Int) := by rw [wrap_u64, Nat.mod_eq_of_lt h]
theorem wrap_u8 (n : Nat) : IntKind.u8.wrap (n : Int) = ((n % 256 : Nat) : Int) := by
  rw [IntKind.wrap_u8]; omega
theorem wrap_u8_lt {n : Nat} (h : n < 256) : IntKind.u8.wrap (n : Int) = (n : Int) := by rw [wrap_u8, Nat.mod_eq_of_lt h]
theorem wrap_i64_of {n : Int} (h : -(2 ^ 63) ≤ n) (h2 : n < 2 ^ 63) : IntKind.i64.wrap n = n := by
  rw [IntKind.wrap_i64]; omega
theorem wrap_i64_nat {n : Nat} (h : n < 2 ^ 63) : IntKind.i64.wrap (n : Int) = (n : Int) := wrap_i64_of (by omega) (by omega)
theorem wrap_i64_succ {n : Nat} (h : n + 1 < 2 ^ 63) : IntKind.i64.wrap ((n : Int) + 1) = ((n + 1 : Nat) : Int) := by rw [wrap_i64_of (by omega) (by omega)]; omega

theorem ofInt_nat (w n : Nat) : BitVec.ofInt w (n : Int) = BitVec.ofNat w n := by simp
theorem ibits_or64 {a b : Nat} (ha : a < 2 ^ 64) (hb : b < 2 ^ 64) : ibits .or .u64 (a : Int) (b : Int) = ((a ||| b : Nat) : Int) := by
  simp only [ibits, ofInt_nat, BitVec.toNat_or, BitVec.toNat_ofNat]
  rw [show IntKind.u64.bits = 64 from rfl, Nat.mod_eq_of_lt ha, Nat.mod_eq_of_lt hb, wrap_u64_lt (Nat.or_lt_two_pow ha hb)]
theorem ibits_and64 {a b : Nat} (ha : a < 2 ^ 64) (hb : b < 2 ^ 64) : ibits .and .u64 (a : Int) (b : Int) = ((a &&& b : Nat) : Int) := by
  simp only [ibits, ofInt_nat, BitVec.toNat_and, BitVec.toNat_ofNat]
  rw [show IntKind.u64.bits = 64 from rfl, Nat.mod_eq_of_lt ha, Nat.mod_eq_of_lt hb, wrap_u64_lt (Nat.lt_of_le_of_lt Nat.and_le_left ha)]
theorem ibits_xor64 {a b : Nat} (ha : a < 2 ^ 64) (hb : b < 2 ^ 64) : ibits .xor .u64 (a : Int) (b : Int) = ((a ^^^ b : Nat) : Int) := by
  simp only [ibits, ofInt_nat, BitVec.toNat_xor, BitVec.toNat_ofNat]
  rw [show IntKind.u64.bits = 64 from rfl, Nat.mod_eq_of_lt ha, Nat.mod_eq_of_lt hb, wrap_u64_lt (Nat.xor_lt_two_pow ha hb)]
theorem ibits_or8 {a b : Nat} (ha : a < 2 ^ 8) (hb : b < 2 ^ 8) : ibits .or .u8 (a : Int) (b : Int) = ((a ||| b : Nat) : Int) := by
  simp only [ibits, ofInt_nat, BitVec.toNat_or, BitVec.toNat_ofNat]
  rw [show IntKind.u8.bits = 8 from rfl, Nat.mod_eq_of_lt ha, Nat.mod_eq_of_lt hb, wrap_u8_lt (Nat.or_lt_two_pow ha hb)]
theorem shrI_nat (k : IntKind) (a m : Nat) (hm : m ≤ k.bits) : shrI k (a : Int) (m : Int) = ((a / 2 ^ m : Nat) : Int) := by
  unfold shrI
  rw [Int.toNat_natCast, Nat.min_eq_left hm, Int.fdiv_eq_ediv_of_nonneg _ (by exact_mod_cast Nat.zero_le _)]
  simp
theorem shlI_nat64 (a m : Nat) (hm : m ≤ 64) : shlI .u64 (a : Int) (m : Int) = ((a * 2 ^ m % 2 ^ 64 : Nat) : Int) := by
  unfold shlI
  rw [Int.toNat_natCast, show IntKind.u64.bits = 64 from rfl, Nat.min_eq_left hm, ← wrap_u64]
  simp
theorem bytes_length (l : List Nat) : (bytes l).length = l.length := by simp [bytes]
theorem bytes_append (l r : List Nat) : bytes l ++ bytes r = bytes (l ++ r) := by simp [bytes]
theorem bytes_take (l : List Nat) (n : Nat) : (bytes l).take n = bytes (l.take n) := by simp [bytes]
theorem bytes_drop (l : List Nat) (n : Nat) : (bytes l).drop n = bytes (l.drop n) := by simp [bytes]
theorem bytes_one (n : Nat) : [PV.int .u8 (n : Int)] = bytes [n] := rfl
theorem bytes_get {l : List Nat} {i : Nat} (h : i < l.length) : (bytes l)[i]? = some (.int .u8 (l[i] : Nat)) := by simp [bytes, h]
theorem bytes_set (l : List Nat) (i n : Nat) : (bytes l).set i (.int .u8 (n : Int)) = bytes (l.set i n) := by simp [bytes, List.map_set]
theorem u64s_length (l : List Nat) : (u64s l).length = l.length := by simp [u64s]
theorem u64s_append (l r : List Nat) : u64s l ++ u64s r = u64s (l ++ r) := by simp [u64s]
theorem u64s_take (l : List Nat) (n : Nat) : (u64s l).take n = u64s (l.take n) := by simp [u64s]
theorem u64s_drop (l : List Nat) (n : Nat) : (u64s l).drop n = u64s (l.drop n) := by simp [u64s]
theorem ints_length (l : List Int) : (ints l).length = l.length := by simp [ints]
theorem ints_append (l r : List Int) : ints l ++ ints r = ints (l ++ r) := by simp [ints]
theorem ints_take (l : List Int) (n : Nat) : (ints l).take n = ints (l.take n) := by simp [ints]
theorem ints_drop (l : List Int) (n : Nat) : (ints l).drop n = ints (l.drop n) := by simp [ints]
theorem cloL_bytes (l : List Nat) : cloL (bytes l) = true := by induction l with | nil => rfl | cons a l ih => simpa [bytes, cloL, PV.clo] using ih
theorem cloL_u64s (l : List Nat) : cloL (u64s l) = true := by induction l with | nil => rfl | cons a l ih => simpa [u64s, cloL, PV.clo] using ih
theorem cloL_ints (l : List Int) : cloL (ints l) = true := by induction l with | nil => rfl | cons a l ih => simpa [ints, cloL, PV.clo] using ih
def nis (l : List Nat) : List PV := l.map fun (n : Nat) => .int .i64 (n : Int)
theorem nis_length (l : List Nat) : (nis l).length = l.length := by simp [nis]
theorem nis_append (l r : List Nat) : nis l ++ nis r = nis (l ++ r) := by simp [nis]
theorem nis_take (l : List Nat) (n : Nat) : (nis l).take n = nis (l.take n) := by simp [nis]
theorem nis_drop (l : List Nat) (n : Nat) : (nis l).drop n = nis (l.drop n) := by simp [nis]
theorem cloL_nis (l : List Nat) : cloL (nis l) = true := by induction l with | nil => rfl | cons a l ih => simpa [nis, cloL, PV.clo] using ih
attribute [go_sem] nis_length nis_append nis_take nis_drop cloL_nis
theorem bytes_get0 (x : Nat) (r : List Nat) : (bytes (x :: r))[0]? = some (.int .u8 (x : Int)) := rfl
theorem u64s_get0 (x : Nat) (r : List Nat) : (u64s (x :: r))[0]? = some (.int .u64 (x : Int)) := rfl
theorem nis_get0 (x : Nat) (r : List Nat) : (nis (x :: r))[0]? = some (.int .i64 (x : Int)) := rfl
theorem ints_get0 (x : Int) (r : List Int) : (ints (x :: r))[0]? = some (.int .i64 x) := rfl
attribute [go_sem] bytes_get0 u64s_get0 nis_get0 ints_get0
theorem nat_lt_zero (n : Nat) : ((n : Int) < 0) = False := by simp
theorem zero_le_nat (n : Nat) : ((0 : Int) ≤ (n : Int)) = True := by simp
theorem le_maxLen (n : Nat) (h : n ≤ 1000 := by decide) : n ≤ maxLen := by unfold maxLen; omega
theorem le_room (n : Nat) (h : n ≤ 1000 := by decide) : n ≤ room := by unfold room; omega
theorem le_maxLen0 : (0 ≤ maxLen) = True := by simp
theorem le_maxLen1 : (1 ≤ maxLen) = True := by simp [le_maxLen]
theorem le_maxLen2 : (2 ≤ maxLen) = True := by simp [le_maxLen]
theorem le_maxLen3 : (3 ≤ maxLen) = True := by simp [le_maxLen]
theorem le_maxLen16 : (16 ≤ maxLen) = True := by simp [le_maxLen]
theorem le_room0 : (0 ≤ room) = True := by simp
theorem le_room1 : (1 ≤ room) = True := by simp [le_room]
theorem le_room8 : (8 ≤ room) = True := by simp [le_room]
theorem natmul (k n : Nat) : ((k : Nat) : Int) * (n : Int) = ((k * n : Nat) : Int) := rfl
attribute [go_sem] le_maxLen0 le_maxLen1 le_maxLen2 le_maxLen3 le_maxLen16 le_room0 le_room1 le_room8 natmul Nat.one_mul Int.toNat_natCast
attribute [go_sem] nat_lt_zero zero_le_nat id_eq id bytes_length bytes_append bytes_take bytes_drop u64s_length u64s_append u64s_take u64s_drop ints_length ints_append ints_take ints_drop cloL_bytes cloL_u64s cloL_ints Int.ofNat_le Int.ofNat_lt SV.clo HO.clo PV.clo okA okB resOK nodupB freshO nilL cellsIn inL offP offM neM HM allIn List.isEmpty_nil Option.isSome_some Int.natCast_nonneg Int.sub_zero Option.map_some Option.map_none
end Go.Ck

set_option linter.unusedVariables false
namespace Go.Ck
theorem cells_one {p q : PV} (h : p.cells = [q]) (h1 : p.one = true) : p = q := by
  cases p <;> first | (simp [PV.cells] at h; exact h) | simp [PV.one] at h1
section
variable {P : Program} {n : Nat} {t : TypeId} {p : PV}
theorem PT_int {k : IntKind} (hu : P.underlying t = some (.int k)) (h : PT P (n + 1) t p.cells) (h1 : p.one = !isAggT P t) : ∃ m, p = .int k m ∧ (Lit.int k m).wf = true := by
  unfold isAggT at h1
  rw [hu] at h1
  unfold PT at h
  rw [hu] at h
  obtain ⟨m, e, hw⟩ := h
  exact ⟨m, cells_one e h1, hw⟩
theorem PT_str (hu : P.underlying t = some .string) (h : PT P (n + 1) t p.cells) (h1 : p.one = !isAggT P t) : ∃ s, p = .str s ∧ s.length ≤ maxLen := by
  unfold isAggT at h1
  rw [hu] at h1
  unfold PT at h
  rw [hu] at h
  obtain ⟨m, e, hw⟩ := h
  exact ⟨m, cells_one e h1, hw⟩
theorem PT_slice {e : TypeId} (hu : P.underlying t = some (.slice e)) (h : PT P (n + 1) t p.cells) (h1 : p.one = !isAggT P t) : ∃ xs, p = .sl (P.cellsOf e) xs ∧ xs.length ≤ maxLen ∧ ∀ x ∈ xs, PT P n e x.cells ∧ x.one = !isAggT P e := by
  unfold isAggT at h1
  rw [hu] at h1
  unfold PT at h
  rw [hu] at h
  obtain ⟨xs, e, h2, h3⟩ := h
  exact ⟨xs, cells_one e h1, h2, h3⟩
theorem ints_of {k : IntKind} : ∀ (xs : List PV), (∀ x ∈ xs, ∃ m, x = .int k m ∧ (Lit.int k m).wf = true) → ∃ l : List Int, xs = l.map (.int k) ∧ ∀ m ∈ l, (Lit.int k m).wf = true
  | [], _ => ⟨[], rfl, by simp⟩
  | x :: r, h => by
    obtain ⟨m, rfl, hm⟩ := h x (by simp)
    obtain ⟨l, rfl, hl⟩ := ints_of r (fun y hy => h y (by simp [hy]))
    exact ⟨m :: l, rfl, by simpa using ⟨hm, hl⟩⟩
theorem PT_ints {e : TypeId} {k : IntKind} (hu : P.underlying t = some (.slice e)) (he : P.underlying e = some (.int k)) (hc : P.cellsOf e = 1) (h : PT P (n + 2) t p.cells) (h1 : p.one = !isAggT P t) : ∃ l : List Int, p = .sl 1 (l.map (.int k)) ∧ l.length ≤ maxLen ∧ ∀ m ∈ l, (Lit.int k m).wf = true := by
  obtain ⟨xs, rfl, h2, h3⟩ := PT_slice (n := n + 1) hu h h1
  obtain ⟨l, rfl, hl⟩ := ints_of xs (fun x hx => PT_int (n := n) he (h3 x hx).1 (h3 x hx).2)
  exact ⟨l, by rw [hc], by simpa using h2, hl⟩
theorem nats_of {k : IntKind} (hk : k.signed = false) : ∀ (l : List Int), (∀ m ∈ l, (Lit.int k m).wf = true) → ∃ r : List Nat, l = r.map (fun (n : Nat) => (n : Int)) ∧ ∀ x ∈ r, x < 2 ^ k.bits
  | [], _ => ⟨[], rfl, by simp⟩
  | m :: r, h => by
    have hm := h m (by simp)
    simp only [Lit.wf, IntKind.min, IntKind.max, hk, Bool.and_eq_true, decide_eq_true_eq] at hm
    obtain ⟨l, rfl, hl⟩ := nats_of hk r (fun y hy => h y (by simp [hy]))
    obtain ⟨a, rfl⟩ : ∃ a : Nat, m = a := ⟨m.toNat, by have := hm.1; simp at this; omega⟩
    refine ⟨a :: l, rfl, ?_⟩
    simp only [List.mem_cons, forall_eq_or_imp]
    refine ⟨?_, hl⟩
    have h2 : (a : Int) ≤ 2 ^ k.bits - 1 := hm.2
    have h3 : ((2 ^ k.bits : Nat) : Int) = (2 : Int) ^ k.bits := by norm_cast
    omega
theorem PT_u64s {e : TypeId} (hu : P.underlying t = some (.slice e)) (he : P.underlying e = some (.int .u64)) (hc : P.cellsOf e = 1) (h : PT P (n + 2) t p.cells) (h1 : p.one = !isAggT P t) : ∃ l : List Nat, p = .sl 1 (u64s l) ∧ l.length ≤ maxLen ∧ ∀ x ∈ l, x < 2 ^ 64 := by
  obtain ⟨l, rfl, h2, h3⟩ := PT_ints (n := n) hu he hc h h1
  obtain ⟨r, rfl, h4⟩ := nats_of rfl l h3
  exact ⟨r, by simp [u64s], by simpa using h2, h4⟩
theorem PT_bytes {e : TypeId} (hu : P.underlying t = some (.slice e)) (he : P.underlying e = some (.int .u8)) (hc : P.cellsOf e = 1) (h : PT P (n + 2) t p.cells) (h1 : p.one = !isAggT P t) : ∃ l : List Nat, p = .sl 1 (bytes l) ∧ l.length ≤ maxLen ∧ ∀ x ∈ l, x < 256 := by
  obtain ⟨l, rfl, h2, h3⟩ := PT_ints (n := n) hu he hc h h1
  obtain ⟨r, rfl, h4⟩ := nats_of rfl l h3
  exact ⟨r, by simp [bytes], by simpa using h2, h4⟩
theorem PT_u64 (hu : P.underlying t = some (.int .u64)) (h : PT P (n + 1) t p.cells) (h1 : p.one = !isAggT P t) : ∃ v : Nat, p = .int .u64 v ∧ v < 2 ^ 64 := by
  obtain ⟨m, rfl, hm⟩ := PT_int hu h h1
  obtain ⟨r, hr, h4⟩ := nats_of (k := .u64) rfl [m] (by simpa using hm)
  match r, hr with
  | [a], hr => simp at hr; subst hr; exact ⟨a, rfl, h4 a (by simp)⟩
theorem PT_u8 (hu : P.underlying t = some (.int .u8)) (h : PT P (n + 1) t p.cells) (h1 : p.one = !isAggT P t) : ∃ v : Nat, p = .int .u8 v ∧ v < 256 := by
  obtain ⟨m, rfl, hm⟩ := PT_int hu h h1
  obtain ⟨r, hr, h4⟩ := nats_of (k := .u8) rfl [m] (by simpa using hm)
  match r, hr with
  | [a], hr => simp at hr; subst hr; exact ⟨a, rfl, h4 a (by simp)⟩
theorem wf_i64 {m : Int} (h : (Lit.int .i64 m).wf = true) : -2 ^ 63 ≤ m ∧ m < 2 ^ 63 := by
  simp only [Lit.wf, IntKind.min, IntKind.max, Bool.and_eq_true, decide_eq_true_eq] at h
  have h1 : -(2 : Int) ^ 63 ≤ m := of_decide_eq_true h.1
  have h2 : m ≤ (2 : Int) ^ 63 - 1 := of_decide_eq_true h.2
  omega
theorem PT_i64 (hu : P.underlying t = some (.int .i64)) (h : PT P (n + 1) t p.cells) (h1 : p.one = !isAggT P t) : ∃ v : Int, p = .int .i64 v ∧ -2 ^ 63 ≤ v ∧ v < 2 ^ 63 := by
  obtain ⟨m, rfl, hm⟩ := PT_int hu h h1
  exact ⟨m, rfl, wf_i64 hm⟩
theorem PT_i64s {e : TypeId} (hu : P.underlying t = some (.slice e)) (he : P.underlying e = some (.int .i64)) (hc : P.cellsOf e = 1) (h : PT P (n + 2) t p.cells) (h1 : p.one = !isAggT P t) : ∃ l : List Int, p = .sl 1 (ints l) ∧ l.length ≤ maxLen ∧ ∀ x ∈ l, -2 ^ 63 ≤ x ∧ x < 2 ^ 63 := by
  obtain ⟨l, rfl, h2, h3⟩ := PT_ints (n := n) hu he hc h h1
  exact ⟨l, rfl, h2, fun x hx => wf_i64 (h3 x hx)⟩
theorem PA1 {N : Nat} {t : TypeId} {pl : List PV} (h : PA P N [t] pl) : ∃ p, pl = [p] ∧ PT P N t p.cells ∧ p.one = !isAggT P t := by
  obtain ⟨h1, h2⟩ := h
  match pl, h1 with
  | [p], _ => exact ⟨p, rfl, h2 0 _ _ rfl rfl⟩
theorem PA2 {N : Nat} {t u : TypeId} {pl : List PV} (h : PA P N [t, u] pl) : ∃ p q, pl = [p, q] ∧ (PT P N t p.cells ∧ p.one = !isAggT P t) ∧ (PT P N u q.cells ∧ q.one = !isAggT P u) := by
  obtain ⟨h1, h2⟩ := h
  match pl, h1 with
  | [p, q], _ => exact ⟨p, q, rfl, h2 0 _ _ rfl rfl, h2 1 _ _ rfl rfl⟩
theorem PA3 {N : Nat} {t u v : TypeId} {pl : List PV} (h : PA P N [t, u, v] pl) : ∃ p q r, pl = [p, q, r] ∧ (PT P N t p.cells ∧ p.one = !isAggT P t) ∧ (PT P N u q.cells ∧ q.one = !isAggT P u) ∧ (PT P N v r.cells ∧ r.one = !isAggT P v) := by
  obtain ⟨h1, h2⟩ := h
  match pl, h1 with
  | [p, q, r], _ => exact ⟨p, q, r, rfl, h2 0 _ _ rfl rfl, h2 1 _ _ rfl rfl, h2 2 _ _ rfl rfl⟩
end
end Go.Ck

set_option linter.unusedVariables false
namespace Go.Ck
open Go.RowKit Go.ChangeShapes Go.WideShapes Go.ChangeAt
theorem law_plain {C : Checked} {os : Os} {f : FuncId} {fn : Func} {s : ChangeSpec} {H : Type} {enc : TypeId × Value → H} {N : Nat} {tb : TypeId} (own : ownKnob C.prog.godebug = none) (started : os.Started) (noInit : C.prog.inits.idxOf? f = none) (hfn : C.prog.funcs[f]? = some fn)
    (witness : ∃ (w : World) (tape : Tape) (i : Input), w.os = os ∧ (w.forCall tape i).Shaped C.prog ∧ i.vars = [] ∧ Input.okWide C.prog (w.forCall tape i) .any w.heap.size f i ∧
      s.pre6 enc C.prog fn [] false (w.forCall tape i).memory i.args ∧ ({} : Assume).holds C.prog (lone (Frame.enter C.prog f i.args .normal) [] (w.forCall tape i)))
    (hl : laidOutB C.prog = true) (hm : mapsRowed C.prog = true) (ht : fn.params.toList.all (fun t => decide (t < C.prog.types.size) && okP C.prog N t && C.prog.readableRec t) = true) (hv : s.vars = [])
    (hs : ∀ ds : List (DataW H), ds.length = fn.params.size → s.fn H ds = { results := [.lit (.bool true)], args := ds }) (hrt : fn.resultTypes = #[tb]) (hub : C.prog.underlying tb = some .bool)
    (hF : ∀ pl, PA C.prog N fn.params.toList pl → Fn C.prog f [] (pl.map .pv) (fun rs H' => rs = [.pv (.bool true)] ∧ H' = [])) (hG : gtabs C.prog = []) :
    ReturnsInHanded {} C os f .any (s.pre6 enc C.prog fn [] false) (s.post enc C.prog fn false true false false) := by
  refine returnsInHanded_of_change (C := C) own started noInit hfn witness ?_
  intro W base args ds gs before hval hW _ _
  have ht' : ∀ t ∈ fn.params.toList, t < C.prog.types.size ∧ okP C.prog N t = true ∧ C.prog.readableRec t = true := fun t h => by
    have := List.all_eq_true.1 ht t h
    simp only [Bool.and_eq_true, decide_eq_true_eq] at this
    exact ⟨this.1.1, this.1.2, this.2⟩
  have hW' := hW
  obtain ⟨p, q, hA, hV, _, _, _⟩ := hW
  refine (law_calls (enc := enc) hl hm (fun t h => ⟨(ht' t h).1, (ht' t h).2.1⟩) hF (gok_none hG) (fun j t v hj hv => hval j t v (by simpa using hj) hv) hA).mono fun e W' ⟨he, hb⟩ => ⟨_, he, ?_⟩
  exact law_post hl hv hs hrt hub (fun t h => ⟨(ht' t h).2.2, (ht' t h).1⟩) hW' hb
end Go.Ck
