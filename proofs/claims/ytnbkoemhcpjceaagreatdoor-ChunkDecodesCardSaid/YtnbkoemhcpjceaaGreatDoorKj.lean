/- What is proved here: parts of the proofs of this seat's statements (a verified evaluator for calls over pure values, its laws, and contracts of functions). No condition. -/
import Derived.Test.YtnbkoemhcpjceaaGreatDoorKi
import Derived.Test.YtnbkoemhcpjceaaGreatDoorProg
import Derived.KernelRfl
set_option linter.all false
set_option linter.unusedVariables false
namespace Go.Ck
def u64s (l : List Nat) : List PV := l.map fun (n : Nat) => .int .u64 (n : Int)
def bytes (l : List Nat) : List PV := l.map fun (n : Nat) => .int .u8 (n : Int)
def ints (l : List Int) : List PV := l.map (.int .i64)

theorem wrap_u64 (n : Nat) : IntKind.u64.wrap (n : Int) = ((n % 2 ^ 64 : Nat) : Int) := by
  rw [IntKind.wrap_u64]; omega
theorem wrap_u64_lt {n : Nat} (h : n < 2 ^ 64) : IntKind.u64.wrap (n : Int) = (n : Int) := by rw [wrap_u64, Nat.mod_eq_of_lt h]
theorem wrap_u8 (n : Nat) : IntKind.u8.wrap (n : Int) = ((n % 256 : Nat) : Int) := by
  rw [IntKind.wrap_u8]; omega
theorem wrap_u8_lt {n : Nat} (h : n < 256) : IntKind.u8.wrap (n : Int) = (n : Int) := by rw [wrap_u8, Nat.mod_eq_of_lt h]
theorem wrap_i64_of {n : Int} (h : -(2 ^ 63) ≤ n) (h2 : n < 2 ^ 63) : IntKind.i64.wrap n = n := by
  rw [IntKind.wrap_i64]; omega
theorem wrap_i64_nat {n : Nat} (h : n < 2 ^ 63) : IntKind.i64.wrap (n : Int) = (n : Int) := wrap_i64_of (by omega) (by omega)
theorem wrap_i64_succ {n : Nat} (h : n + 1 < 2 ^ 63) : IntKind.i64.wrap ((n : Int) + 1) = ((n + 1 : Nat) : Int) := by rw [wrap_i64_of (by omega) (by omega)]; omega

theorem ofInt_nat (w n : Nat) : BitVec.ofInt w (n : Int) = BitVec.ofNat w n := by simp
theorem ibits_or64 {a b : Nat} (ha : a < 2 ^ 64) (hb : b < 2 ^ 64) : ibits .or .u64 (a : Int) (b : Int) = ((a ||| b : Nat) : Int) := by
  simp only [ibits, ofInt_nat, BitVec.toNat_or, BitVec.toNat_ofNat]
  rw [show IntKind.u64.bits = 64 from rfl, Nat.mod_eq_of_lt ha, Nat.mod_eq_of_lt hb, wrap_u64_lt (Nat.or_lt_two_pow ha hb)]
theorem ibits_and64 {a b : Nat} (ha : a < 2 ^ 64) (hb : b < 2 ^ 64) : ibits .and .u64 (a : Int) (b : Int) = ((a &&& b : Nat) : Int) := by
  simp only [ibits, ofInt_nat, BitVec.toNat_and, BitVec.toNat_ofNat]
  rw [show IntKind.u64.bits = 64 from rfl, Nat.mod_eq_of_lt ha, Nat.mod_eq_of_lt hb, wrap_u64_lt (Nat.lt_of_le_of_lt Nat.and_le_left ha)]
theorem ibits_xor64 {a b : Nat} (ha : a < 2 ^ 64) (hb : b < 2 ^ 64) : ibits .xor .u64 (a : Int) (b : Int) = ((a ^^^ b : Nat) : Int) := by
  simp only [ibits, ofInt_nat, BitVec.toNat_xor, BitVec.toNat_ofNat]
  rw [show IntKind.u64.bits = 64 from rfl, Nat.mod_eq_of_lt ha, Nat.mod_eq_of_lt hb, wrap_u64_lt (Nat.xor_lt_two_pow ha hb)]
theorem ibits_or8 {a b : Nat} (ha : a < 2 ^ 8) (hb : b < 2 ^ 8) : ibits .or .u8 (a : Int) (b : Int) = ((a ||| b : Nat) : Int) := by
  simp only [ibits, ofInt_nat, BitVec.toNat_or, BitVec.toNat_ofNat]
  rw [show IntKind.u8.bits = 8 from rfl, Nat.mod_eq_of_lt ha, Nat.mod_eq_of_lt hb, wrap_u8_lt (Nat.or_lt_two_pow ha hb)]
theorem ibits_and8 {a b : Nat} (ha : a < 2 ^ 8) (hb : b < 2 ^ 8) : ibits .and .u8 (a : Int) (b : Int) = ((a &&& b : Nat) : Int) := by
  simp only [ibits, ofInt_nat, BitVec.toNat_and, BitVec.toNat_ofNat]
  rw [show IntKind.u8.bits = 8 from rfl, Nat.mod_eq_of_lt ha, Nat.mod_eq_of_lt hb, wrap_u8_lt (Nat.lt_of_le_of_lt Nat.and_le_left ha)]
theorem shrI_nat (k : IntKind) (a m : Nat) (hm : m ≤ k.bits) : shrI k (a : Int) (m : Int) = ((a / 2 ^ m : Nat) : Int) := by
  unfold shrI
  rw [Int.toNat_natCast, Nat.min_eq_left hm, Int.fdiv_eq_ediv_of_nonneg _ (by exact_mod_cast Nat.zero_le _)]
  simp
theorem shlI_nat64 (a m : Nat) (hm : m ≤ 64) : shlI .u64 (a : Int) (m : Int) = ((a * 2 ^ m % 2 ^ 64 : Nat) : Int) := by
  unfold shlI
  rw [Int.toNat_natCast, show IntKind.u64.bits = 64 from rfl, Nat.min_eq_left hm, ← wrap_u64]
  simp
theorem shlI_nat8 (a m : Nat) (hm : m ≤ 8) : shlI .u8 (a : Int) (m : Int) = ((a * 2 ^ m % 256 : Nat) : Int) := by
  unfold shlI
  rw [Int.toNat_natCast, show IntKind.u8.bits = 8 from rfl, Nat.min_eq_left hm, ← wrap_u8]
  simp

theorem bytes_length (l : List Nat) : (bytes l).length = l.length := by simp [bytes]
theorem bytes_append (l r : List Nat) : bytes l ++ bytes r = bytes (l ++ r) := by simp [bytes]
theorem bytes_take (l : List Nat) (n : Nat) : (bytes l).take n = bytes (l.take n) := by simp [bytes]
theorem bytes_drop (l : List Nat) (n : Nat) : (bytes l).drop n = bytes (l.drop n) := by simp [bytes]
theorem bytes_one (n : Nat) : [PV.int .u8 (n : Int)] = bytes [n] := rfl
theorem bytes_get {l : List Nat} {i : Nat} (h : i < l.length) : (bytes l)[i]? = some (.int .u8 (l[i] : Nat)) := by simp [bytes, h]
theorem bytes_set (l : List Nat) (i n : Nat) : (bytes l).set i (.int .u8 (n : Int)) = bytes (l.set i n) := by simp [bytes, List.map_set]
theorem u64s_length (l : List Nat) : (u64s l).length = l.length := by simp [u64s]
theorem u64s_append (l r : List Nat) : u64s l ++ u64s r = u64s (l ++ r) := by simp [u64s]
theorem u64s_take (l : List Nat) (n : Nat) : (u64s l).take n = u64s (l.take n) := by simp [u64s]
theorem u64s_drop (l : List Nat) (n : Nat) : (u64s l).drop n = u64s (l.drop n) := by simp [u64s]
theorem u64s_get {l : List Nat} {i : Nat} (h : i < l.length) : (u64s l)[i]? = some (.int .u64 (l[i] : Nat)) := by simp [u64s, h]
theorem ints_length (l : List Int) : (ints l).length = l.length := by simp [ints]
theorem ints_append (l r : List Int) : ints l ++ ints r = ints (l ++ r) := by simp [ints]
theorem ints_take (l : List Int) (n : Nat) : (ints l).take n = ints (l.take n) := by simp [ints]
theorem ints_drop (l : List Int) (n : Nat) : (ints l).drop n = ints (l.drop n) := by simp [ints]
theorem ints_get {l : List Int} {i : Nat} (h : i < l.length) : (ints l)[i]? = some (.int .i64 l[i]) := by simp [ints, h]
theorem cloL_bytes (l : List Nat) : cloL (bytes l) = true := by induction l with | nil => rfl | cons a l ih => simpa [bytes, cloL, PV.clo] using ih
theorem cloL_u64s (l : List Nat) : cloL (u64s l) = true := by induction l with | nil => rfl | cons a l ih => simpa [u64s, cloL, PV.clo] using ih
theorem cloL_ints (l : List Int) : cloL (ints l) = true := by induction l with | nil => rfl | cons a l ih => simpa [ints, cloL, PV.clo] using ih
def nis (l : List Nat) : List PV := l.map fun (n : Nat) => .int .i64 (n : Int)
theorem nis_length (l : List Nat) : (nis l).length = l.length := by simp [nis]
theorem nis_append (l r : List Nat) : nis l ++ nis r = nis (l ++ r) := by simp [nis]
theorem nis_take (l : List Nat) (n : Nat) : (nis l).take n = nis (l.take n) := by simp [nis]
theorem nis_drop (l : List Nat) (n : Nat) : (nis l).drop n = nis (l.drop n) := by simp [nis]
theorem nis_one (n : Nat) : [PV.int .i64 (n : Int)] = nis [n] := rfl
theorem nis_get {l : List Nat} {i : Nat} (h : i < l.length) : (nis l)[i]? = some (.int .i64 (l[i] : Nat)) := by simp [nis, h]
theorem cloL_nis (l : List Nat) : cloL (nis l) = true := by induction l with | nil => rfl | cons a l ih => simpa [nis, cloL, PV.clo] using ih
theorem u64s_one (n : Nat) : [PV.int .u64 (n : Int)] = u64s [n] := rfl
theorem u64s_set (l : List Nat) (i n : Nat) : (u64s l).set i (.int .u64 (n : Int)) = u64s (l.set i n) := by simp [u64s, List.map_set]
theorem ints_one (n : Int) : [PV.int .i64 n] = ints [n] := rfl
attribute [go_sem] nis_length nis_append nis_take nis_drop cloL_nis
theorem bytes_get0 (x : Nat) (r : List Nat) : (bytes (x :: r))[0]? = some (.int .u8 (x : Int)) := rfl
theorem u64s_get0 (x : Nat) (r : List Nat) : (u64s (x :: r))[0]? = some (.int .u64 (x : Int)) := rfl
theorem nis_get0 (x : Nat) (r : List Nat) : (nis (x :: r))[0]? = some (.int .i64 (x : Int)) := rfl
theorem ints_get0 (x : Int) (r : List Int) : (ints (x :: r))[0]? = some (.int .i64 x) := rfl
attribute [go_sem] bytes_get0 u64s_get0 nis_get0 ints_get0
theorem nat_lt_zero (n : Nat) : ((n : Int) < 0) = False := by simp
theorem zero_le_nat (n : Nat) : ((0 : Int) ≤ (n : Int)) = True := by simp
theorem le_maxLen (n : Nat) (h : n ≤ 1000 := by decide) : n ≤ maxLen := by unfold maxLen; omega
theorem le_room (n : Nat) (h : n ≤ 1000 := by decide) : n ≤ room := by unfold room; omega
theorem le_maxLen0 : (0 ≤ maxLen) = True := by simp
theorem le_maxLen1 : (1 ≤ maxLen) = True := by simp [le_maxLen]
theorem le_maxLen2 : (2 ≤ maxLen) = True := by simp [le_maxLen]
theorem le_maxLen3 : (3 ≤ maxLen) = True := by simp [le_maxLen]
theorem le_maxLen16 : (16 ≤ maxLen) = True := by simp [le_maxLen]
theorem le_room0 : (0 ≤ room) = True := by simp
theorem le_room1 : (1 ≤ room) = True := by simp [le_room]
theorem le_room8 : (8 ≤ room) = True := by simp [le_room]
theorem natmul (k n : Nat) : ((k : Nat) : Int) * (n : Int) = ((k * n : Nat) : Int) := rfl
attribute [go_sem] le_maxLen0 le_maxLen1 le_maxLen2 le_maxLen3 le_maxLen16 le_room0 le_room1 le_room8 natmul Nat.one_mul Int.toNat_natCast
attribute [go_sem] nat_lt_zero zero_le_nat id_eq id bytes_length bytes_append bytes_take bytes_drop u64s_length u64s_append u64s_take u64s_drop ints_length ints_append ints_take ints_drop cloL_bytes cloL_u64s cloL_ints Int.ofNat_le Int.ofNat_lt SV.clo HO.clo PV.clo okA okB resOK nodupB freshO nilL cellsIn inL offP offM neM HM allIn List.isEmpty_nil Option.isSome_some Int.natCast_nonneg Int.sub_zero Option.map_some Option.map_none
end Go.Ck

set_option linter.unusedVariables false
namespace Go.Ck
theorem cells_one {p q : PV} (h : p.cells = [q]) (h1 : p.one = true) : p = q := by
  cases p <;> first | (simp [PV.cells] at h; exact h) | simp [PV.one] at h1
section
variable {P : Program} {n : Nat} {t : TypeId} {p : PV}
theorem PT_int {k : IntKind} (hu : P.underlying t = some (.int k)) (h : PT P (n + 1) t p.cells) (h1 : p.one = !isAggT P t) : ∃ m, p = .int k m ∧ (Lit.int k m).wf = true := by
  unfold isAggT at h1
  rw [hu] at h1
  unfold PT at h
  rw [hu] at h
  obtain ⟨m, e, hw⟩ := h
  exact ⟨m, cells_one e h1, hw⟩
theorem PT_str (hu : P.underlying t = some .string) (h : PT P (n + 1) t p.cells) (h1 : p.one = !isAggT P t) : ∃ s, p = .str s ∧ s.length ≤ maxLen := by
  unfold isAggT at h1
  rw [hu] at h1
  unfold PT at h
  rw [hu] at h
  obtain ⟨m, e, hw⟩ := h
  exact ⟨m, cells_one e h1, hw⟩
theorem PT_slice {e : TypeId} (hu : P.underlying t = some (.slice e)) (h : PT P (n + 1) t p.cells) (h1 : p.one = !isAggT P t) : ∃ xs, p = .sl (P.cellsOf e) xs ∧ xs.length ≤ maxLen ∧ ∀ x ∈ xs, PT P n e x.cells ∧ x.one = !isAggT P e := by
  unfold isAggT at h1
  rw [hu] at h1
  unfold PT at h
  rw [hu] at h
  obtain ⟨xs, e, h2, h3⟩ := h
  exact ⟨xs, cells_one e h1, h2, h3⟩
theorem ints_of {k : IntKind} : ∀ (xs : List PV), (∀ x ∈ xs, ∃ m, x = .int k m ∧ (Lit.int k m).wf = true) → ∃ l : List Int, xs = l.map (.int k) ∧ ∀ m ∈ l, (Lit.int k m).wf = true
  | [], _ => ⟨[], rfl, by simp⟩
  | x :: r, h => by
    obtain ⟨m, rfl, hm⟩ := h x (by simp)
    obtain ⟨l, rfl, hl⟩ := ints_of r (fun y hy => h y (by simp [hy]))
    exact ⟨m :: l, rfl, by simpa using ⟨hm, hl⟩⟩
theorem PT_ints {e : TypeId} {k : IntKind} (hu : P.underlying t = some (.slice e)) (he : P.underlying e = some (.int k)) (hc : P.cellsOf e = 1) (h : PT P (n + 2) t p.cells) (h1 : p.one = !isAggT P t) : ∃ l : List Int, p = .sl 1 (l.map (.int k)) ∧ l.length ≤ maxLen ∧ ∀ m ∈ l, (Lit.int k m).wf = true := by
  obtain ⟨xs, rfl, h2, h3⟩ := PT_slice (n := n + 1) hu h h1
  obtain ⟨l, rfl, hl⟩ := ints_of xs (fun x hx => PT_int (n := n) he (h3 x hx).1 (h3 x hx).2)
  exact ⟨l, by rw [hc], by simpa using h2, hl⟩
theorem nats_of {k : IntKind} (hk : k.signed = false) : ∀ (l : List Int), (∀ m ∈ l, (Lit.int k m).wf = true) → ∃ r : List Nat, l = r.map (fun (n : Nat) => (n : Int)) ∧ ∀ x ∈ r, x < 2 ^ k.bits
  | [], _ => ⟨[], rfl, by simp⟩
  | m :: r, h => by
    have hm := h m (by simp)
    simp only [Lit.wf, IntKind.min, IntKind.max, hk, Bool.and_eq_true, decide_eq_true_eq] at hm
    obtain ⟨l, rfl, hl⟩ := nats_of hk r (fun y hy => h y (by simp [hy]))
    obtain ⟨a, rfl⟩ : ∃ a : Nat, m = a := ⟨m.toNat, by have := hm.1; simp at this; omega⟩
    refine ⟨a :: l, rfl, ?_⟩
    simp only [List.mem_cons, forall_eq_or_imp]
    refine ⟨?_, hl⟩
    have h2 : (a : Int) ≤ 2 ^ k.bits - 1 := hm.2
    have h3 : ((2 ^ k.bits : Nat) : Int) = (2 : Int) ^ k.bits := by norm_cast
    omega
theorem PT_u64s {e : TypeId} (hu : P.underlying t = some (.slice e)) (he : P.underlying e = some (.int .u64)) (hc : P.cellsOf e = 1) (h : PT P (n + 2) t p.cells) (h1 : p.one = !isAggT P t) : ∃ l : List Nat, p = .sl 1 (u64s l) ∧ l.length ≤ maxLen ∧ ∀ x ∈ l, x < 2 ^ 64 := by
  obtain ⟨l, rfl, h2, h3⟩ := PT_ints (n := n) hu he hc h h1
  obtain ⟨r, rfl, h4⟩ := nats_of rfl l h3
  exact ⟨r, by simp [u64s], by simpa using h2, h4⟩
theorem PT_bytes {e : TypeId} (hu : P.underlying t = some (.slice e)) (he : P.underlying e = some (.int .u8)) (hc : P.cellsOf e = 1) (h : PT P (n + 2) t p.cells) (h1 : p.one = !isAggT P t) : ∃ l : List Nat, p = .sl 1 (bytes l) ∧ l.length ≤ maxLen ∧ ∀ x ∈ l, x < 256 := by
  obtain ⟨l, rfl, h2, h3⟩ := PT_ints (n := n) hu he hc h h1
  obtain ⟨r, rfl, h4⟩ := nats_of rfl l h3
  exact ⟨r, by simp [bytes], by simpa using h2, h4⟩
theorem PT_u64 (hu : P.underlying t = some (.int .u64)) (h : PT P (n + 1) t p.cells) (h1 : p.one = !isAggT P t) : ∃ v : Nat, p = .int .u64 v ∧ v < 2 ^ 64 := by
  obtain ⟨m, rfl, hm⟩ := PT_int hu h h1
  obtain ⟨r, hr, h4⟩ := nats_of (k := .u64) rfl [m] (by simpa using hm)
  match r, hr with
  | [a], hr => simp at hr; subst hr; exact ⟨a, rfl, h4 a (by simp)⟩
theorem PT_u8 (hu : P.underlying t = some (.int .u8)) (h : PT P (n + 1) t p.cells) (h1 : p.one = !isAggT P t) : ∃ v : Nat, p = .int .u8 v ∧ v < 256 := by
  obtain ⟨m, rfl, hm⟩ := PT_int hu h h1
  obtain ⟨r, hr, h4⟩ := nats_of (k := .u8) rfl [m] (by simpa using hm)
  match r, hr with
  | [a], hr => simp at hr; subst hr; exact ⟨a, rfl, h4 a (by simp)⟩
theorem wf_i64 {m : Int} (h : (Lit.int .i64 m).wf = true) : -2 ^ 63 ≤ m ∧ m < 2 ^ 63 := by
  simp only [Lit.wf, IntKind.min, IntKind.max, Bool.and_eq_true, decide_eq_true_eq] at h
  have h1 : -(2 : Int) ^ 63 ≤ m := of_decide_eq_true h.1
  have h2 : m ≤ (2 : Int) ^ 63 - 1 := of_decide_eq_true h.2
  omega
theorem PT_i64 (hu : P.underlying t = some (.int .i64)) (h : PT P (n + 1) t p.cells) (h1 : p.one = !isAggT P t) : ∃ v : Int, p = .int .i64 v ∧ -2 ^ 63 ≤ v ∧ v < 2 ^ 63 := by
  obtain ⟨m, rfl, hm⟩ := PT_int hu h h1
  exact ⟨m, rfl, wf_i64 hm⟩
theorem PT_i64s {e : TypeId} (hu : P.underlying t = some (.slice e)) (he : P.underlying e = some (.int .i64)) (hc : P.cellsOf e = 1) (h : PT P (n + 2) t p.cells) (h1 : p.one = !isAggT P t) : ∃ l : List Int, p = .sl 1 (ints l) ∧ l.length ≤ maxLen ∧ ∀ x ∈ l, -2 ^ 63 ≤ x ∧ x < 2 ^ 63 := by
  obtain ⟨l, rfl, h2, h3⟩ := PT_ints (n := n) hu he hc h h1
  exact ⟨l, rfl, h2, fun x hx => wf_i64 (h3 x hx)⟩
theorem PA1 {N : Nat} {t : TypeId} {pl : List PV} (h : PA P N [t] pl) : ∃ p, pl = [p] ∧ PT P N t p.cells ∧ p.one = !isAggT P t := by
  obtain ⟨h1, h2⟩ := h
  match pl, h1 with
  | [p], _ => exact ⟨p, rfl, h2 0 _ _ rfl rfl⟩
theorem PA2 {N : Nat} {t u : TypeId} {pl : List PV} (h : PA P N [t, u] pl) : ∃ p q, pl = [p, q] ∧ (PT P N t p.cells ∧ p.one = !isAggT P t) ∧ (PT P N u q.cells ∧ q.one = !isAggT P u) := by
  obtain ⟨h1, h2⟩ := h
  match pl, h1 with
  | [p, q], _ => exact ⟨p, q, rfl, h2 0 _ _ rfl rfl, h2 1 _ _ rfl rfl⟩
theorem PA3 {N : Nat} {t u v : TypeId} {pl : List PV} (h : PA P N [t, u, v] pl) : ∃ p q r, pl = [p, q, r] ∧ (PT P N t p.cells ∧ p.one = !isAggT P t) ∧ (PT P N u q.cells ∧ q.one = !isAggT P u) ∧ (PT P N v r.cells ∧ r.one = !isAggT P v) := by
  obtain ⟨h1, h2⟩ := h
  match pl, h1 with
  | [p, q, r], _ => exact ⟨p, q, r, rfl, h2 0 _ _ rfl rfl, h2 1 _ _ rfl rfl, h2 2 _ _ rfl rfl⟩
end
end Go.Ck

-- type facts, printed by mkfacts.py
set_option linter.unusedVariables false
namespace Go.Ck
open Go.Proofs
theorem tk_3 : tk Tryz.prog 3 = .int .i64 := by kernel_rfl
theorem tsh_3 : tsh Tryz.prog 3 = some (1, false) := by kernel_rfl
theorem co_3 : Program.cellsOf Tryz.prog 3 = 1 := by kernel_rfl
theorem zcs_3 : zcs Tryz.prog 3 = some [.pv (.int .i64 0)] := by kernel_rfl
theorem ze_3 : zeroElem Tryz.prog 3 = some (.int .i64 0) := by kernel_rfl
theorem zok_3 : zok Tryz.prog 3 = true := by kernel_rfl
theorem tk_5 : tk Tryz.prog 5 = .int .u8 := by kernel_rfl
theorem tsh_5 : tsh Tryz.prog 5 = some (1, false) := by kernel_rfl
theorem co_5 : Program.cellsOf Tryz.prog 5 = 1 := by kernel_rfl
theorem ze_5 : zeroElem Tryz.prog 5 = some (.int .u8 0) := by kernel_rfl
theorem zok_5 : zok Tryz.prog 5 = true := by kernel_rfl
theorem tk_9 : tk Tryz.prog 9 = .str := by kernel_rfl
theorem tsh_9 : tsh Tryz.prog 9 = some (1, false) := by kernel_rfl
theorem tk_20 : tk Tryz.prog 20 = .iface := by kernel_rfl
theorem tk_22 : tk Tryz.prog 22 = .sl 41 2 16 true := by kernel_rfl
theorem tsh_22 : tsh Tryz.prog 22 = some (1, false) := by kernel_rfl
theorem tk_24 : tk Tryz.prog 24 = .st [(0, 1, false), (1, 1, false)] := by kernel_rfl
theorem tsh_24 : tsh Tryz.prog 24 = some (2, true) := by kernel_rfl
theorem zcs_24 : zcs Tryz.prog 24 = some [.pv (.str []), .nils] := by kernel_rfl
theorem tk_26 : tk Tryz.prog 26 = .sl 5 1 1 false := by kernel_rfl
theorem tsh_26 : tsh Tryz.prog 26 = some (1, false) := by kernel_rfl
theorem zcs_26 : zcs Tryz.prog 26 = some [.nils] := by kernel_rfl
theorem tsh_27 : tsh Tryz.prog 27 = some (1, false) := by kernel_rfl
theorem zcs_27 : zcs Tryz.prog 27 = some [.pv (.int .i64 0)] := by kernel_rfl
theorem tk_39 : tk Tryz.prog 39 = .int .u64 := by kernel_rfl
theorem tsh_39 : tsh Tryz.prog 39 = some (1, false) := by kernel_rfl
theorem co_39 : Program.cellsOf Tryz.prog 39 = 1 := by kernel_rfl
theorem zcs_39 : zcs Tryz.prog 39 = some [.pv (.int .u64 0)] := by kernel_rfl
theorem ze_39 : zeroElem Tryz.prog 39 = some (.int .u64 0) := by kernel_rfl
theorem zok_39 : zok Tryz.prog 39 = true := by kernel_rfl
theorem tk_41 : tk Tryz.prog 41 = .st [(0, 1, false), (1, 1, false)] := by kernel_rfl
theorem tsh_41 : tsh Tryz.prog 41 = some (2, true) := by kernel_rfl
theorem co_41 : Program.cellsOf Tryz.prog 41 = 2 := by kernel_rfl
theorem zcs_41 : zcs Tryz.prog 41 = some [.pv (.int .i64 0), .pv (.int .u64 0)] := by kernel_rfl
theorem ze_41 : zeroElem Tryz.prog 41 = some (.agg [(.int .i64 0), (.int .u64 0)]) := by kernel_rfl
theorem zok_41 : zok Tryz.prog 41 = true := by kernel_rfl
theorem tk_42 : tk Tryz.prog 42 = .sl 3 1 8 false := by kernel_rfl
theorem tsh_42 : tsh Tryz.prog 42 = some (1, false) := by kernel_rfl
theorem tk_43 : tk Tryz.prog 43 = .sl 39 1 8 false := by kernel_rfl
theorem tsh_43 : tsh Tryz.prog 43 = some (1, false) := by kernel_rfl
theorem tk_53 : tk Tryz.prog 53 = .st [(0, 1, false)] := by kernel_rfl
theorem tsh_53 : tsh Tryz.prog 53 = some (1, true) := by kernel_rfl
theorem zcs_53 : zcs Tryz.prog 53 = some [.pv (.int .i64 0)] := by kernel_rfl
theorem tk_54 : tk Tryz.prog 54 = .ptr 81 := by kernel_rfl
theorem tk_73 : tk Tryz.prog 73 = .int .u64 := by kernel_rfl
theorem tk_79 : tk Tryz.prog 79 = .st [(0, 1, false)] := by kernel_rfl
theorem zcs_79 : zcs Tryz.prog 79 = some [.nils] := by kernel_rfl
theorem tk_81 : tk Tryz.prog 81 = .st [(0, 1, true)] := by kernel_rfl
theorem zcs_81 : zcs Tryz.prog 81 = some [.nils] := by kernel_rfl
theorem tk_106 : tk Tryz.prog 106 = .ptr 138 := by kernel_rfl
theorem tk_109 : tk Tryz.prog 109 = .st [(0, 1, false), (1, 1, false)] := by kernel_rfl
theorem tsh_109 : tsh Tryz.prog 109 = some (2, true) := by kernel_rfl
theorem zcs_109 : zcs Tryz.prog 109 = some [.pv (.int .i64 0), .pv (.int .i64 0)] := by kernel_rfl
theorem tk_121 : tk Tryz.prog 121 = .st [(0, 1, false), (1, 1, false)] := by kernel_rfl
theorem zcs_121 : zcs Tryz.prog 121 = some [.nils, .pv (.int .i64 0)] := by kernel_rfl
theorem tk_124 : tk Tryz.prog 124 = .ptr 126 := by kernel_rfl
theorem tk_126 : tk Tryz.prog 126 = .st [(0, 1, false), (1, 1, false)] := by kernel_rfl
theorem zcs_126 : zcs Tryz.prog 126 = some [.nils, .pv (.int .i64 0)] := by kernel_rfl
theorem tk_131 : tk Tryz.prog 131 = .map 39 3 := by kernel_rfl
theorem tk_138 : tk Tryz.prog 138 = .st [(0, 1, false), (1, 1, false)] := by kernel_rfl
theorem zcs_138 : zcs Tryz.prog 138 = some [.nils, .pv (.int .i64 0)] := by kernel_rfl
theorem tk_143 : tk Tryz.prog 143 = .arr 2 3 1 false := by kernel_rfl
theorem tsh_143 : tsh Tryz.prog 143 = some (2, true) := by kernel_rfl
theorem zcs_143 : zcs Tryz.prog 143 = some [.pv (.int .i64 0), .pv (.int .i64 0)] := by kernel_rfl
theorem tk_144 : tk Tryz.prog 144 = .arr 16 143 2 true := by kernel_rfl
theorem tsh_144 : tsh Tryz.prog 144 = some (32, true) := by kernel_rfl
theorem zcs_144 : zcs Tryz.prog 144 = some [.pv (.int .i64 0), .pv (.int .i64 0), .pv (.int .i64 0), .pv (.int .i64 0), .pv (.int .i64 0), .pv (.int .i64 0), .pv (.int .i64 0), .pv (.int .i64 0), .pv (.int .i64 0), .pv (.int .i64 0), .pv (.int .i64 0), .pv (.int .i64 0), .pv (.int .i64 0), .pv (.int .i64 0), .pv (.int .i64 0), .pv (.int .i64 0), .pv (.int .i64 0), .pv (.int .i64 0), .pv (.int .i64 0), .pv (.int .i64 0), .pv (.int .i64 0), .pv (.int .i64 0), .pv (.int .i64 0), .pv (.int .i64 0), .pv (.int .i64 0), .pv (.int .i64 0), .pv (.int .i64 0), .pv (.int .i64 0), .pv (.int .i64 0), .pv (.int .i64 0), .pv (.int .i64 0), .pv (.int .i64 0)] := by kernel_rfl
theorem tk_147 : tk Tryz.prog 147 = .arr 64 5 1 false := by kernel_rfl
theorem mixed : Tryz.prog.follows .mixedOrders = true := by kernel_rfl
attribute [go_sem] tk_3 tsh_3 co_3 zcs_3 ze_3 zok_3 tk_5 tsh_5 co_5 ze_5 zok_5 tk_9 tsh_9 tk_20 tk_22 tsh_22 tk_24 tsh_24 zcs_24 tk_26 tsh_26 zcs_26 tsh_27 zcs_27 tk_39 tsh_39 co_39 zcs_39 ze_39 zok_39 tk_41 tsh_41 co_41 zcs_41 ze_41 zok_41 tk_42 tsh_42 tk_43 tsh_43 tk_53 tsh_53 zcs_53 tk_54 tk_73 tk_79 zcs_79 tk_81 zcs_81 tk_106 tk_109 tsh_109 zcs_109 tk_121 zcs_121 tk_124 tk_126 zcs_126 tk_131 tk_138 zcs_138 tk_143 tsh_143 zcs_143 tk_144 tsh_144 zcs_144 tk_147 mixed
end Go.Ck

set_option linter.unusedVariables false
set_option maxRecDepth 10000
namespace Go.Ck
open Go.Proofs
theorem clone_bytes (l : List Nat) (hl : l.length ≤ room) : Fn Tryz.prog 40 [] [.pv (.sl 1 (bytes l))] (fun rs H' => rs = [.own 5 (bytes l)] ∧ H' = []) := by
  refine Fn.of_body (fn := Tryz.f40) (n := 8) (res := [.tmp 2]) (by kernel_rfl) rfl rfl rfl rfl rfl (fun C => ?_)
  refine AW.go ?_
  refine AW.eqNil (.inl rfl) rfl rfl rfl tk_26 (by simp only [go_sem, ↓reduceIte] <;> rfl) rfl rfl rfl (fun b hb => ?_)
  refine AW.go ?_
  refine AW.cond (b := b) (by simp only [go_sem, ↓reduceIte] <;> rfl) (fun h1 => ?_) (fun h1 => ?_)
  · have hx : l = [] := by simpa [bytes] using hb h1
    subst hx
    refine AW.go ?_
    refine AW.finE (.move rfl .nil) rfl
  · refine AW.go ?_ (by simp only [go_sem, ↓reduceIte, hl] <;> rfl)
    refine AW.finE (.move rfl .nil) rfl

theorem with_fn (xs ys : List Nat) (hl : xs.length + ys.length ≤ room) : Fn Tryz.prog 41 [] [.own 5 (bytes xs), .pv (.sl 1 (bytes ys))] (fun rs H' => rs = [.own 5 (bytes (xs ++ ys))] ∧ H' = []) := by
  refine Fn.of_body (fn := Tryz.f41) (n := 8) (res := [.tmp 4]) (by kernel_rfl) rfl rfl rfl rfl rfl (fun C => ?_)
  refine AW.go ?_ (by simp only [go_sem, ↓reduceIte, hl] <;> rfl)
  refine AW.finE (.move rfl .nil) rfl
end Go.Ck

set_option linter.unusedVariables false
namespace Go.Ck
def leb (v : Nat) : List Nat := if v < 128 then [v] else (v % 128 + 128) :: leb (v / 128)
termination_by v
decreasing_by omega
theorem leb_lt {v : Nat} (h : v < 128) : leb v = [v] := by rw [leb, if_pos h]
theorem leb_ge {v : Nat} (h : ¬ v < 128) : leb v = (v % 128 + 128) :: leb (v / 128) := by rw [leb, if_neg h]
theorem leb_pos (v : Nat) : 0 < (leb v).length := by
  by_cases h : v < 128
  · rw [leb_lt h]; simp
  · rw [leb_ge h]; simp
theorem leb_len (n : Nat) : ∀ v, v < 128 ^ (n + 1) → (leb v).length ≤ n + 1 := by
  induction n with
  | zero => intro v h; rw [leb_lt (by omega)]; simp
  | succ n ih =>
    intro v h
    by_cases h1 : v < 128
    · rw [leb_lt h1]; simp
    · rw [leb_ge h1, List.length_cons]
      have := ih (v / 128) (by rw [Nat.div_lt_iff_lt_mul (by omega)]; rw [Nat.pow_succ] at h; omega)
      omega
theorem leb_len10 {v : Nat} (h : v < 2 ^ 64) : (leb v).length ≤ 10 := leb_len 9 v (by omega)
theorem leb_byte (v : Nat) : ∀ x ∈ leb v, x < 256 := by
  induction v using Nat.strongRecOn with
  | _ v ih =>
    by_cases h : v < 128
    · rw [leb_lt h]; simp; omega
    · rw [leb_ge h]
      intro x hx
      rcases List.mem_cons.1 hx with rfl | hx
      · omega
      · exact ih (v / 128) (by omega) x hx
theorem or128 {x : Nat} (h : x < 256) : x ||| 128 = x % 128 + 128 := by
  have : ∀ x : Fin 256, x.val ||| 128 = x.val % 128 + 128 := by decide +kernel
  exact this ⟨x, h⟩
end Go.Ck
namespace Go.Ck
/-- A number out of bytes; how many bytes it took; why there is none. -/
def rdv : Nat → Nat → List Nat → Nat × Nat × Int
  | _, _, [] => (0, 0, 2)
  | k, acc, x :: r => if k = 9 ∧ 1 < x then (0, 0, 3) else if 128 ≤ x then rdv (k + 1) (acc + x % 128 * 128 ^ k) r else if x = 0 ∧ 0 < k then (0, 0, 3) else (acc + x * 128 ^ k, k + 1, 0)
def readV (b : List Nat) : Nat × Nat × Int := rdv 0 0 (b.take 10)

theorem rdv_bound : ∀ (l : List Nat) (k acc : Nat), (rdv k acc l).2.1 ≤ k + l.length ∧ ((rdv k acc l).2.2 ≠ 0 → (rdv k acc l).1 = 0 ∧ (rdv k acc l).2.1 = 0) ∧ (rdv k acc l).2.1 ≤ k + l.length
  | [], k, acc => by simp [rdv]
  | x :: r, k, acc => by
    simp only [rdv]
    split
    · simp
    · split
      · have := rdv_bound r (k + 1) (acc + x % 128 * 128 ^ k)
        simp only [List.length_cons]
        refine ⟨by omega, this.2.1, by omega⟩
      · split
        · simp
        · simp
theorem readV_le (b : List Nat) : (readV b).2.1 ≤ b.length := by
  have := (rdv_bound (b.take 10) 0 0).1
  simp at this
  unfold readV
  omega
theorem rdv_lt : ∀ (l : List Nat) (k acc : Nat), k + l.length ≤ 10 → (∀ x ∈ l, x < 256) → acc < 128 ^ k → (rdv k acc l).1 < 2 ^ 64
  | [], k, acc, _, _, _ => by simp [rdv]
  | x :: r, k, acc, hk, hx, ha => by
    have hx0 := hx x (by simp)
    simp only [List.length_cons] at hk
    have hp : 128 ^ (k + 1) = 128 ^ k * 128 := Nat.pow_succ ..
    simp only [rdv]
    split
    · simp
    · rename_i h9
      split
      · refine rdv_lt r (k + 1) _ (by omega) (fun y hy => hx y (by simp [hy])) ?_
        rw [hp]
        have h1 : x % 128 * 128 ^ k ≤ 127 * 128 ^ k := Nat.mul_le_mul_right _ (by omega)
        omega
      · split
        · simp
        · simp only
          by_cases hk9 : k = 9
          · subst hk9
            have : x ≤ 1 := by omega
            have h1 : x * 128 ^ 9 ≤ 1 * 128 ^ 9 := Nat.mul_le_mul_right _ this
            omega
          · have h2 : 128 ^ k ≤ 128 ^ 8 := Nat.pow_le_pow_right (by omega) (by omega)
            have h1 : x * 128 ^ k ≤ 127 * 128 ^ k := Nat.mul_le_mul_right _ (by omega)
            omega
theorem readV_lt {b : List Nat} (hb : ∀ x ∈ b, x < 256) : (readV b).1 < 2 ^ 64 := rdv_lt _ 0 0 (by simp; omega) (fun x hx => hb x (List.mem_of_mem_take hx)) (by simp)
theorem andNot128 {x : Nat} (h : x < 256) : ibits .andNot .u8 (x : Int) 128 = ((x % 128 : Nat) : Int) := by
  have : ∀ x : Fin 256, ibits .andNot .u8 ((x.val : Nat) : Int) 128 = ((x.val % 128 : Nat) : Int) := by decide +kernel
  exact this ⟨x, h⟩
theorem or_shift {a x k : Nat} (ha : a < 128 ^ k) (hx : x * 128 ^ k < 2 ^ 64) (ha2 : a < 2 ^ 64) (hk : 7 * k ≤ 64) : ibits .or .u64 (a : Int) (shlI .u64 (x : Int) ((7 * k : Nat) : Int)) = ((a + x * 128 ^ k : Nat) : Int) := by
  have hp : (2 : Nat) ^ (7 * k) = 128 ^ k := by rw [Nat.pow_mul]
  rw [shlI_nat64 _ _ hk, hp, Nat.mod_eq_of_lt hx, ibits_or64 ha2 hx]
  congr 1
  have := Nat.two_pow_add_eq_or_of_lt (i := 7 * k) (b := a) (by rw [hp]; exact ha) x
  rw [hp] at this
  rw [Nat.or_comm, Nat.mul_comm x, ← this, Nat.add_comm]
end Go.Ck

set_option linter.unusedVariables false
set_option maxRecDepth 10000
namespace Go.Ck
open Go.Proofs
theorem append_fn (b : List Nat) (v : Nat) (hv : v < 2 ^ 64) (hl : b.length + 10 ≤ room) : Fn Tryz.prog 18 [] [.pv (.sl 1 (bytes b)), .pv (.int .u64 v)] (fun rs H' => rs = [.own 5 (bytes (b ++ leb v))] ∧ H' = []) := by
  refine Fn.of_body (fn := Tryz.f18) (n := 23) (res := [.tmp 4]) (by kernel_rfl) rfl rfl rfl rfl rfl (fun C => ?_)
  refine AW.go ?_
  refine AW.callE (fun _ => 0) (clone_bytes b (by omega)) (.pv _ .nil) ?_
  refine AW.go ?_
  have hlen := leb_len10 hv
  refine AW.loopS (fun a : List Nat × Nat => ⟨23, [(5, .own 5 (bytes a.1)), (1, .pv (.int .u64 a.2))], []⟩) (fun a => a.1 ++ leb a.2 = b ++ leb v ∧ a.2 < 2 ^ 64) (fun a => a.2) [5, 1] [] (b, v) ⟨rfl, hv⟩ ?_
  rintro ⟨o, u⟩ ⟨ho, hu⟩ K hK
  simp only at ho hu
  have hol : o.length + (leb u).length = b.length + (leb v).length := by rw [← List.length_append, ho, List.length_append]
  have hup := leb_pos u
  refine AW.go ?_
  refine AW.cond rfl (fun hb => ?_) (fun hb => ?_)
  · have hge : ¬ u < 128 := by simp at hb; omega
    refine AW.go ?_
    have e1 : ibits .or .u8 (IntKind.u8.wrap (u : Int)) 128 = ((u % 128 + 128 : Nat) : Int) := by
      rw [wrap_u8]
      have := ibits_or8 (a := u % 256) (b := 128) (by omega) (by omega)
      rw [or128 (by omega)] at this
      refine this.trans ?_
      congr 2; omega
    rw [e1]
    refine AW.callE (fun _ => 0) (with_fn o [u % 128 + 128] (by simp; omega)) (.move rfl (.lend rfl co_5 .nil)) ?_
    refine AW.go ?_
    have e2 : shrI .u64 (u : Int) 7 = ((u / 128 : Nat) : Int) := shrI_nat .u64 u 7 (by decide)
    refine AW.again hK (o ++ [u % 128 + 128], u / 128) ⟨?_, by simp only; omega⟩ (by simp only; omega) (by simp only [go_sem, ↓reduceIte]) (by simp only [go_sem, ↓reduceIte, e2])
    simp only [List.append_assoc, List.singleton_append]
    rw [← leb_ge hge, ho]
  · have hlt : u < 128 := by simp at hb; omega
    refine AW.go ?_
    have e1 : IntKind.u8.wrap (u : Int) = ((u : Nat) : Int) := wrap_u8_lt (by omega)
    rw [e1]
    refine AW.callE (fun _ => 0) (with_fn o [u] (by simp; omega)) (.move rfl (.lend rfl co_5 .nil)) ?_
    refine AW.go ?_
    refine AW.finE (.move rfl .nil) ?_
    rw [← ho, leb_lt hlt]
end Go.Ck

set_option linter.unusedVariables false
set_option maxRecDepth 10000
namespace Go.Ck
open Go.Proofs
abbrev curO (l : List Nat) : List (Nat × HO) := [(1000, .cells 81 [.pv (.sl 1 (bytes l))])]

attribute [go_sem] curO
theorem curNew_fn (l : List Nat) (hl : l.length ≤ room) : Fn Tryz.prog 26 [] [.pv (.sl 1 (bytes l))] (fun rs H' => rs = [.ptr 7 0] ∧ H' = [(7, .cells 81 [.pv (.sl 1 (bytes l))])]) := by
  refine Fn.of_body (fn := Tryz.f26) (n := 8) (res := [.tmp 2]) (by kernel_rfl) rfl rfl rfl rfl rfl (fun C => ?_)
  refine AW.go ?_
  refine AW.callE (fun _ => 0) (clone_bytes l hl) (.pv _ .nil) ?_
  refine AW.go ?_
  refine AW.finE (.ptr rfl .nil) rfl

theorem left_fn (l : List Nat) : Fn Tryz.prog 50 (curO l) [.ptr 1000 0] (fun rs H' => rs = [.pv (.int .i64 l.length)] ∧ H' = curO l) := by
  refine Fn.of_body (fn := Tryz.f50) (n := 8) (res := [.tmp 2]) (by kernel_rfl) rfl rfl rfl rfl rfl (fun C => ?_)
  refine AW.go ?_
  refine AW.finE (.pv _ .nil) rfl

theorem take_fn (l : List Nat) (n : Nat) (hn : n ≤ l.length) (hl : l.length ≤ room) : Fn Tryz.prog 49 (curO l) [.ptr 1000 0, .pv (.int .i64 n)] (fun rs H' => rs = [.own 5 (bytes (l.take n))] ∧ H' = curO (l.drop n)) := by
  refine Fn.of_body (fn := Tryz.f49) (n := 23) (res := [.tmp 4]) (by kernel_rfl) rfl rfl rfl rfl rfl (fun C => ?_)
  refine AW.go ?_ (by simp only [go_sem, ↓reduceIte, hn] <;> rfl)
  refine AW.callE (fun _ => 0) (clone_bytes (l.take n) (by simp; omega)) (.pv _ .nil) ?_
  have e : (((l.length : Int) - (n : Int)).toNat) = l.length - n := by omega
  have e2 : (bytes (l.drop n)).take (l.length - n) = bytes (l.drop n) := List.take_of_length_le (by simp [bytes])
  refine AW.go ?_ (by simp only [go_sem, ↓reduceIte, hn, e]; rw [← bytes_take, e2] <;> rfl)
  refine AW.finE (.move rfl .nil) rfl
end Go.Ck

set_option linter.unusedVariables false
set_option maxRecDepth 10000
namespace Go.Ck
open Go.Proofs
theorem curLeft_fn (l : List Nat) : Fn Tryz.prog 75 (curO l) [.ptr 1000 0] (fun rs H' => rs = [.pv (.int .i64 l.length)] ∧ H' = curO l) := by
  refine Fn.of_body (fn := Tryz.f75) (n := 9) (res := [.tmp 2]) (by kernel_rfl) rfl rfl rfl rfl rfl (fun C => ?_)
  refine AW.go ?_
  refine AW.condF rfl ?_
  refine AW.go ?_
  refine AW.callE id (left_fn l) (.ptr rfl .nil) ?_
  refine AW.go ?_
  refine AW.finE (.pv _ .nil) rfl

theorem curEnd_fn (l : List Nat) : Fn Tryz.prog 31 (curO l) [.ptr 1000 0] (fun rs H' => rs = [.pv (.int .i64 (if l = [] then 0 else 3))] ∧ H' = curO l) := by
  refine Fn.of_body (fn := Tryz.f31) (n := 12) (res := [.tmp 2]) (by kernel_rfl) rfl rfl rfl rfl rfl (fun C => ?_)
  refine AW.go ?_
  refine AW.condF rfl ?_
  refine AW.go ?_
  refine AW.callE id (left_fn l) (.ptr rfl .nil) ?_
  refine AW.go ?_
  refine AW.cond rfl (fun hb => ?_) (fun hb => ?_)
  · refine AW.go ?_
    refine AW.finE (.pv _ .nil) ?_
    rw [if_neg (by rintro rfl; simp at hb)]
  · refine AW.go ?_
    refine AW.finE (.pv _ .nil) ?_
    rw [if_pos (by simpa using hb)]

theorem curBytes_fn (l : List Nat) (n : Nat) (hl : l.length ≤ room) : Fn Tryz.prog 46 (curO l) [.ptr 1000 0, .pv (.int .i64 n)]
    (fun rs H' => rs = [.own 5 (bytes (if n ≤ l.length then l.take n else [])), .pv (.int .i64 (if n ≤ l.length then 0 else 2))] ∧ H' = curO (if n ≤ l.length then l.drop n else l)) := by
  refine Fn.of_body (fn := Tryz.f46) (n := 25) (res := [.tmp 4, .tmp 5]) (by kernel_rfl) rfl rfl rfl rfl rfl (fun C => ?_)
  refine AW.gg ?_
  refine AW.condF rfl ?_
  refine AW.go ?_
  refine AW.callE id (left_fn l) (.ptr rfl .nil) ?_
  refine AW.go ?_
  refine AW.cond rfl (fun hb => ?_) (fun hb => ?_)
  · have hn : ¬ n ≤ l.length := by simp at hb; omega
    simp only [if_neg hn]
    refine AW.go ?_
    refine AW.finE (.move rfl (.pv _ .nil)) rfl
  · have hn : n ≤ l.length := by simp at hb; omega
    simp only [if_pos hn]
    refine AW.go ?_
    refine AW.callE id (take_fn l n hn hl) (.ptr rfl (.pv _ .nil)) ?_
    refine AW.go ?_
    refine AW.finE (.move rfl (.pv _ .nil)) rfl
end Go.Ck

set_option linter.unusedVariables false
set_option maxRecDepth 10000
namespace Go.Ck
open Go.Proofs
theorem via {T Q : Prop} (h : (Unit → T) → Q) (t : T) : Q := h (fun _ => t)
theorem read_fn (b : List Nat) (hb : ∀ x ∈ b, x < 256) : Fn Tryz.prog 48 [] [.pv (.sl 1 (bytes b))] (fun rs H' => rs = [.pv (.int .u64 ((readV b).1 : Nat)), .pv (.int .i64 ((readV b).2.1 : Nat)), .pv (.int .i64 (readV b).2.2)] ∧ H' = []) := by
  refine Fn.of_body (fn := Tryz.f48) (n := 47) (res := [.tmp 2, .tmp 3, .tmp 4]) (by kernel_rfl) rfl rfl rfl rfl rfl (fun C => ?_)
  have hm : (if (10 : Int) < (b.length : Int) then (10 : Int) else (b.length : Int)) = ((b.take 10).length : Nat) := by
    rw [List.length_take]; split <;> omega
  have h1 : (b.take 10).length ≤ b.length := by simp; omega
  have h2 : b.take (b.take 10).length = b.take 10 := by rw [List.length_take]; simp [List.take_eq_take_iff]
  refine AW.go ?_ (by simp only [go_sem, ↓reduceIte, hm, h1, h2] <;> rfl)
  have hbb : ∀ x ∈ b.take 10, x < 256 := fun x hx => hb x (List.mem_of_mem_take hx)
  have hlen : (b.take 10).length ≤ 10 := by simp; omega
  unfold readV
  generalize b.take 10 = c at hbb hlen ⊢
  refine AW.loopS (fun a : Nat × Nat => ⟨47, [(14, .pv (.int .i64 a.1)), (5, .pv (.int .u64 a.2)), (12, .pv (.sl 1 (bytes c))), (13, .pv (.int .i64 c.length))], []⟩) (fun a => a.1 ≤ c.length ∧ rdv a.1 a.2 (c.drop a.1) = rdv 0 0 c ∧ a.2 < 128 ^ a.1) (fun a => c.length - a.1) [14, 5, 12, 13] [] (0, 0) ⟨Nat.zero_le _, rfl, by simp⟩ ?_
  rintro ⟨i, v⟩ ⟨hi, hr, hv⟩ K hK
  simp only at hi hr hv
  refine AW.go ?_
  refine AW.cond rfl (fun hc => ?_) (fun hc => ?_)
  · have hlt : i < c.length := by simpa using hc
    have hx := hbb c[i] (List.getElem_mem hlt)
    have hget := bytes_get hlt
    rw [List.drop_eq_getElem_cons hlt] at hr
    simp only [rdv] at hr
    generalize c[i] = x at hx hget hr
    have hvlt : v < 2 ^ 64 := by
      have : 128 ^ i ≤ 128 ^ 9 := Nat.pow_le_pow_right (by omega) (by omega)
      omega
    have hp : 128 ^ (i + 1) = 128 ^ i * 128 := Nat.pow_succ ..
    have e9 : ((i : Int) == 9) = decide (i = 9) := by rw [Bool.eq_iff_iff]; simp; omega
    have e1 : decide ((x : Int) > 1) = decide (1 < x) := by rw [Bool.eq_iff_iff]; simp; omega
    have e7 : IntKind.i64.wrap (7 * (i : Int)) = ((7 * i : Nat) : Int) := by rw [wrap_i64_of (by omega) (by omega)]; omega
    have hu : IntKind.u64.wrap ((x % 128 : Nat) : Int) = ((x % 128 : Nat) : Int) := wrap_u64_lt (by omega)
    have ei : IntKind.i64.wrap ((i : Int) + 1) = ((i + 1 : Nat) : Int) := wrap_i64_succ (by omega)
    by_cases h9 : i = 9 ∧ 1 < x
    · obtain ⟨k1, k2⟩ := h9
      rw [if_pos ⟨k1, k2⟩] at hr
      have b1 : decide (i = 9) = true := by simpa using k1
      have b2 : decide (1 < x) = true := by simpa using k2
      refine AW.gg ?_ (by simp only [go_sem, ↓reduceIte, hget, e9, e1, b1, b2] <;> rfl)
      refine AW.condT rfl ?_
      refine AW.go ?_
      refine AW.finE (.pv _ (.pv _ (.pv _ .nil))) ?_
      rw [← hr]; rfl
    · rw [if_neg h9] at hr
      have ea : ibits .andNot .u8 (x : Int) 128 = ((x % 128 : Nat) : Int) := andNot128 hx
      have hi9 : i ≤ 9 := by omega
      have hpw : 128 ^ i ≤ 128 ^ 9 := Nat.pow_le_pow_right (by omega) hi9
      have hxs : x % 128 * 128 ^ i < 2 ^ 64 := by
        by_cases k : i = 9
        · subst k
          have : x ≤ 1 := by omega
          have h1 : x % 128 * 128 ^ 9 ≤ 1 * 128 ^ 9 := Nat.mul_le_mul_right _ (by omega)
          omega
        · have h2 : 128 ^ i ≤ 128 ^ 8 := Nat.pow_le_pow_right (by omega) (by omega)
          have h1 : x % 128 * 128 ^ i ≤ 127 * 128 ^ i := Nat.mul_le_mul_right _ (by omega)
          omega
      have eo := or_shift (a := v) (x := x % 128) (k := i) hv hxs hvlt (by omega)
      refine via (T := ?T) (fun hT => ?_) ?_
      rotate_left
      · by_cases k : i = 9
        · have b1 : decide (i = 9) = true := by simpa using k
          refine AW.gg ?_ (by simp only [go_sem, ↓reduceIte, hget, e9, b1] <;> rfl)
          refine AW.cond rfl (fun hc2 => absurd ⟨k, by simp at hc2; omega⟩ h9) (fun hc2 => ?_)
          refine AW.keepB [5, 6, 7, 12, 13, 14] [] (by simp only [go_sem, ↓reduceIte]) (by simp only [go_sem, ↓reduceIte] <;> rfl) ?_
          exact hT ()
        · have b1 : decide (i = 9) = false := by simpa using k
          refine AW.gg ?_ (by simp only [go_sem, ↓reduceIte, hget, e9, b1] <;> rfl)
          refine AW.condF rfl ?_
          refine AW.keepB [5, 6, 7, 12, 13, 14] [] (by simp only [go_sem, ↓reduceIte]) (by simp only [go_sem, ↓reduceIte] <;> rfl) ?_
          exact hT ()
      refine AW.go ?_ (by simp only [go_sem, ↓reduceIte, ea, e7, hu, eo] <;> rfl)
      refine AW.cond rfl (fun hc2 => ?_) (fun hc2 => ?_)
      · have h128 : 128 ≤ x := by simp at hc2; omega
        rw [if_pos h128] at hr
        refine AW.go ?_ (by simp only [go_sem, ↓reduceIte, ei] <;> rfl)
        refine AW.again hK (i + 1, v + x % 128 * 128 ^ i) ⟨hlt, hr, ?_⟩ (by simp only; omega)
        simp only
        rw [hp]
        have h1 : x % 128 * 128 ^ i ≤ 127 * 128 ^ i := Nat.mul_le_mul_right _ (by omega)
        omega
      · have h128 : ¬ 128 ≤ x := by simp at hc2; omega
        rw [if_neg h128] at hr
        have hxm : x % 128 = x := Nat.mod_eq_of_lt (by omega)
        have e0 : ((x : Int) == 0) = decide (x = 0) := by rw [Bool.eq_iff_iff]; simp
        have ep : decide ((i : Int) > 0) = decide (0 < i) := by rw [Bool.eq_iff_iff]; simp
        rw [hxm]
        by_cases k0 : x = 0
        · have b1 : decide (x = 0) = true := by simpa using k0
          refine AW.gg ?_ (by simp only [go_sem, ↓reduceIte, e0, b1] <;> rfl)
          refine AW.cond rfl (fun hc3 => ?_) (fun hc3 => ?_)
          · have : 0 < i := by simp at hc3; omega
            rw [if_pos ⟨k0, this⟩] at hr
            refine AW.go ?_
            refine AW.finE (.pv _ (.pv _ (.pv _ .nil))) ?_
            rw [← hr]; rfl
          · have : ¬ 0 < i := by simp at hc3; omega
            rw [if_neg (fun h => this h.2)] at hr
            refine AW.go ?_ (by simp only [go_sem, ↓reduceIte, ei] <;> rfl)
            refine AW.finE (.pv _ (.pv _ (.pv _ .nil))) ?_
            rw [← hr]
        · have b1 : decide (x = 0) = false := by simpa using k0
          refine AW.gg ?_ (by simp only [go_sem, ↓reduceIte, e0, b1] <;> rfl)
          refine AW.condF rfl ?_
          rw [if_neg (fun h => k0 h.1)] at hr
          refine AW.go ?_ (by simp only [go_sem, ↓reduceIte, ei] <;> rfl)
          refine AW.finE (.pv _ (.pv _ (.pv _ .nil))) ?_
          rw [← hr]
  · have hge : ¬ i < c.length := by simpa using hc
    rw [List.drop_eq_nil_of_le (by omega), rdv] at hr
    refine AW.go ?_
    refine AW.finE (.pv _ (.pv _ (.pv _ .nil))) ?_
    rw [← hr]; rfl
end Go.Ck

set_option linter.unusedVariables false
namespace Go.Ck
/-- Bytes, the first the greatest. -/
def beN (l : List Nat) : Nat := l.foldl (fun a x => a * 256 + x) 0
theorem beN_snoc (l : List Nat) (x : Nat) : beN (l ++ [x]) = beN l * 256 + x := by simp [beN]
theorem beN_lt (l : List Nat) (h : ∀ x ∈ l, x < 256) : beN l < 256 ^ l.length := by
  have : ∀ (n : Nat) (l : List Nat), l.length = n → (∀ x ∈ l, x < 256) → beN l < 256 ^ n := by
    intro n
    induction n with
    | zero => intro l hl _; rw [List.length_eq_zero_iff.1 hl]; simp [beN]
    | succ n ih =>
      intro l hl h
      have hne : l ≠ [] := by rintro rfl; simp at hl
      rw [← List.dropLast_concat_getLast hne, beN_snoc]
      have h1 := ih l.dropLast (by simp; omega) (fun x hx => h x (List.dropLast_subset l hx))
      have h2 := h _ (List.getLast_mem hne)
      rw [Nat.pow_succ]
      omega
  exact this _ l rfl h
/-- A number in n bytes. -/
def beB (v : Nat) : Nat → List Nat
  | 0 => []
  | n + 1 => (v / 256 ^ n % 256) :: beB v n
theorem beB_len (v n : Nat) : (beB v n).length = n := by induction n with | zero => rfl | succ n ih => simp [beB, ih]
theorem beB_byte (v n : Nat) : ∀ x ∈ beB v n, x < 256 := by
  induction n with
  | zero => simp [beB]
  | succ n ih => intro x hx; rcases List.mem_cons.1 hx with rfl | hx
                 · omega
                 · exact ih x hx
theorem or_lt256 {a x : Nat} (ha : a < 2 ^ 56) (hx : x < 256) : ibits .or .u64 (shlI .u64 (a : Int) 8) (x : Int) = ((a * 256 + x : Nat) : Int) := by
  have h8 : ((8 : Nat) : Int) = 8 := rfl
  have := shlI_nat64 a 8 (by omega)
  rw [h8] at this
  rw [this, show (2 : Nat) ^ 8 = 256 from rfl, Nat.mod_eq_of_lt (by omega), ibits_or64 (by omega) (by omega)]
  congr 1
  have := Nat.two_pow_add_eq_or_of_lt (i := 8) (b := x) (by omega) a
  rw [Nat.mul_comm a, ← this]
/-- The next block: bytes, why not, what is left. -/
def blk (l : List Nat) (m : Nat) : List Nat × Int × List Nat :=
  if (readV l).2.2 ≠ 0 then ([], (readV l).2.2, l) else if m < (readV l).1 then ([], 4, l) else if l.length - (readV l).2.1 < (readV l).1 then ([], 2, l)
  else ((l.drop (readV l).2.1).take (readV l).1, 0, l.drop ((readV l).2.1 + (readV l).1))
end Go.Ck
namespace Go.Ck
theorem rdv_take : ∀ (l : List Nat) (k acc n : Nat), k ≤ 9 → k + n = 10 → rdv k acc (l.take n) = rdv k acc l
  | [], k, acc, n, hk, h => by simp
  | x :: r, k, acc, 0, hk, h => by omega
  | x :: r, k, acc, n + 1, hk, h => by
    rw [List.take_succ_cons]
    simp only [rdv]
    split
    · rfl
    · rename_i h9
      split
      · rw [rdv_take r (k + 1) _ n (by omega) (by omega)]
      · rfl
theorem readV_eq (l : List Nat) : readV l = rdv 0 0 l := rdv_take l 0 0 10 (by omega) (by omega)
theorem beB_succ (v n : Nat) : beB v (n + 1) = (v / 256 ^ n % 256) :: beB v n := rfl
end Go.Ck

set_option linter.unusedVariables false
set_option maxRecDepth 10000
namespace Go.Ck
open Go.Proofs
theorem curByte_fn (l : List Nat) (hl : l.length ≤ room) : Fn Tryz.prog 27 (curO l) [.ptr 1000 0]
    (fun rs H' => rs = [.pv (.int .u8 (l.headD 0 : Nat)), .pv (.int .i64 (if l = [] then 2 else 0))] ∧ H' = curO l.tail) := by
  refine Fn.of_body (fn := Tryz.f27) (n := 17) (res := [.tmp 2, .tmp 3]) (by kernel_rfl) rfl rfl rfl rfl rfl (fun C => ?_)
  refine AW.go ?_
  cases l with
  | nil =>
    have := curBytes_fn [] 1 hl
    simp only [List.length_nil, Nat.le_zero_eq, Nat.reduceEqDiff, Nat.one_ne_zero, if_false] at this
    refine AW.callE id this (.ptr rfl (.pv _ .nil)) ?_
    refine AW.go ?_
    refine AW.condT rfl ?_
    refine AW.go ?_
    refine AW.finE (.pv _ (.pv _ .nil)) rfl
  | cons x r =>
    have := curBytes_fn (x :: r) 1 hl
    simp only [List.length_cons, Nat.le_add_left, if_true, List.take_succ_cons, List.take_zero, List.drop_succ_cons, List.drop_zero] at this
    refine AW.callE id this (.ptr rfl (.pv _ .nil)) ?_
    refine AW.go ?_
    refine AW.condF rfl ?_
    have hget : (bytes [x])[0]? = some (.int .u8 (x : Nat)) := rfl
    refine AW.go ?_ (by simp only [go_sem, ↓reduceIte, hget] <;> rfl)
    refine AW.finE (.pv _ (.pv _ .nil)) rfl

theorem curVarint_fn (l : List Nat) (hl : l.length ≤ room) (hb : ∀ x ∈ l, x < 256) : Fn Tryz.prog 30 (curO l) [.ptr 1000 0]
    (fun rs H' => rs = [.pv (.int .u64 ((readV l).1 : Nat)), .pv (.int .i64 (readV l).2.2)] ∧ H' = curO (l.drop (readV l).2.1)) := by
  refine Fn.of_body (fn := Tryz.f30) (n := 26) (res := [.tmp 2, .tmp 3]) (by kernel_rfl) rfl rfl rfl rfl rfl (fun C => ?_)
  refine AW.go ?_
  refine AW.condF rfl ?_
  refine AW.go ?_
  refine AW.callE (fun _ => 0) (read_fn l hb) (.pv _ .nil) ?_
  refine AW.go ?_
  refine AW.callE id (take_fn l _ (readV_le l) hl) (.ptr rfl (.pv _ .nil)) ?_
  refine AW.go ?_
  refine AW.finE (.pv _ (.pv _ .nil)) rfl

theorem block_fn (l : List Nat) (hl : l.length + 20 ≤ room) : Fn Tryz.prog 17 [] [.pv (.sl 1 (bytes l))] (fun rs H' => rs = [.own 5 (bytes (leb l.length ++ l))] ∧ H' = []) := by
  refine Fn.of_body (fn := Tryz.f17) (n := 9) (res := [.tmp 2]) (by kernel_rfl) rfl rfl rfl rfl rfl (fun C => ?_)
  have hr : room < 2 ^ 63 := by decide
  have hu : IntKind.u64.wrap (l.length : Int) = (l.length : Int) := wrap_u64_lt (by omega)
  refine AW.go ?_ (by simp only [go_sem, ↓reduceIte, hu] <;> rfl)
  refine AW.callE (fun _ => 0) (append_fn [] l.length (by omega) (by simp; omega)) (.nilsP 1 (.pv _ .nil)) ?_
  have h10 := leb_len10 (v := l.length) (by omega)
  have hs : (leb l.length).length + l.length ≤ room := by omega
  refine AW.go ?_ (by simp only [go_sem, ↓reduceIte, List.nil_append, hs] <;> rfl)
  refine AW.finE (.move rfl .nil) rfl

theorem curBlock_fn (l : List Nat) (m : Nat) (hm : m < 2 ^ 63) (hl : l.length ≤ room) (hb : ∀ x ∈ l, x < 256) : Fn Tryz.prog 47 (curO l) [.ptr 1000 0, .pv (.int .i64 m)]
    (fun rs H' => rs = [.own 5 (bytes (blk l m).1), .pv (.int .i64 (blk l m).2.1)] ∧ H' = curO (blk l m).2.2) := by
  refine Fn.of_body (fn := Tryz.f47) (n := 55) (res := [.tmp 4, .tmp 5]) (by kernel_rfl) rfl rfl rfl rfl rfl (fun C => ?_)
  have hr : room < 2 ^ 63 := by decide
  have hle := readV_le l
  have hlt := readV_lt hb
  refine AW.gg ?_
  refine AW.condF rfl ?_
  refine AW.go ?_
  refine AW.callE (fun _ => 0) (read_fn l hb) (.pv _ .nil) ?_
  refine AW.go ?_
  unfold blk
  generalize (readV l).1 = v at *
  generalize (readV l).2.2 = e at *
  generalize (readV l).2.1 = k at *
  refine AW.cond rfl (fun hc => ?_) (fun hc => ?_)
  · have he : e ≠ 0 := by simpa using hc
    simp only [if_pos he]
    refine AW.go ?_
    refine AW.finE (.move rfl (.pv _ .nil)) rfl
  have he : ¬ e ≠ 0 := by simpa using hc
  simp only [if_neg he]
  have hu : IntKind.u64.wrap (m : Int) = (m : Int) := wrap_u64_lt (by omega)
  refine AW.go ?_ (by simp only [go_sem, ↓reduceIte, hu] <;> rfl)
  refine AW.cond rfl (fun hc => ?_) (fun hc => ?_)
  · have he : m < v := by simp at hc; omega
    simp only [if_pos he]
    refine AW.go ?_
    refine AW.finE (.move rfl (.pv _ .nil)) rfl
  have hmv : ¬ m < v := by simp at hc; omega
  simp only [if_neg hmv]
  refine AW.go ?_
  refine AW.callE id (left_fn l) (.ptr rfl .nil) ?_
  have h1 : IntKind.u64.wrap (IntKind.i64.wrap ((l.length : Int) - (k : Int))) = ((l.length - k : Nat) : Int) := by
    rw [← Int.ofNat_sub hle, wrap_i64_nat (by omega), wrap_u64_lt (by omega)]
  refine AW.go ?_ (by simp only [go_sem, ↓reduceIte, h1] <;> rfl)
  refine AW.cond rfl (fun hc => ?_) (fun hc => ?_)
  · have he : l.length - k < v := by simp at hc; omega
    simp only [if_pos he]
    refine AW.go ?_
    refine AW.finE (.move rfl (.pv _ .nil)) rfl
  have hlv : ¬ l.length - k < v := by simp at hc; omega
  simp only [if_neg hlv]
  rw [show l.drop (k + v) = (l.drop k).drop v by rw [List.drop_drop]]
  refine AW.go ?_
  refine AW.callE id (take_fn l k hle hl) (.ptr rfl (.pv _ .nil)) ?_
  have h2 : IntKind.i64.wrap (v : Int) = (v : Int) := wrap_i64_nat (by omega)
  refine AW.go ?_ (by simp only [go_sem, ↓reduceIte, h2] <;> rfl)
  refine AW.callE id (take_fn (l.drop k) v (by simp; omega) (by simp; omega)) (.ptr rfl (.pv _ .nil)) ?_
  refine AW.go ?_
  refine AW.finE (.move rfl (.pv _ .nil)) rfl

theorem curFixed_fn (l : List Nat) (n : Nat) (hn : n ≤ 8) (hl : l.length ≤ room) (hb : ∀ x ∈ l, x < 256) : Fn Tryz.prog 74 (curO l) [.ptr 1000 0, .pv (.int .i64 n)]
    (fun rs H' => rs = [.pv (.int .u64 ((if n ≤ l.length then beN (l.take n) else 0) : Nat)), .pv (.int .i64 (if n ≤ l.length then 0 else 2))] ∧ H' = curO (if n ≤ l.length then l.drop n else l)) := by
  refine Fn.of_body (fn := Tryz.f74) (n := 33) (res := [.tmp 4, .tmp 5]) (by kernel_rfl) rfl rfl rfl rfl rfl (fun C => ?_)
  refine AW.go ?_
  refine AW.condF (by simp only [go_sem, ↓reduceIte]; congr 3; simp; omega) ?_
  refine AW.go ?_
  refine AW.callE id (curBytes_fn l n hl) (.ptr rfl (.pv _ .nil)) ?_
  have e0 : (if n ≤ l.length then beN (l.take n) else 0) = beN (if n ≤ l.length then l.take n else []) := by split <;> rfl
  rw [e0]
  have hxl : (if n ≤ l.length then l.take n else []).length ≤ 8 := by split <;> simp <;> omega
  have hxb : ∀ x ∈ (if n ≤ l.length then l.take n else []), x < 256 := by
    split
    · exact fun x hx => hb x (List.mem_of_mem_take hx)
    · simp
  generalize (if n ≤ l.length then l.take n else []) = xs at *
  generalize hE : (if n ≤ l.length then 0 else 2 : Int) = er
  generalize hR : (if n ≤ l.length then l.drop n else l) = lr
  refine AW.go ?_
  have hr : room < 2 ^ 63 := by decide
  refine AW.loopS (fun i : Nat => ⟨33, [(21, .pv (.int .i64 i)), (8, .pv (.int .u64 (beN (xs.take i) : Nat))), (19, .al (.slot 6)), (20, .pv (.int .i64 xs.length)), (6, .own 5 (bytes xs)), (7, .pv (.int .i64 er))], curO lr⟩) (fun i => i ≤ xs.length) (fun i => xs.length - i) [21, 8, 19, 20, 6, 7] [1000] 0 (Nat.zero_le _) ?_
  rintro i hi K hK
  refine AW.go ?_
  refine AW.cond rfl (fun hc => ?_) (fun hc => ?_)
  · have hlt : i < xs.length := by simpa using hc
    have hget := bytes_get hlt
    have hx := hxb _ (List.getElem_mem hlt)
    have hti : xs.take (i + 1) = xs.take i ++ [xs[i]] := by simp
    have hbl := beN_lt (xs.take i) (fun x hx => hxb x (List.mem_of_mem_take hx))
    have hp : 256 ^ (xs.take i).length ≤ 256 ^ 7 := Nat.pow_le_pow_right (by omega) (by simp; omega)
    have eo := or_lt256 (a := beN (xs.take i)) (x := xs[i]) (by omega) hx
    have eu : IntKind.u64.wrap ((xs[i] : Nat) : Int) = (xs[i] : Nat) := wrap_u64_lt (by omega)
    have ei : IntKind.i64.wrap ((i : Int) + 1) = ((i + 1 : Nat) : Int) := wrap_i64_succ (by omega)
    rw [← beN_snoc, ← hti] at eo
    refine AW.go ?_ (by simp only [go_sem, ↓reduceIte, hget, hlt, eu, eo, ei] <;> rfl)
    refine AW.again hK (i + 1) hlt (by omega)
  · have hge : ¬ i < xs.length := by simpa using hc
    rw [List.take_of_length_le (by omega)]
    refine AW.go ?_
    refine AW.finE (.pv _ (.pv _ .nil)) rfl
end Go.Ck

set_option linter.unusedVariables false
set_option maxRecDepth 10000
namespace Go.Ck
open Go.Proofs
theorem shr_byte {v j : Nat} (hj : j < 8) : IntKind.u8.wrap (shrI .u64 (v : Int) ((8 * j : Nat) : Int)) = ((v / 256 ^ j % 256 : Nat) : Int) := by
  rw [shrI_nat .u64 v (8 * j) (by show 8 * j ≤ 64; omega), wrap_u8, Nat.pow_mul]

theorem fix_fn (v n : Nat) (hv : v < 2 ^ 64) (hn : n ≤ 8) : Fn Tryz.prog 63 [] [.pv (.int .u64 v), .pv (.int .i64 n)] (fun rs H' => rs = [.own 5 (bytes (beB v n))] ∧ H' = []) := by
  refine Fn.of_body (fn := Tryz.f63) (n := 33) (res := [.tmp 4]) (by kernel_rfl) rfl rfl rfl rfl rfl (fun C => ?_)
  refine AW.gg ?_
  refine AW.condF (by simp only [go_sem, ↓reduceIte]; congr 3; simp; omega) ?_
  have hr : n ≤ room := Nat.le_trans hn (le_room 8)
  have hrep : List.replicate n (PV.int .u8 0) = bytes (List.replicate n 0) := by simp [bytes]
  refine AW.go ?_ (by simp only [go_sem, ↓reduceIte, hr, Nat.le_refl, hrep, List.length_replicate] <;> rfl)
  refine AW.loopS (fun a : List Nat × Nat => ⟨33, [(17, .pv (.int .i64 a.2)), (16, .pv (.int .i64 n)), (5, .own 5 (bytes a.1)), (1, .pv (.int .i64 n)), (0, .pv (.int .u64 v))], []⟩) (fun a => a.1 = List.replicate (n - a.2) 0 ++ beB v a.2 ∧ a.2 ≤ n) (fun a => n - a.2) [17, 16, 5, 1, 0] [] (List.replicate n 0, 0) ⟨by simp [beB], Nat.zero_le _⟩ ?_
  rintro ⟨l, i⟩ ⟨hl, hi⟩ K hK
  simp only at hl hi
  have hlen : l.length = n := by rw [hl]; simp [beB_len]; omega
  refine AW.go ?_
  refine AW.cond rfl (fun hc => ?_) (fun hc => ?_)
  · have hlt : i < n := by simpa using hc
    have e0 : IntKind.i64.wrap (IntKind.i64.wrap ((n : Int) - 1) - (i : Int)) = ((n - 1 - i : Nat) : Int) := by
      rw [wrap_i64_of (n := (n : Int) - 1) (by omega) (by omega), wrap_i64_of (by omega) (by omega)]; omega
    have e1 : IntKind.i64.wrap (8 * (i : Int)) = ((8 * i : Nat) : Int) := by rw [wrap_i64_of (by omega) (by omega)]; omega
    have e3 := shr_byte (v := v) (j := i) (by omega)
    have e4 : IntKind.i64.wrap ((i : Int) + 1) = ((i + 1 : Nat) : Int) := wrap_i64_succ (by omega)
    have hlt2 : n - 1 - i < l.length := by omega
    have hget := bytes_get hlt2
    refine AW.go ?_ (by simp only [go_sem, ↓reduceIte, e0, e1, e3, e4, hlt2, hget, bytes_set] <;> rfl)
    refine AW.again hK (l.set (n - 1 - i) (v / 256 ^ i % 256), i + 1) ⟨?_, hlt⟩ (by simp only; omega)
    simp only
    rw [hl, beB_succ, show n - i = (n - (i + 1)) + 1 by omega, List.replicate_succ', List.append_assoc, show n - 1 - i = n - (i + 1) by omega, List.set_append_right _ _ (by simp)]
    simp
  · have hge : ¬ i < n := by simpa using hc
    refine AW.go ?_
    refine AW.finE (.move rfl .nil) ?_
    have : i = n := by omega
    rw [hl, this]; simp

theorem refFix_fn (v n : Nat) (hv : v < 2 ^ 64) (hn : n ≤ 8) : Fn Tryz.prog 68 [] [.pv (.int .u64 v), .pv (.int .i64 n)] (fun rs H' => rs = [.own 5 (bytes (beB v n))] ∧ H' = []) := by
  refine Fn.of_body (fn := Tryz.f68) (n := 29) (res := [.tmp 4]) (by kernel_rfl) rfl rfl rfl rfl rfl (fun C => ?_)
  refine AW.gg ?_
  refine AW.condF (by simp only [go_sem, ↓reduceIte]; congr 3; simp; omega) ?_
  refine AW.go ?_
  refine AW.loopS (fun a : List Nat × Nat => ⟨29, [(5, .own 5 (bytes a.1)), (6, .pv (.int .i64 ((a.2 : Int) - 1))), (0, .pv (.int .u64 v))], []⟩) (fun a => a.1 ++ beB v a.2 = beB v n ∧ a.2 ≤ n) (fun a => a.2) [5, 6, 0] [] ([], n) ⟨rfl, Nat.le_refl _⟩ ?_ (by simp only [go_sem, ↓reduceIte]) (by simp only [go_sem, ↓reduceIte]; rw [wrap_i64_of (by omega) (by omega)] <;> rfl)
  rintro ⟨o, j⟩ ⟨ho, hj⟩ K hK
  simp only at ho hj
  refine AW.go ?_
  refine AW.cond rfl (fun hc => ?_) (fun hc => ?_)
  · cases j with
    | zero => simp at hc
    | succ j =>
      have e0 : (((j + 1 : Nat) : Int) - 1) = (j : Nat) := by omega
      have e1 : IntKind.i64.wrap (8 * (j : Int)) = ((8 * j : Nat) : Int) := by rw [wrap_i64_of (by omega) (by omega)]; omega
      have e2 : IntKind.u64.wrap ((8 * j : Nat) : Int) = ((8 * j : Nat) : Int) := wrap_u64_lt (by omega)
      have e4 : IntKind.i64.wrap ((j : Int) - 1) = (j : Int) - 1 := wrap_i64_of (by omega) (by omega)
      have e3 := shr_byte (v := v) (j := j) (by omega)
      have hlen : o.length + 1 ≤ room := by
        have := congrArg List.length ho
        simp [beB_len] at this
        have := le_room 8
        omega
      refine AW.go ?_ (by simp only [go_sem, ↓reduceIte, e0, e1, e2, e3, e4, Nat.one_mul, bytes_one, hlen] <;> rfl)
      refine AW.again hK (o ++ [v / 256 ^ j % 256], j) ⟨?_, by simp only; omega⟩ (by simp only; omega)
      rw [← ho, beB_succ]; simp
  · cases j with
    | zero =>
      refine AW.go ?_
      refine AW.finE (.move rfl .nil) ?_
      rw [← ho]; simp [beB]
    | succ j => exact absurd hc (by simp)

theorem refAppend_fn (b : List Nat) (v : Nat) (hv : v < 2 ^ 64) (hl : b.length + 10 ≤ room) : Fn Tryz.prog 22 [] [.pv (.sl 1 (bytes b)), .pv (.int .u64 v)] (fun rs H' => rs = [.own 5 (bytes (b ++ leb v))] ∧ H' = []) := by
  refine Fn.of_body (fn := Tryz.f22) (n := 26) (res := [.tmp 4]) (by kernel_rfl) rfl rfl rfl rfl rfl (fun C => ?_)
  have hb0 : b.length ≤ room := by omega
  refine AW.go ?_ (by simp only [go_sem, ↓reduceIte, hb0, Nat.zero_add, List.nil_append] <;> rfl)
  have hlen := leb_len10 hv
  refine AW.loopS (fun a : List Nat × Nat => ⟨26, [(5, .own 5 (bytes a.1)), (1, .pv (.int .u64 a.2))], []⟩) (fun a => a.1 ++ leb a.2 = b ++ leb v ∧ a.2 < 2 ^ 64) (fun a => a.2) [5, 1] [] (b, v) ⟨rfl, hv⟩ ?_
  rintro ⟨o, u⟩ ⟨ho, hu⟩ K hK
  simp only at ho hu
  have hol : o.length + (leb u).length = b.length + (leb v).length := by rw [← List.length_append, ho, List.length_append]
  have hup := leb_pos u
  have ho1 : o.length + 1 ≤ room := by omega
  have e128 : IntKind.u64.wrap (Int.tdiv (u : Int) 128) = ((u / 128 : Nat) : Int) := by rw [show Int.tdiv (u : Int) 128 = ((u / 128 : Nat) : Int) from rfl, wrap_u64_lt (by omega)]
  refine AW.go ?_ (by simp only [go_sem, ↓reduceIte, e128] <;> rfl)
  refine AW.cond rfl (fun hc => ?_) (fun hc => ?_)
  · have hge : ¬ u < 128 := by simp at hc; omega
    have e1 : IntKind.u8.wrap (IntKind.u8.wrap (Int.tmod (u : Int) 128) + 128) = ((u % 128 + 128 : Nat) : Int) := by
      rw [show Int.tmod (u : Int) 128 = ((u % 128 : Nat) : Int) from rfl, wrap_u8_lt (by omega)]
      exact wrap_u8_lt (n := u % 128 + 128) (by omega)
    refine AW.go ?_ (by simp only [go_sem, ↓reduceIte, e128, e1, bytes_one, ho1] <;> rfl)
    refine AW.again hK (o ++ [u % 128 + 128], u / 128) ⟨?_, by simp only; omega⟩ (by simp only; omega)
    simp only [List.append_assoc, List.singleton_append]
    rw [← leb_ge hge, ho]
  · have hlt : u < 128 := by simp at hc; omega
    have e1 : IntKind.u8.wrap (u : Int) = ((u : Nat) : Int) := wrap_u8_lt (by omega)
    refine AW.go ?_ (by simp only [go_sem, ↓reduceIte, e1, bytes_one, ho1] <;> rfl)
    refine AW.finE (.move rfl .nil) ?_
    rw [← ho, leb_lt hlt]

theorem refRead_fn (b : List Nat) (hl : b.length ≤ room) (hb : ∀ x ∈ b, x < 256) : Fn Tryz.prog 45 [] [.pv (.sl 1 (bytes b))] (fun rs H' => rs = [.pv (.int .u64 ((readV b).1 : Nat)), .pv (.int .i64 ((readV b).2.1 : Nat)), .pv (.int .i64 (readV b).2.2)] ∧ H' = []) := by
  refine Fn.of_body (fn := Tryz.f45) (n := 51) (res := [.tmp 2, .tmp 3, .tmp 4]) (by kernel_rfl) rfl rfl rfl rfl rfl (fun C => ?_)
  have hr : room < 2 ^ 63 := by decide
  refine AW.go ?_
  rw [readV_eq]
  refine AW.loopS (fun a : Nat × Nat => ⟨51, [(6, .pv (.int .i64 a.1)), (5, .pv (.int .u64 a.2)), (0, .pv (.sl 1 (bytes b)))], []⟩) (fun a => a.1 ≤ b.length ∧ a.1 ≤ 10 ∧ (a.1 = 10 → a.1 = b.length) ∧ rdv a.1 a.2 (b.drop a.1) = rdv 0 0 b ∧ a.2 < 128 ^ a.1) (fun a => b.length - a.1) [6, 5, 0] [] (0, 0) ⟨Nat.zero_le _, by simp, by simp, rfl, by simp⟩ ?_
  rintro ⟨i, v⟩ ⟨hi, hi10, hi11, hr, hv⟩ K hK
  simp only at hi hi10 hi11 hr hv
  refine AW.go ?_
  refine AW.cond rfl (fun hc => ?_) (fun hc => ?_)
  · have hlt : i < b.length := by simpa using hc
    have hi9 : i ≤ 9 := by omega
    have hx := hb b[i] (List.getElem_mem hlt)
    have hget := bytes_get hlt
    rw [List.drop_eq_getElem_cons hlt] at hr
    simp only [rdv] at hr
    generalize b[i] = x at hx hget hr
    have hvlt : v < 2 ^ 63 := by
      have : 128 ^ i ≤ 128 ^ 9 := Nat.pow_le_pow_right (by omega) (by omega)
      omega
    have hp : 128 ^ (i + 1) = 128 ^ i * 128 := Nat.pow_succ ..
    have e9 : ((i : Int) == 9) = decide (i = 9) := by rw [Bool.eq_iff_iff]; simp; omega
    have ei : IntKind.i64.wrap ((i : Int) + 1) = ((i + 1 : Nat) : Int) := wrap_i64_succ (by omega)
    by_cases h9 : i = 9 ∧ 1 < x
    · obtain ⟨k1, k2⟩ := h9
      rw [if_pos ⟨k1, k2⟩] at hr
      have b1 : decide (i = 9) = true := by simpa using k1
      refine AW.gg ?_ (by simp only [go_sem, ↓reduceIte, hget, e9, b1] <;> rfl)
      refine AW.cond rfl (fun hc2 => ?_) (fun hc2 => absurd k2 (by have h := of_decide_eq_false hc2; omega))
      refine AW.go ?_
      refine AW.finE (.pv _ (.pv _ (.pv _ .nil))) ?_
      rw [← hr]; rfl
    · rw [if_neg h9] at hr
      have hxs : x % 128 * 128 ^ i < 2 ^ 64 - 2 ^ 63 + 1 := by
        by_cases k : i = 9
        · subst k
          have : x ≤ 1 := by omega
          have h1 : x % 128 * 128 ^ 9 ≤ 1 * 128 ^ 9 := Nat.mul_le_mul_right _ (by omega)
          omega
        · have h2 : 128 ^ i ≤ 128 ^ 8 := Nat.pow_le_pow_right (by omega) (by omega)
          have h1 : x % 128 * 128 ^ i ≤ 127 * 128 ^ i := Nat.mul_le_mul_right _ (by omega)
          omega
      have em : Int.tmod (x : Int) 128 = ((x % 128 : Nat) : Int) := rfl
      have eu : IntKind.u64.wrap ((x % 128 : Nat) : Int) = ((x % 128 : Nat) : Int) := wrap_u64_lt (by omega)
      have e7 : IntKind.u64.wrap (IntKind.i64.wrap (7 * (i : Int))) = ((7 * i : Nat) : Int) := by
        rw [wrap_i64_of (by omega) (by omega)]
        exact wrap_u64_lt (n := 7 * i) (by omega)
      have es : shlI .u64 ((x % 128 : Nat) : Int) ((7 * i : Nat) : Int) = ((x % 128 * 128 ^ i : Nat) : Int) := by
        rw [shlI_nat64 _ _ (by omega), show (2 : Nat) ^ (7 * i) = 128 ^ i by rw [Nat.pow_mul], Nat.mod_eq_of_lt (by omega)]
      have ea : IntKind.u64.wrap ((v : Int) + ((x % 128 * 128 ^ i : Nat) : Int)) = ((v + x % 128 * 128 ^ i : Nat) : Int) := wrap_u64_lt (n := v + x % 128 * 128 ^ i) (by omega)
      refine via (T := ?T) (fun hT => ?_) ?_
      rotate_left
      · by_cases k : i = 9
        · have b1 : decide (i = 9) = true := by simpa using k
          refine AW.gg ?_ (by simp only [go_sem, ↓reduceIte, hget, e9, b1] <;> rfl)
          refine AW.cond rfl (fun hc2 => absurd ⟨k, by simp at hc2; omega⟩ h9) (fun hc2 => ?_)
          refine AW.keepB [0, 5, 6] [] (by simp only [go_sem, ↓reduceIte]) (by simp only [go_sem, ↓reduceIte] <;> rfl) ?_
          exact hT ()
        · have b1 : decide (i = 9) = false := by simpa using k
          refine AW.gg ?_ (by simp only [go_sem, ↓reduceIte, hget, e9, b1] <;> rfl)
          refine AW.condF rfl ?_
          refine AW.keepB [0, 5, 6] [] (by simp only [go_sem, ↓reduceIte]) (by simp only [go_sem, ↓reduceIte] <;> rfl) ?_
          exact hT ()
      refine AW.go ?_ (by simp only [go_sem, ↓reduceIte, hget, em, eu, e7, es, ea] <;> rfl)
      refine AW.cond rfl (fun hc2 => ?_) (fun hc2 => ?_)
      · have h128 : ¬ 128 ≤ x := by simp at hc2; omega
        rw [if_neg h128] at hr
        have hxm : x % 128 = x := Nat.mod_eq_of_lt (by omega)
        rw [hxm]
        have ep : decide ((i : Int) > 0) = decide (0 < i) := by rw [Bool.eq_iff_iff]; simp
        by_cases k0 : 0 < i
        · have b1 : decide (0 < i) = true := by simpa using k0
          refine AW.gg ?_ (by simp only [go_sem, ↓reduceIte, hget, ep, b1] <;> rfl)
          refine AW.cond rfl (fun hc3 => ?_) (fun hc3 => ?_)
          · have hx0 : x = 0 := by simp at hc3; omega
            rw [if_pos ⟨hx0, k0⟩] at hr
            refine AW.go ?_
            refine AW.finE (.pv _ (.pv _ (.pv _ .nil))) ?_
            rw [← hr]; rfl
          · have hx0 : ¬ x = 0 := by simp at hc3; omega
            rw [if_neg (fun h => hx0 h.1)] at hr
            refine AW.go ?_ (by simp only [go_sem, ↓reduceIte, ei] <;> rfl)
            refine AW.finE (.pv _ (.pv _ (.pv _ .nil))) ?_
            rw [← hr]
        · have b1 : decide (0 < i) = false := by simpa using k0
          refine AW.gg ?_ (by simp only [go_sem, ↓reduceIte, ep, b1] <;> rfl)
          refine AW.condF rfl ?_
          rw [if_neg (fun h => k0 h.2)] at hr
          refine AW.go ?_ (by simp only [go_sem, ↓reduceIte, ei] <;> rfl)
          refine AW.finE (.pv _ (.pv _ (.pv _ .nil))) ?_
          rw [← hr]
      · have h128 : 128 ≤ x := by simp at hc2; omega
        rw [if_pos h128] at hr
        refine AW.go ?_ (by simp only [go_sem, ↓reduceIte, ei] <;> rfl)
        refine AW.again hK (i + 1, v + x % 128 * 128 ^ i) ⟨hlt, by simp only; omega, by simp only; omega, hr, ?_⟩ (by simp only; omega)
        simp only
        rw [hp]
        have h1 : x % 128 * 128 ^ i ≤ 127 * 128 ^ i := Nat.mul_le_mul_right _ (by omega)
        omega
  · have hge : ¬ i < b.length := by simpa using hc
    rw [List.drop_eq_nil_of_le (by omega), rdv] at hr
    refine AW.go ?_
    refine AW.finE (.pv _ (.pv _ (.pv _ .nil))) ?_
    rw [← hr]; rfl
end Go.Ck

set_option linter.unusedVariables false
set_option maxRecDepth 10000
namespace Go.Ck
open Go.Proofs
theorem refVarint_fn (b : List Nat) (hl : b.length ≤ room) (hb : ∀ x ∈ b, x < 256) : Fn Tryz.prog 24 [] [.pv (.sl 1 (bytes b))] (fun rs H' => rs = [.pv (.int .u64 ((readV b).1 : Nat)), .pv (.sl 1 (bytes (b.drop (readV b).2.1))), .pv (.int .i64 (readV b).2.2)] ∧ H' = []) := by
  refine Fn.of_body (fn := Tryz.f24) (n := 19) (res := [.tmp 2, .tmp 3, .tmp 4]) (by kernel_rfl) rfl rfl rfl rfl rfl (fun C => ?_)
  have hr : room < 2 ^ 63 := by decide
  have hle := readV_le b
  refine AW.go ?_
  refine AW.callE (fun _ => 0) (refRead_fn b hl hb) (.pv _ .nil) ?_
  refine AW.go ?_
  have e : (((b.length : Int) - ((readV b).2.1 : Nat)).toNat) = b.length - (readV b).2.1 := by omega
  have e2 : (bytes (b.drop (readV b).2.1)).take (b.length - (readV b).2.1) = bytes (b.drop (readV b).2.1) := List.take_of_length_le (by simp [bytes])
  refine AW.sr mixed (by decide +kernel) ?_ (by simp only [go_sem, ↓reduceIte, hle, e]; rw [← bytes_take, e2] <;> rfl)
  refine AW.go ?_
  refine AW.finE (.pv _ (.pv _ (.pv _ .nil))) rfl

theorem refBytes_fn (b : List Nat) (n : Nat) (hn : n < 2 ^ 63) (hl : b.length ≤ room) : Fn Tryz.prog 44 [] [.pv (.sl 1 (bytes b)), .pv (.int .i64 n)]
    (fun rs H' => rs = [.own 5 (bytes (if n ≤ b.length then b.take n else [])), .pv (.sl 1 (bytes (if n ≤ b.length then b.drop n else b))), .pv (.int .i64 (if n ≤ b.length then 0 else 2))] ∧ H' = []) := by
  refine Fn.of_body (fn := Tryz.f44) (n := 23) (res := [.tmp 4, .tmp 5, .tmp 6]) (by kernel_rfl) rfl rfl rfl rfl rfl (fun C => ?_)
  refine AW.go ?_
  refine AW.condF rfl ?_
  refine AW.go ?_
  refine AW.cond rfl (fun hc => ?_) (fun hc => ?_)
  · have hle : ¬ n ≤ b.length := by simp at hc; omega
    simp only [if_neg hle]
    refine AW.go ?_
    refine AW.finE (.move rfl (.pv _ (.pv _ .nil))) rfl
  · have hle : n ≤ b.length := by simp at hc; omega
    simp only [if_pos hle]
    refine AW.go ?_
    have e : (((b.length : Int) - (n : Nat)).toNat) = b.length - n := by omega
    have e2 : (bytes (b.drop n)).take (b.length - n) = bytes (b.drop n) := List.take_of_length_le (by simp [bytes])
    refine AW.ts [1, 2, 3, 5, 6, 7] [0, 4, 8, 9, 10] mixed (by decide +kernel) ?_ (by simp only [go_sem, ↓reduceIte, hle, e]; rw [← bytes_take, e2] <;> rfl)
    have h3 : (b.take n).length ≤ room := by simp; omega
    refine AW.go ?_ (by simp only [go_sem, ↓reduceIte, h3, Nat.zero_add, List.nil_append] <;> rfl)
    refine AW.finE (.move rfl (.pv _ (.pv _ .nil))) rfl

theorem refBlock_fn (l : List Nat) (m : Nat) (hm : m < 2 ^ 63) (hl : l.length ≤ room) (hb : ∀ x ∈ l, x < 256) : Fn Tryz.prog 23 [] [.pv (.sl 1 (bytes l)), .pv (.int .i64 m)]
    (fun rs H' => rs = [.own 5 (bytes (blk l m).1), .pv (.sl 1 (bytes (blk l m).2.2)), .pv (.int .i64 (blk l m).2.1)] ∧ H' = []) := by
  refine Fn.of_body (fn := Tryz.f23) (n := 45) (res := [.tmp 4, .tmp 5, .tmp 6]) (by kernel_rfl) rfl rfl rfl rfl rfl (fun C => ?_)
  have hr : room < 2 ^ 63 := by decide
  have hle := readV_le l
  have hlt := readV_lt hb
  refine AW.go ?_
  refine AW.condF rfl ?_
  refine AW.go ?_
  refine AW.callE (fun _ => 0) (refVarint_fn l hl hb) (.pv _ .nil) ?_
  refine AW.go ?_
  unfold blk
  generalize (readV l).1 = v at *
  generalize (readV l).2.2 = e at *
  generalize (readV l).2.1 = k at *
  refine AW.cond rfl (fun hc => ?_) (fun hc => ?_)
  · have he : e ≠ 0 := by simpa using hc
    simp only [if_pos he]
    refine AW.go ?_
    refine AW.finE (.move rfl (.pv _ (.pv _ .nil))) rfl
  have he : ¬ e ≠ 0 := by simpa using hc
  simp only [if_neg he]
  have hu : IntKind.u64.wrap (m : Int) = (m : Int) := wrap_u64_lt (by omega)
  refine AW.go ?_ (by simp only [go_sem, ↓reduceIte, hu] <;> rfl)
  refine AW.cond rfl (fun hc => ?_) (fun hc => ?_)
  · have he : m < v := by simp at hc; omega
    simp only [if_pos he]
    refine AW.go ?_
    refine AW.finE (.move rfl (.pv _ (.pv _ .nil))) rfl
  have hmv : ¬ m < v := by simp at hc; omega
  simp only [if_neg hmv]
  have h2 : IntKind.i64.wrap (v : Int) = (v : Int) := wrap_i64_nat (by omega)
  refine AW.go ?_ (by simp only [go_sem, ↓reduceIte, h2] <;> rfl)
  refine AW.callE (fun _ => 0) (refBytes_fn (l.drop k) v (by omega) (by simp; omega)) (.pv _ (.pv _ .nil)) ?_
  refine AW.go ?_
  by_cases hx : v ≤ (l.drop k).length
  · have hlv : ¬ l.length - k < v := by simp at hx; omega
    simp only [if_pos hx, if_neg hlv]
    refine AW.condF rfl ?_
    refine AW.go ?_
    refine AW.finE (.move rfl (.pv _ (.pv _ .nil))) ?_
    rw [List.drop_drop]
  · have hlv : l.length - k < v := by simp at hx; omega
    simp only [if_neg hx, if_pos hlv]
    refine AW.condT rfl ?_
    refine AW.go ?_
    refine AW.finE (.move rfl (.pv _ (.pv _ .nil))) rfl

theorem refFixed_fn (l : List Nat) (n : Nat) (hn : n ≤ 8) (hl : l.length ≤ room) (hb : ∀ x ∈ l, x < 256) : Fn Tryz.prog 87 [] [.pv (.sl 1 (bytes l)), .pv (.int .i64 n)]
    (fun rs H' => rs = [.pv (.int .u64 ((if n ≤ l.length then beN (l.take n) else 0) : Nat)), .pv (.sl 1 (bytes (if n ≤ l.length then l.drop n else l))), .pv (.int .i64 (if n ≤ l.length then 0 else 2))] ∧ H' = []) := by
  refine Fn.of_body (fn := Tryz.f87) (n := 43) (res := [.tmp 4, .tmp 5, .tmp 6]) (by kernel_rfl) rfl rfl rfl rfl rfl (fun C => ?_)
  refine AW.gg ?_
  refine AW.condF (by simp only [go_sem, ↓reduceIte]; congr 3; simp; omega) ?_
  refine AW.go ?_
  refine AW.callE (fun _ => 0) (refBytes_fn l n (by omega) hl) (.pv _ (.pv _ .nil)) ?_
  have e0 : (if n ≤ l.length then beN (l.take n) else 0) = beN (if n ≤ l.length then l.take n else []) := by split <;> rfl
  rw [e0]
  have hxl : (if n ≤ l.length then l.take n else []).length ≤ 8 := by split <;> simp <;> omega
  have hxb : ∀ x ∈ (if n ≤ l.length then l.take n else []), x < 256 := by
    split
    · exact fun x hx => hb x (List.mem_of_mem_take hx)
    · simp
  generalize (if n ≤ l.length then l.take n else []) = xs at *
  generalize (if n ≤ l.length then 0 else 2 : Int) = er
  generalize (if n ≤ l.length then l.drop n else l) = lr
  refine AW.go ?_
  refine AW.loopS (fun i : Nat => ⟨43, [(11, .pv (.int .i64 i)), (10, .pv (.int .u64 (beN (xs.take i) : Nat))), (7, .own 5 (bytes xs)), (8, .pv (.sl 1 (bytes lr))), (9, .pv (.int .i64 er))], []⟩) (fun i => i ≤ xs.length) (fun i => xs.length - i) [11, 10, 7, 8, 9] [] 0 (Nat.zero_le _) ?_
  rintro i hi K hK
  refine AW.go ?_
  refine AW.cond rfl (fun hc => ?_) (fun hc => ?_)
  · have hlt : i < xs.length := by simpa using hc
    have hget := bytes_get hlt
    have hx := hxb _ (List.getElem_mem hlt)
    have hti : xs.take (i + 1) = xs.take i ++ [xs[i]] := by simp
    have hbl := beN_lt (xs.take i) (fun x hx => hxb x (List.mem_of_mem_take hx))
    have hp : 256 ^ (xs.take i).length ≤ 256 ^ 7 := Nat.pow_le_pow_right (by omega) (by simp; omega)
    have eu : IntKind.u64.wrap ((xs[i] : Nat) : Int) = (xs[i] : Nat) := wrap_u64_lt (by omega)
    have ei : IntKind.i64.wrap ((i : Int) + 1) = ((i + 1 : Nat) : Int) := wrap_i64_succ (by omega)
    have em : IntKind.u64.wrap (((beN (xs.take i) : Nat) : Int) * 256) = ((beN (xs.take i) * 256 : Nat) : Int) := wrap_u64_lt (n := beN (xs.take i) * 256) (by omega)
    have ea : IntKind.u64.wrap (((beN (xs.take i) * 256 : Nat) : Int) + (xs[i] : Nat)) = ((beN (xs.take (i + 1)) : Nat) : Int) := by
      rw [hti, beN_snoc]
      exact wrap_u64_lt (n := beN (xs.take i) * 256 + xs[i]) (by omega)
    refine AW.go ?_ (by simp only [go_sem, ↓reduceIte, hget, hlt, eu, em, ea, ei] <;> rfl)
    refine AW.again hK (i + 1) hlt (by omega)
  · have hge : ¬ i < xs.length := by simpa using hc
    rw [List.take_of_length_le (by omega)]
    refine AW.go ?_
    refine AW.finE (.pv _ (.pv _ (.pv _ .nil))) rfl
end Go.Ck
