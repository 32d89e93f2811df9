/- What is proved here: parts of the proofs of this seat's statements (a verified evaluator for calls over pure values, its laws, and contracts of functions). No condition. -/
import Derived.Test.YtnbkoemhcpjceaaDoorKi
import Derived.Test.YtnbkoemhcpjceaaDoorProg
import Derived.KernelRfl
set_option linter.all false
set_option linter.unusedVariables false
namespace Go.Ck
def u64s (l : List Nat) : List PV := l.map fun (n : Nat) => .int .u64 (n : Int)
def bytes (l : List Nat) : List PV := l.map fun (n : Nat) => .int .u8 (n : Int)
def ints (l : List Int) : List PV := l.map (.int .i64)

theorem wrap_u64 (n : Nat) : IntKind.u64.wrap (n : Int) = ((n % 2 ^ 64 : Nat) : Int) := by
  rw [IntKind.wrap_u64]; omega
theorem wrap_u64_lt {n : Nat} (h : n < 2 ^ 64) : IntKind.u64.wrap (n : Int) = (n : Int) := by rw [wrap_u64, Nat.mod_eq_of_lt h]
theorem wrap_u8 (n : Nat) : IntKind.u8.wrap (n : Int) = ((n % 256 : Nat) : Int) := by
  rw [IntKind.wrap_u8]; omega
theorem wrap_u8_lt {n : Nat} (h : n < 256) : IntKind.u8.wrap (n : Int) = (n : Int) := by rw [wrap_u8, Nat.mod_eq_of_lt h]
theorem wrap_i64_of {n : Int} (h : -(2 ^ 63) ≤ n) (h2 : n < 2 ^ 63) : IntKind.i64.wrap n = n := by
  rw [IntKind.wrap_i64]; omega
theorem wrap_i64_nat {n : Nat} (h : n < 2 ^ 63) : IntKind.i64.wrap (n : Int) = (n : Int) := wrap_i64_of (by omega) (by omega)
theorem wrap_i64_succ {n : Nat} (h : n + 1 < 2 ^ 63) : IntKind.i64.wrap ((n : Int) + 1) = ((n + 1 : Nat) : Int) := by rw [wrap_i64_of (by omega) (by omega)]; omega

theorem ofInt_nat (w n : Nat) : BitVec.ofInt w (n : Int) = BitVec.ofNat w n := by simp
theorem ibits_or64 {a b : Nat} (ha : a < 2 ^ 64) (hb : b < 2 ^ 64) : ibits .or .u64 (a : Int) (b : Int) = ((a ||| b : Nat) : Int) := by
  simp only [ibits, ofInt_nat, BitVec.toNat_or, BitVec.toNat_ofNat]
  rw [show IntKind.u64.bits = 64 from rfl, Nat.mod_eq_of_lt ha, Nat.mod_eq_of_lt hb, wrap_u64_lt (Nat.or_lt_two_pow ha hb)]
theorem ibits_and64 {a b : Nat} (ha : a < 2 ^ 64) (hb : b < 2 ^ 64) : ibits .and .u64 (a : Int) (b : Int) = ((a &&& b : Nat) : Int) := by
  simp only [ibits, ofInt_nat, BitVec.toNat_and, BitVec.toNat_ofNat]
  rw [show IntKind.u64.bits = 64 from rfl, Nat.mod_eq_of_lt ha, Nat.mod_eq_of_lt hb, wrap_u64_lt (Nat.lt_of_le_of_lt Nat.and_le_left ha)]
theorem ibits_xor64 {a b : Nat} (ha : a < 2 ^ 64) (hb : b < 2 ^ 64) : ibits .xor .u64 (a : Int) (b : Int) = ((a ^^^ b : Nat) : Int) := by
  simp only [ibits, ofInt_nat, BitVec.toNat_xor, BitVec.toNat_ofNat]
  rw [show IntKind.u64.bits = 64 from rfl, Nat.mod_eq_of_lt ha, Nat.mod_eq_of_lt hb, wrap_u64_lt (Nat.xor_lt_two_pow ha hb)]
theorem ibits_or8 {a b : Nat} (ha : a < 2 ^ 8) (hb : b < 2 ^ 8) : ibits .or .u8 (a : Int) (b : Int) = ((a ||| b : Nat) : Int) := by
  simp only [ibits, ofInt_nat, BitVec.toNat_or, BitVec.toNat_ofNat]
  rw [show IntKind.u8.bits = 8 from rfl, Nat.mod_eq_of_lt ha, Nat.mod_eq_of_lt hb, wrap_u8_lt (Nat.or_lt_two_pow ha hb)]
theorem ibits_and8 {a b : Nat} (ha : a < 2 ^ 8) (hb : b < 2 ^ 8) : ibits .and .u8 (a : Int) (b : Int) = ((a &&& b : Nat) : Int) := by
  simp only [ibits, ofInt_nat, BitVec.toNat_and, BitVec.toNat_ofNat]
  rw [show IntKind.u8.bits = 8 from rfl, Nat.mod_eq_of_lt ha, Nat.mod_eq_of_lt hb, wrap_u8_lt (Nat.lt_of_le_of_lt Nat.and_le_left ha)]
theorem shrI_nat (k : IntKind) (a m : Nat) (hm : m ≤ k.bits) : shrI k (a : Int) (m : Int) = ((a / 2 ^ m : Nat) : Int) := by
  unfold shrI
  rw [Int.toNat_natCast, Nat.min_eq_left hm, Int.fdiv_eq_ediv_of_nonneg _ (by exact_mod_cast Nat.zero_le _)]
  simp
theorem shlI_nat64 (a m : Nat) (hm : m ≤ 64) : shlI .u64 (a : Int) (m : Int) = ((a * 2 ^ m % 2 ^ 64 : Nat) : Int) := by
  unfold shlI
  rw [Int.toNat_natCast, show IntKind.u64.bits = 64 from rfl, Nat.min_eq_left hm, ← wrap_u64]
  simp
theorem shlI_nat8 (a m : Nat) (hm : m ≤ 8) : shlI .u8 (a : Int) (m : Int) = ((a * 2 ^ m % 256 : Nat) : Int) := by
  unfold shlI
  rw [Int.toNat_natCast, show IntKind.u8.bits = 8 from rfl, Nat.min_eq_left hm, ← wrap_u8]
  simp

theorem bytes_length (l : List Nat) : (bytes l).length = l.length := by simp [bytes]
theorem bytes_append (l r : List Nat) : bytes l ++ bytes r = bytes (l ++ r) := by simp [bytes]
theorem bytes_take (l : List Nat) (n : Nat) : (bytes l).take n = bytes (l.take n) := by simp [bytes]
theorem bytes_drop (l : List Nat) (n : Nat) : (bytes l).drop n = bytes (l.drop n) := by simp [bytes]
theorem bytes_one (n : Nat) : [PV.int .u8 (n : Int)] = bytes [n] := rfl
theorem bytes_get {l : List Nat} {i : Nat} (h : i < l.length) : (bytes l)[i]? = some (.int .u8 (l[i] : Nat)) := by simp [bytes, h]
theorem bytes_set (l : List Nat) (i n : Nat) : (bytes l).set i (.int .u8 (n : Int)) = bytes (l.set i n) := by simp [bytes, List.map_set]
theorem u64s_length (l : List Nat) : (u64s l).length = l.length := by simp [u64s]
theorem u64s_append (l r : List Nat) : u64s l ++ u64s r = u64s (l ++ r) := by simp [u64s]
theorem u64s_take (l : List Nat) (n : Nat) : (u64s l).take n = u64s (l.take n) := by simp [u64s]
theorem u64s_drop (l : List Nat) (n : Nat) : (u64s l).drop n = u64s (l.drop n) := by simp [u64s]
theorem u64s_get {l : List Nat} {i : Nat} (h : i < l.length) : (u64s l)[i]? = some (.int .u64 (l[i] : Nat)) := by simp [u64s, h]
theorem ints_length (l : List Int) : (ints l).length = l.length := by simp [ints]
theorem ints_append (l r : List Int) : ints l ++ ints r = ints (l ++ r) := by simp [ints]
theorem ints_take (l : List Int) (n : Nat) : (ints l).take n = ints (l.take n) := by simp [ints]
theorem ints_drop (l : List Int) (n : Nat) : (ints l).drop n = ints (l.drop n) := by simp [ints]
theorem ints_get {l : List Int} {i : Nat} (h : i < l.length) : (ints l)[i]? = some (.int .i64 l[i]) := by simp [ints, h]
theorem cloL_bytes (l : List Nat) : cloL (bytes l) = true := by induction l with | nil => rfl | cons a l ih => simpa [bytes, cloL, PV.clo] using ih
theorem cloL_u64s (l : List Nat) : cloL (u64s l) = true := by induction l with | nil => rfl | cons a l ih => simpa [u64s, cloL, PV.clo] using ih
theorem cloL_ints (l : List Int) : cloL (ints l) = true := by induction l with | nil => rfl | cons a l ih => simpa [ints, cloL, PV.clo] using ih
def nis (l : List Nat) : List PV := l.map fun (n : Nat) => .int .i64 (n : Int)
theorem nis_length (l : List Nat) : (nis l).length = l.length := by simp [nis]
theorem nis_append (l r : List Nat) : nis l ++ nis r = nis (l ++ r) := by simp [nis]
theorem nis_take (l : List Nat) (n : Nat) : (nis l).take n = nis (l.take n) := by simp [nis]
theorem nis_drop (l : List Nat) (n : Nat) : (nis l).drop n = nis (l.drop n) := by simp [nis]
theorem cloL_nis (l : List Nat) : cloL (nis l) = true := by induction l with | nil => rfl | cons a l ih => simpa [nis, cloL, PV.clo] using ih
theorem u64s_one (n : Nat) : [PV.int .u64 (n : Int)] = u64s [n] := rfl
theorem u64s_set (l : List Nat) (i n : Nat) : (u64s l).set i (.int .u64 (n : Int)) = u64s (l.set i n) := by simp [u64s, List.map_set]
theorem ints_one (n : Int) : [PV.int .i64 n] = ints [n] := rfl
attribute [go_sem] nis_length nis_append nis_take nis_drop cloL_nis
theorem bytes_get0 (x : Nat) (r : List Nat) : (bytes (x :: r))[0]? = some (.int .u8 (x : Int)) := rfl
theorem u64s_get0 (x : Nat) (r : List Nat) : (u64s (x :: r))[0]? = some (.int .u64 (x : Int)) := rfl
theorem nis_get0 (x : Nat) (r : List Nat) : (nis (x :: r))[0]? = some (.int .i64 (x : Int)) := rfl
theorem ints_get0 (x : Int) (r : List Int) : (ints (x :: r))[0]? = some (.int .i64 x) := rfl
attribute [go_sem] bytes_get0 u64s_get0 nis_get0 ints_get0
theorem nat_lt_zero (n : Nat) : ((n : Int) < 0) = False := by simp
theorem zero_le_nat (n : Nat) : ((0 : Int) ≤ (n : Int)) = True := by simp
theorem le_maxLen (n : Nat) (h : n ≤ 1000 := by decide) : n ≤ maxLen := by unfold maxLen; omega
theorem le_room (n : Nat) (h : n ≤ 1000 := by decide) : n ≤ room := by unfold room; omega
theorem le_maxLen0 : (0 ≤ maxLen) = True := by simp
theorem le_maxLen1 : (1 ≤ maxLen) = True := by simp [le_maxLen]
theorem le_maxLen2 : (2 ≤ maxLen) = True := by simp [le_maxLen]
theorem le_maxLen3 : (3 ≤ maxLen) = True := by simp [le_maxLen]
theorem le_maxLen16 : (16 ≤ maxLen) = True := by simp [le_maxLen]
theorem le_room0 : (0 ≤ room) = True := by simp
theorem le_room1 : (1 ≤ room) = True := by simp [le_room]
theorem le_room8 : (8 ≤ room) = True := by simp [le_room]
theorem natmul (k n : Nat) : ((k : Nat) : Int) * (n : Int) = ((k * n : Nat) : Int) := rfl
attribute [go_sem] le_maxLen0 le_maxLen1 le_maxLen2 le_maxLen3 le_maxLen16 le_room0 le_room1 le_room8 natmul Nat.one_mul Int.toNat_natCast
attribute [go_sem] nat_lt_zero zero_le_nat id_eq id bytes_length bytes_append bytes_take bytes_drop u64s_length u64s_append u64s_take u64s_drop ints_length ints_append ints_take ints_drop cloL_bytes cloL_u64s cloL_ints Int.ofNat_le Int.ofNat_lt SV.clo HO.clo PV.clo okA okB resOK nodupB freshO nilL cellsIn inL offP offM neM HM allIn List.isEmpty_nil Option.isSome_some Int.natCast_nonneg Int.sub_zero Option.map_some Option.map_none
end Go.Ck

set_option linter.unusedVariables false
namespace Go.Ck
theorem cells_one {p q : PV} (h : p.cells = [q]) (h1 : p.one = true) : p = q := by
  cases p <;> first | (simp [PV.cells] at h; exact h) | simp [PV.one] at h1
section
variable {P : Program} {n : Nat} {t : TypeId} {p : PV}
theorem PT_int {k : IntKind} (hu : P.underlying t = some (.int k)) (h : PT P (n + 1) t p.cells) (h1 : p.one = !isAggT P t) : ∃ m, p = .int k m ∧ (Lit.int k m).wf = true := by
  unfold isAggT at h1
  rw [hu] at h1
  unfold PT at h
  rw [hu] at h
  obtain ⟨m, e, hw⟩ := h
  exact ⟨m, cells_one e h1, hw⟩
theorem PT_str (hu : P.underlying t = some .string) (h : PT P (n + 1) t p.cells) (h1 : p.one = !isAggT P t) : ∃ s, p = .str s ∧ s.length ≤ maxLen := by
  unfold isAggT at h1
  rw [hu] at h1
  unfold PT at h
  rw [hu] at h
  obtain ⟨m, e, hw⟩ := h
  exact ⟨m, cells_one e h1, hw⟩
theorem PT_slice {e : TypeId} (hu : P.underlying t = some (.slice e)) (h : PT P (n + 1) t p.cells) (h1 : p.one = !isAggT P t) : ∃ xs, p = .sl (P.cellsOf e) xs ∧ xs.length ≤ maxLen ∧ ∀ x ∈ xs, PT P n e x.cells ∧ x.one = !isAggT P e := by
  unfold isAggT at h1
  rw [hu] at h1
  unfold PT at h
  rw [hu] at h
  obtain ⟨xs, e, h2, h3⟩ := h
  exact ⟨xs, cells_one e h1, h2, h3⟩
theorem ints_of {k : IntKind} : ∀ (xs : List PV), (∀ x ∈ xs, ∃ m, x = .int k m ∧ (Lit.int k m).wf = true) → ∃ l : List Int, xs = l.map (.int k) ∧ ∀ m ∈ l, (Lit.int k m).wf = true
  | [], _ => ⟨[], rfl, by simp⟩
  | x :: r, h => by
    obtain ⟨m, rfl, hm⟩ := h x (by simp)
    obtain ⟨l, rfl, hl⟩ := ints_of r (fun y hy => h y (by simp [hy]))
    exact ⟨m :: l, rfl, by simpa using ⟨hm, hl⟩⟩
theorem PT_ints {e : TypeId} {k : IntKind} (hu : P.underlying t = some (.slice e)) (he : P.underlying e = some (.int k)) (hc : P.cellsOf e = 1) (h : PT P (n + 2) t p.cells) (h1 : p.one = !isAggT P t) : ∃ l : List Int, p = .sl 1 (l.map (.int k)) ∧ l.length ≤ maxLen ∧ ∀ m ∈ l, (Lit.int k m).wf = true := by
  obtain ⟨xs, rfl, h2, h3⟩ := PT_slice (n := n + 1) hu h h1
  obtain ⟨l, rfl, hl⟩ := ints_of xs (fun x hx => PT_int (n := n) he (h3 x hx).1 (h3 x hx).2)
  exact ⟨l, by rw [hc], by simpa using h2, hl⟩
theorem nats_of {k : IntKind} (hk : k.signed = false) : ∀ (l : List Int), (∀ m ∈ l, (Lit.int k m).wf = true) → ∃ r : List Nat, l = r.map (fun (n : Nat) => (n : Int)) ∧ ∀ x ∈ r, x < 2 ^ k.bits
  | [], _ => ⟨[], rfl, by simp⟩
  | m :: r, h => by
    have hm := h m (by simp)
    simp only [Lit.wf, IntKind.min, IntKind.max, hk, Bool.and_eq_true, decide_eq_true_eq] at hm
    obtain ⟨l, rfl, hl⟩ := nats_of hk r (fun y hy => h y (by simp [hy]))
    obtain ⟨a, rfl⟩ : ∃ a : Nat, m = a := ⟨m.toNat, by have := hm.1; simp at this; omega⟩
    refine ⟨a :: l, rfl, ?_⟩
    simp only [List.mem_cons, forall_eq_or_imp]
    refine ⟨?_, hl⟩
    have h2 : (a : Int) ≤ 2 ^ k.bits - 1 := hm.2
    have h3 : ((2 ^ k.bits : Nat) : Int) = (2 : Int) ^ k.bits := by norm_cast
    omega
theorem PT_bytes {e : TypeId} (hu : P.underlying t = some (.slice e)) (he : P.underlying e = some (.int .u8)) (hc : P.cellsOf e = 1) (h : PT P (n + 2) t p.cells) (h1 : p.one = !isAggT P t) : ∃ l : List Nat, p = .sl 1 (bytes l) ∧ l.length ≤ maxLen ∧ ∀ x ∈ l, x < 256 := by
  obtain ⟨l, rfl, h2, h3⟩ := PT_ints (n := n) hu he hc h h1
  obtain ⟨r, rfl, h4⟩ := nats_of rfl l h3
  exact ⟨r, by simp [bytes], by simpa using h2, h4⟩
theorem PT_u8 (hu : P.underlying t = some (.int .u8)) (h : PT P (n + 1) t p.cells) (h1 : p.one = !isAggT P t) : ∃ v : Nat, p = .int .u8 v ∧ v < 256 := by
  obtain ⟨m, rfl, hm⟩ := PT_int hu h h1
  obtain ⟨r, hr, h4⟩ := nats_of (k := .u8) rfl [m] (by simpa using hm)
  match r, hr with
  | [a], hr => simp at hr; subst hr; exact ⟨a, rfl, h4 a (by simp)⟩
theorem wf_i64 {m : Int} (h : (Lit.int .i64 m).wf = true) : -2 ^ 63 ≤ m ∧ m < 2 ^ 63 := by
  simp only [Lit.wf, IntKind.min, IntKind.max, Bool.and_eq_true, decide_eq_true_eq] at h
  have h1 : -(2 : Int) ^ 63 ≤ m := of_decide_eq_true h.1
  have h2 : m ≤ (2 : Int) ^ 63 - 1 := of_decide_eq_true h.2
  omega
theorem PT_i64 (hu : P.underlying t = some (.int .i64)) (h : PT P (n + 1) t p.cells) (h1 : p.one = !isAggT P t) : ∃ v : Int, p = .int .i64 v ∧ -2 ^ 63 ≤ v ∧ v < 2 ^ 63 := by
  obtain ⟨m, rfl, hm⟩ := PT_int hu h h1
  exact ⟨m, rfl, wf_i64 hm⟩
theorem PA1 {N : Nat} {t : TypeId} {pl : List PV} (h : PA P N [t] pl) : ∃ p, pl = [p] ∧ PT P N t p.cells ∧ p.one = !isAggT P t := by
  obtain ⟨h1, h2⟩ := h
  match pl, h1 with
  | [p], _ => exact ⟨p, rfl, h2 0 _ _ rfl rfl⟩
theorem PA2 {N : Nat} {t u : TypeId} {pl : List PV} (h : PA P N [t, u] pl) : ∃ p q, pl = [p, q] ∧ (PT P N t p.cells ∧ p.one = !isAggT P t) ∧ (PT P N u q.cells ∧ q.one = !isAggT P u) := by
  obtain ⟨h1, h2⟩ := h
  match pl, h1 with
  | [p, q], _ => exact ⟨p, q, rfl, h2 0 _ _ rfl rfl, h2 1 _ _ rfl rfl⟩
theorem PA3 {N : Nat} {t u v : TypeId} {pl : List PV} (h : PA P N [t, u, v] pl) : ∃ p q r, pl = [p, q, r] ∧ (PT P N t p.cells ∧ p.one = !isAggT P t) ∧ (PT P N u q.cells ∧ q.one = !isAggT P u) ∧ (PT P N v r.cells ∧ r.one = !isAggT P v) := by
  obtain ⟨h1, h2⟩ := h
  match pl, h1 with
  | [p, q, r], _ => exact ⟨p, q, r, rfl, h2 0 _ _ rfl rfl, h2 1 _ _ rfl rfl, h2 2 _ _ rfl rfl⟩
end
end Go.Ck

-- type facts, printed by mkfacts.py
set_option linter.unusedVariables false
namespace Go.Ck
open Go.Proofs
theorem tk_1 : tk Tryd.prog 1 = .fn := by kernel_rfl
theorem tk_2 : tk Tryd.prog 2 = .int .i64 := by kernel_rfl
theorem tsh_2 : tsh Tryd.prog 2 = some (1, false) := by kernel_rfl
theorem co_2 : Program.cellsOf Tryd.prog 2 = 1 := by kernel_rfl
theorem zcs_2 : zcs Tryd.prog 2 = some [.pv (.int .i64 0)] := by kernel_rfl
theorem ze_2 : zeroElem Tryd.prog 2 = some (.int .i64 0) := by kernel_rfl
theorem zok_2 : zok Tryd.prog 2 = true := by kernel_rfl
theorem tk_3 : tk Tryd.prog 3 = .int .i64 := by kernel_rfl
theorem tsh_3 : tsh Tryd.prog 3 = some (1, false) := by kernel_rfl
theorem co_3 : Program.cellsOf Tryd.prog 3 = 1 := by kernel_rfl
theorem zcs_3 : zcs Tryd.prog 3 = some [.pv (.int .i64 0)] := by kernel_rfl
theorem ze_3 : zeroElem Tryd.prog 3 = some (.int .i64 0) := by kernel_rfl
theorem zok_3 : zok Tryd.prog 3 = true := by kernel_rfl
theorem tk_4 : tk Tryd.prog 4 = .bool := by kernel_rfl
theorem tsh_4 : tsh Tryd.prog 4 = some (1, false) := by kernel_rfl
theorem co_4 : Program.cellsOf Tryd.prog 4 = 1 := by kernel_rfl
theorem zcs_4 : zcs Tryd.prog 4 = some [.pv (.bool false)] := by kernel_rfl
theorem ze_4 : zeroElem Tryd.prog 4 = some (.bool false) := by kernel_rfl
theorem zok_4 : zok Tryd.prog 4 = true := by kernel_rfl
theorem tk_5 : tk Tryd.prog 5 = .int .u8 := by kernel_rfl
theorem tsh_5 : tsh Tryd.prog 5 = some (1, false) := by kernel_rfl
theorem co_5 : Program.cellsOf Tryd.prog 5 = 1 := by kernel_rfl
theorem zcs_5 : zcs Tryd.prog 5 = some [.pv (.int .u8 0)] := by kernel_rfl
theorem ze_5 : zeroElem Tryd.prog 5 = some (.int .u8 0) := by kernel_rfl
theorem zok_5 : zok Tryd.prog 5 = true := by kernel_rfl
theorem tk_6 : tk Tryd.prog 6 = .int .u8 := by kernel_rfl
theorem tsh_6 : tsh Tryd.prog 6 = some (1, false) := by kernel_rfl
theorem co_6 : Program.cellsOf Tryd.prog 6 = 1 := by kernel_rfl
theorem zcs_6 : zcs Tryd.prog 6 = some [.pv (.int .u8 0)] := by kernel_rfl
theorem ze_6 : zeroElem Tryd.prog 6 = some (.int .u8 0) := by kernel_rfl
theorem zok_6 : zok Tryd.prog 6 = true := by kernel_rfl
theorem tk_7 : tk Tryd.prog 7 = .st [(0, 1, false), (1, 1, false), (2, 1, false), (3, 1, false)] := by kernel_rfl
theorem tsh_7 : tsh Tryd.prog 7 = some (4, true) := by kernel_rfl
theorem co_7 : Program.cellsOf Tryd.prog 7 = 4 := by kernel_rfl
theorem zcs_7 : zcs Tryd.prog 7 = some [.pv (.int .i64 0), .pv (.int .i64 0), .pv (.bool false), .pv (.int .u8 0)] := by kernel_rfl
theorem ze_7 : zeroElem Tryd.prog 7 = some (.agg [(.int .i64 0), (.int .i64 0), (.bool false), (.int .u8 0)]) := by kernel_rfl
theorem zok_7 : zok Tryd.prog 7 = true := by kernel_rfl
theorem tk_8 : tk Tryd.prog 8 = .st [(0, 1, false), (1, 1, false), (2, 1, false), (3, 1, false)] := by kernel_rfl
theorem tsh_8 : tsh Tryd.prog 8 = some (4, true) := by kernel_rfl
theorem co_8 : Program.cellsOf Tryd.prog 8 = 4 := by kernel_rfl
theorem zcs_8 : zcs Tryd.prog 8 = some [.pv (.int .i64 0), .pv (.int .i64 0), .pv (.bool false), .pv (.int .u8 0)] := by kernel_rfl
theorem ze_8 : zeroElem Tryd.prog 8 = some (.agg [(.int .i64 0), (.int .i64 0), (.bool false), (.int .u8 0)]) := by kernel_rfl
theorem zok_8 : zok Tryd.prog 8 = true := by kernel_rfl
theorem tk_9 : tk Tryd.prog 9 = .str := by kernel_rfl
theorem tsh_9 : tsh Tryd.prog 9 = some (1, false) := by kernel_rfl
theorem co_9 : Program.cellsOf Tryd.prog 9 = 1 := by kernel_rfl
theorem zcs_9 : zcs Tryd.prog 9 = some [.pv (.str [])] := by kernel_rfl
theorem ze_9 : zeroElem Tryd.prog 9 = some (.str []) := by kernel_rfl
theorem zok_9 : zok Tryd.prog 9 = true := by kernel_rfl
theorem tk_10 : tk Tryd.prog 10 = .str := by kernel_rfl
theorem tsh_10 : tsh Tryd.prog 10 = some (1, false) := by kernel_rfl
theorem co_10 : Program.cellsOf Tryd.prog 10 = 1 := by kernel_rfl
theorem zcs_10 : zcs Tryd.prog 10 = some [.pv (.str [])] := by kernel_rfl
theorem ze_10 : zeroElem Tryd.prog 10 = some (.str []) := by kernel_rfl
theorem zok_10 : zok Tryd.prog 10 = true := by kernel_rfl
theorem tk_11 : tk Tryd.prog 11 = .str := by kernel_rfl
theorem tsh_11 : tsh Tryd.prog 11 = some (1, false) := by kernel_rfl
theorem co_11 : Program.cellsOf Tryd.prog 11 = 1 := by kernel_rfl
theorem zcs_11 : zcs Tryd.prog 11 = some [.pv (.str [])] := by kernel_rfl
theorem ze_11 : zeroElem Tryd.prog 11 = some (.str []) := by kernel_rfl
theorem zok_11 : zok Tryd.prog 11 = true := by kernel_rfl
theorem tk_12 : tk Tryd.prog 12 = .int .u64 := by kernel_rfl
theorem tsh_12 : tsh Tryd.prog 12 = some (1, false) := by kernel_rfl
theorem co_12 : Program.cellsOf Tryd.prog 12 = 1 := by kernel_rfl
theorem zcs_12 : zcs Tryd.prog 12 = some [.pv (.int .u64 0)] := by kernel_rfl
theorem ze_12 : zeroElem Tryd.prog 12 = some (.int .u64 0) := by kernel_rfl
theorem zok_12 : zok Tryd.prog 12 = true := by kernel_rfl
theorem tk_13 : tk Tryd.prog 13 = .st [(0, 1, false), (1, 1, false)] := by kernel_rfl
theorem tsh_13 : tsh Tryd.prog 13 = some (2, true) := by kernel_rfl
theorem co_13 : Program.cellsOf Tryd.prog 13 = 2 := by kernel_rfl
theorem zcs_13 : zcs Tryd.prog 13 = some [.pv (.str []), .pv (.int .u64 0)] := by kernel_rfl
theorem ze_13 : zeroElem Tryd.prog 13 = some (.agg [(.str []), (.int .u64 0)]) := by kernel_rfl
theorem zok_13 : zok Tryd.prog 13 = true := by kernel_rfl
theorem tk_14 : tk Tryd.prog 14 = .st [(0, 1, false), (1, 1, false)] := by kernel_rfl
theorem tsh_14 : tsh Tryd.prog 14 = some (2, true) := by kernel_rfl
theorem co_14 : Program.cellsOf Tryd.prog 14 = 2 := by kernel_rfl
theorem zcs_14 : zcs Tryd.prog 14 = some [.pv (.str []), .pv (.int .u64 0)] := by kernel_rfl
theorem ze_14 : zeroElem Tryd.prog 14 = some (.agg [(.str []), (.int .u64 0)]) := by kernel_rfl
theorem zok_14 : zok Tryd.prog 14 = true := by kernel_rfl
theorem tk_15 : tk Tryd.prog 15 = .ptr 154 := by kernel_rfl
theorem tsh_15 : tsh Tryd.prog 15 = some (1, false) := by kernel_rfl
theorem co_15 : Program.cellsOf Tryd.prog 15 = 1 := by kernel_rfl
theorem zcs_15 : zcs Tryd.prog 15 = some [.pv .nilp] := by kernel_rfl
theorem ze_15 : zeroElem Tryd.prog 15 = some .nilp := by kernel_rfl
theorem zok_15 : zok Tryd.prog 15 = true := by kernel_rfl
theorem tk_16 : tk Tryd.prog 16 = .ptr 157 := by kernel_rfl
theorem tsh_16 : tsh Tryd.prog 16 = some (1, false) := by kernel_rfl
theorem co_16 : Program.cellsOf Tryd.prog 16 = 1 := by kernel_rfl
theorem zcs_16 : zcs Tryd.prog 16 = some [.pv .nilp] := by kernel_rfl
theorem ze_16 : zeroElem Tryd.prog 16 = some .nilp := by kernel_rfl
theorem zok_16 : zok Tryd.prog 16 = true := by kernel_rfl
theorem tk_17 : tk Tryd.prog 17 = .ptr 166 := by kernel_rfl
theorem tsh_17 : tsh Tryd.prog 17 = some (1, false) := by kernel_rfl
theorem co_17 : Program.cellsOf Tryd.prog 17 = 1 := by kernel_rfl
theorem zcs_17 : zcs Tryd.prog 17 = some [.pv .nilp] := by kernel_rfl
theorem ze_17 : zeroElem Tryd.prog 17 = some .nilp := by kernel_rfl
theorem zok_17 : zok Tryd.prog 17 = true := by kernel_rfl
theorem tk_18 : tk Tryd.prog 18 = .st [(0, 1, false)] := by kernel_rfl
theorem tsh_18 : tsh Tryd.prog 18 = some (1, true) := by kernel_rfl
theorem co_18 : Program.cellsOf Tryd.prog 18 = 1 := by kernel_rfl
theorem zcs_18 : zcs Tryd.prog 18 = some [.pv .nilp] := by kernel_rfl
theorem ze_18 : zeroElem Tryd.prog 18 = some (.agg [.nilp]) := by kernel_rfl
theorem zok_18 : zok Tryd.prog 18 = true := by kernel_rfl
theorem tk_19 : tk Tryd.prog 19 = .st [(0, 1, false)] := by kernel_rfl
theorem tsh_19 : tsh Tryd.prog 19 = some (1, true) := by kernel_rfl
theorem co_19 : Program.cellsOf Tryd.prog 19 = 1 := by kernel_rfl
theorem zcs_19 : zcs Tryd.prog 19 = some [.pv .nilp] := by kernel_rfl
theorem ze_19 : zeroElem Tryd.prog 19 = some (.agg [.nilp]) := by kernel_rfl
theorem zok_19 : zok Tryd.prog 19 = true := by kernel_rfl
theorem tk_20 : tk Tryd.prog 20 = .iface := by kernel_rfl
theorem tk_21 : tk Tryd.prog 21 = .int .i32 := by kernel_rfl
theorem tsh_21 : tsh Tryd.prog 21 = some (1, false) := by kernel_rfl
theorem co_21 : Program.cellsOf Tryd.prog 21 = 1 := by kernel_rfl
theorem zcs_21 : zcs Tryd.prog 21 = some [.pv (.int .i32 0)] := by kernel_rfl
theorem ze_21 : zeroElem Tryd.prog 21 = some (.int .i32 0) := by kernel_rfl
theorem zok_21 : zok Tryd.prog 21 = true := by kernel_rfl
theorem tk_22 : tk Tryd.prog 22 = .sl 38 1 8 false := by kernel_rfl
theorem tsh_22 : tsh Tryd.prog 22 = some (1, false) := by kernel_rfl
theorem co_22 : Program.cellsOf Tryd.prog 22 = 1 := by kernel_rfl
theorem zcs_22 : zcs Tryd.prog 22 = some [.nils] := by kernel_rfl
theorem ze_22 : zeroElem Tryd.prog 22 = some (.sl 1 []) := by kernel_rfl
theorem zok_22 : zok Tryd.prog 22 = true := by kernel_rfl
theorem tk_23 : tk Tryd.prog 23 = .fn := by kernel_rfl
theorem tk_24 : tk Tryd.prog 24 = .sl 5 1 1 false := by kernel_rfl
theorem tsh_24 : tsh Tryd.prog 24 = some (1, false) := by kernel_rfl
theorem co_24 : Program.cellsOf Tryd.prog 24 = 1 := by kernel_rfl
theorem zcs_24 : zcs Tryd.prog 24 = some [.nils] := by kernel_rfl
theorem ze_24 : zeroElem Tryd.prog 24 = some (.sl 1 []) := by kernel_rfl
theorem zok_24 : zok Tryd.prog 24 = true := by kernel_rfl
theorem tk_25 : tk Tryd.prog 25 = .int .i64 := by kernel_rfl
theorem tsh_25 : tsh Tryd.prog 25 = some (1, false) := by kernel_rfl
theorem co_25 : Program.cellsOf Tryd.prog 25 = 1 := by kernel_rfl
theorem zcs_25 : zcs Tryd.prog 25 = some [.pv (.int .i64 0)] := by kernel_rfl
theorem ze_25 : zeroElem Tryd.prog 25 = some (.int .i64 0) := by kernel_rfl
theorem zok_25 : zok Tryd.prog 25 = true := by kernel_rfl
theorem tk_27 : tk Tryd.prog 27 = .fn := by kernel_rfl
theorem tk_28 : tk Tryd.prog 28 = .fn := by kernel_rfl
theorem tk_29 : tk Tryd.prog 29 = .fn := by kernel_rfl
theorem tk_30 : tk Tryd.prog 30 = .fn := by kernel_rfl
theorem tk_31 : tk Tryd.prog 31 = .fn := by kernel_rfl
theorem tk_33 : tk Tryd.prog 33 = .fn := by kernel_rfl
theorem tk_34 : tk Tryd.prog 34 = .fn := by kernel_rfl
theorem tk_35 : tk Tryd.prog 35 = .fn := by kernel_rfl
theorem tk_36 : tk Tryd.prog 36 = .fn := by kernel_rfl
theorem tk_37 : tk Tryd.prog 37 = .fn := by kernel_rfl
theorem tk_38 : tk Tryd.prog 38 = .int .u64 := by kernel_rfl
theorem tsh_38 : tsh Tryd.prog 38 = some (1, false) := by kernel_rfl
theorem co_38 : Program.cellsOf Tryd.prog 38 = 1 := by kernel_rfl
theorem zcs_38 : zcs Tryd.prog 38 = some [.pv (.int .u64 0)] := by kernel_rfl
theorem ze_38 : zeroElem Tryd.prog 38 = some (.int .u64 0) := by kernel_rfl
theorem zok_38 : zok Tryd.prog 38 = true := by kernel_rfl
theorem tk_39 : tk Tryd.prog 39 = .fn := by kernel_rfl
theorem tk_40 : tk Tryd.prog 40 = .sl 55 2 16 true := by kernel_rfl
theorem tsh_40 : tsh Tryd.prog 40 = some (1, false) := by kernel_rfl
theorem co_40 : Program.cellsOf Tryd.prog 40 = 1 := by kernel_rfl
theorem zcs_40 : zcs Tryd.prog 40 = some [.nils] := by kernel_rfl
theorem ze_40 : zeroElem Tryd.prog 40 = some (.sl 1 []) := by kernel_rfl
theorem zok_40 : zok Tryd.prog 40 = true := by kernel_rfl
theorem tk_41 : tk Tryd.prog 41 = .st [(0, 1, false), (1, 1, false)] := by kernel_rfl
theorem tsh_41 : tsh Tryd.prog 41 = some (2, true) := by kernel_rfl
theorem co_41 : Program.cellsOf Tryd.prog 41 = 2 := by kernel_rfl
theorem zcs_41 : zcs Tryd.prog 41 = some [.pv (.str []), .nils] := by kernel_rfl
theorem ze_41 : zeroElem Tryd.prog 41 = some (.agg [(.str []), (.sl 1 [])]) := by kernel_rfl
theorem zok_41 : zok Tryd.prog 41 = true := by kernel_rfl
theorem tk_42 : tk Tryd.prog 42 = .st [(0, 1, false), (1, 1, false)] := by kernel_rfl
theorem tsh_42 : tsh Tryd.prog 42 = some (2, true) := by kernel_rfl
theorem co_42 : Program.cellsOf Tryd.prog 42 = 2 := by kernel_rfl
theorem zcs_42 : zcs Tryd.prog 42 = some [.pv (.str []), .nils] := by kernel_rfl
theorem ze_42 : zeroElem Tryd.prog 42 = some (.agg [(.str []), (.sl 1 [])]) := by kernel_rfl
theorem zok_42 : zok Tryd.prog 42 = true := by kernel_rfl
theorem tk_43 : tk Tryd.prog 43 = .fn := by kernel_rfl
theorem tk_45 : tk Tryd.prog 45 = .fn := by kernel_rfl
theorem tk_46 : tk Tryd.prog 46 = .fn := by kernel_rfl
theorem tk_47 : tk Tryd.prog 47 = .fn := by kernel_rfl
theorem tk_49 : tk Tryd.prog 49 = .fn := by kernel_rfl
theorem tk_50 : tk Tryd.prog 50 = .fn := by kernel_rfl
theorem tk_51 : tk Tryd.prog 51 = .fn := by kernel_rfl
theorem tk_52 : tk Tryd.prog 52 = .fn := by kernel_rfl
theorem tk_53 : tk Tryd.prog 53 = .fn := by kernel_rfl
theorem tk_54 : tk Tryd.prog 54 = .st [(0, 1, false), (1, 1, false)] := by kernel_rfl
theorem tsh_54 : tsh Tryd.prog 54 = some (2, true) := by kernel_rfl
theorem co_54 : Program.cellsOf Tryd.prog 54 = 2 := by kernel_rfl
theorem zcs_54 : zcs Tryd.prog 54 = some [.pv (.int .i64 0), .pv (.int .u64 0)] := by kernel_rfl
theorem ze_54 : zeroElem Tryd.prog 54 = some (.agg [(.int .i64 0), (.int .u64 0)]) := by kernel_rfl
theorem zok_54 : zok Tryd.prog 54 = true := by kernel_rfl
theorem tk_55 : tk Tryd.prog 55 = .st [(0, 1, false), (1, 1, false)] := by kernel_rfl
theorem tsh_55 : tsh Tryd.prog 55 = some (2, true) := by kernel_rfl
theorem co_55 : Program.cellsOf Tryd.prog 55 = 2 := by kernel_rfl
theorem zcs_55 : zcs Tryd.prog 55 = some [.pv (.int .i64 0), .pv (.int .u64 0)] := by kernel_rfl
theorem ze_55 : zeroElem Tryd.prog 55 = some (.agg [(.int .i64 0), (.int .u64 0)]) := by kernel_rfl
theorem zok_55 : zok Tryd.prog 55 = true := by kernel_rfl
theorem tk_56 : tk Tryd.prog 56 = .fn := by kernel_rfl
theorem tk_57 : tk Tryd.prog 57 = .fn := by kernel_rfl
theorem tk_58 : tk Tryd.prog 58 = .fn := by kernel_rfl
theorem tk_59 : tk Tryd.prog 59 = .fn := by kernel_rfl
theorem tsh_59 : tsh Tryd.prog 59 = some (1, false) := by kernel_rfl
theorem co_59 : Program.cellsOf Tryd.prog 59 = 1 := by kernel_rfl
theorem zcs_59 : zcs Tryd.prog 59 = some [.pv .nilf] := by kernel_rfl
theorem ze_59 : zeroElem Tryd.prog 59 = some .nilf := by kernel_rfl
theorem zok_59 : zok Tryd.prog 59 = true := by kernel_rfl
theorem tk_60 : tk Tryd.prog 60 = .fn := by kernel_rfl
theorem tk_61 : tk Tryd.prog 61 = .ptr 107 := by kernel_rfl
theorem tsh_61 : tsh Tryd.prog 61 = some (1, false) := by kernel_rfl
theorem co_61 : Program.cellsOf Tryd.prog 61 = 1 := by kernel_rfl
theorem zcs_61 : zcs Tryd.prog 61 = some [.pv .nilp] := by kernel_rfl
theorem ze_61 : zeroElem Tryd.prog 61 = some .nilp := by kernel_rfl
theorem zok_61 : zok Tryd.prog 61 = true := by kernel_rfl
theorem tk_62 : tk Tryd.prog 62 = .fn := by kernel_rfl
theorem tk_64 : tk Tryd.prog 64 = .fn := by kernel_rfl
theorem tk_65 : tk Tryd.prog 65 = .fn := by kernel_rfl
theorem tk_66 : tk Tryd.prog 66 = .fn := by kernel_rfl
theorem tk_67 : tk Tryd.prog 67 = .sl 3 1 8 false := by kernel_rfl
theorem tsh_67 : tsh Tryd.prog 67 = some (1, false) := by kernel_rfl
theorem co_67 : Program.cellsOf Tryd.prog 67 = 1 := by kernel_rfl
theorem zcs_67 : zcs Tryd.prog 67 = some [.nils] := by kernel_rfl
theorem ze_67 : zeroElem Tryd.prog 67 = some (.sl 1 []) := by kernel_rfl
theorem zok_67 : zok Tryd.prog 67 = true := by kernel_rfl
theorem tk_68 : tk Tryd.prog 68 = .fn := by kernel_rfl
theorem tk_69 : tk Tryd.prog 69 = .fn := by kernel_rfl
theorem tk_70 : tk Tryd.prog 70 = .fn := by kernel_rfl
theorem tk_71 : tk Tryd.prog 71 = .st [(0, 1, false)] := by kernel_rfl
theorem tsh_71 : tsh Tryd.prog 71 = some (1, true) := by kernel_rfl
theorem co_71 : Program.cellsOf Tryd.prog 71 = 1 := by kernel_rfl
theorem zcs_71 : zcs Tryd.prog 71 = some [.pv (.int .i64 0)] := by kernel_rfl
theorem ze_71 : zeroElem Tryd.prog 71 = some (.agg [(.int .i64 0)]) := by kernel_rfl
theorem zok_71 : zok Tryd.prog 71 = true := by kernel_rfl
theorem tk_72 : tk Tryd.prog 72 = .st [(0, 1, false)] := by kernel_rfl
theorem tsh_72 : tsh Tryd.prog 72 = some (1, true) := by kernel_rfl
theorem co_72 : Program.cellsOf Tryd.prog 72 = 1 := by kernel_rfl
theorem zcs_72 : zcs Tryd.prog 72 = some [.pv (.int .i64 0)] := by kernel_rfl
theorem ze_72 : zeroElem Tryd.prog 72 = some (.agg [(.int .i64 0)]) := by kernel_rfl
theorem zok_72 : zok Tryd.prog 72 = true := by kernel_rfl
theorem tk_73 : tk Tryd.prog 73 = .fn := by kernel_rfl
theorem tk_74 : tk Tryd.prog 74 = .fn := by kernel_rfl
theorem tk_76 : tk Tryd.prog 76 = .fn := by kernel_rfl
theorem tk_77 : tk Tryd.prog 77 = .fn := by kernel_rfl
theorem tk_79 : tk Tryd.prog 79 = .fn := by kernel_rfl
theorem tk_81 : tk Tryd.prog 81 = .fn := by kernel_rfl
theorem tk_83 : tk Tryd.prog 83 = .fn := by kernel_rfl
theorem tk_84 : tk Tryd.prog 84 = .map 38 3 := by kernel_rfl
theorem tsh_84 : tsh Tryd.prog 84 = some (1, false) := by kernel_rfl
theorem co_84 : Program.cellsOf Tryd.prog 84 = 1 := by kernel_rfl
theorem tk_86 : tk Tryd.prog 86 = .ptr 88 := by kernel_rfl
theorem tsh_86 : tsh Tryd.prog 86 = some (1, false) := by kernel_rfl
theorem co_86 : Program.cellsOf Tryd.prog 86 = 1 := by kernel_rfl
theorem zcs_86 : zcs Tryd.prog 86 = some [.pv .nilp] := by kernel_rfl
theorem ze_86 : zeroElem Tryd.prog 86 = some .nilp := by kernel_rfl
theorem zok_86 : zok Tryd.prog 86 = true := by kernel_rfl
theorem tk_87 : tk Tryd.prog 87 = .st [(0, 1, false), (1, 1, false)] := by kernel_rfl
theorem tsh_87 : tsh Tryd.prog 87 = some (2, true) := by kernel_rfl
theorem co_87 : Program.cellsOf Tryd.prog 87 = 2 := by kernel_rfl
theorem zcs_87 : zcs Tryd.prog 87 = some [.nils, .pv (.int .i64 0)] := by kernel_rfl
theorem ze_87 : zeroElem Tryd.prog 87 = some (.agg [(.sl 1 []), (.int .i64 0)]) := by kernel_rfl
theorem zok_87 : zok Tryd.prog 87 = true := by kernel_rfl
theorem tk_88 : tk Tryd.prog 88 = .st [(0, 1, false), (1, 1, false)] := by kernel_rfl
theorem tsh_88 : tsh Tryd.prog 88 = some (2, true) := by kernel_rfl
theorem co_88 : Program.cellsOf Tryd.prog 88 = 2 := by kernel_rfl
theorem zcs_88 : zcs Tryd.prog 88 = some [.nils, .pv (.int .i64 0)] := by kernel_rfl
theorem ze_88 : zeroElem Tryd.prog 88 = some (.agg [(.sl 1 []), (.int .i64 0)]) := by kernel_rfl
theorem zok_88 : zok Tryd.prog 88 = true := by kernel_rfl
theorem tk_89 : tk Tryd.prog 89 = .fn := by kernel_rfl
theorem tk_90 : tk Tryd.prog 90 = .fn := by kernel_rfl
theorem tk_91 : tk Tryd.prog 91 = .st [(0, 1, false), (1, 1, false)] := by kernel_rfl
theorem tsh_91 : tsh Tryd.prog 91 = some (2, true) := by kernel_rfl
theorem co_91 : Program.cellsOf Tryd.prog 91 = 2 := by kernel_rfl
theorem zcs_91 : zcs Tryd.prog 91 = some [.pv (.int .i64 0), .pv (.int .i64 0)] := by kernel_rfl
theorem ze_91 : zeroElem Tryd.prog 91 = some (.agg [(.int .i64 0), (.int .i64 0)]) := by kernel_rfl
theorem zok_91 : zok Tryd.prog 91 = true := by kernel_rfl
theorem tk_92 : tk Tryd.prog 92 = .st [(0, 1, false), (1, 1, false)] := by kernel_rfl
theorem tsh_92 : tsh Tryd.prog 92 = some (2, true) := by kernel_rfl
theorem co_92 : Program.cellsOf Tryd.prog 92 = 2 := by kernel_rfl
theorem zcs_92 : zcs Tryd.prog 92 = some [.pv (.int .i64 0), .pv (.int .i64 0)] := by kernel_rfl
theorem ze_92 : zeroElem Tryd.prog 92 = some (.agg [(.int .i64 0), (.int .i64 0)]) := by kernel_rfl
theorem zok_92 : zok Tryd.prog 92 = true := by kernel_rfl
theorem tk_93 : tk Tryd.prog 93 = .fn := by kernel_rfl
theorem tk_94 : tk Tryd.prog 94 = .fn := by kernel_rfl
theorem tk_95 : tk Tryd.prog 95 = .fn := by kernel_rfl
theorem tk_96 : tk Tryd.prog 96 = .fn := by kernel_rfl
theorem tk_97 : tk Tryd.prog 97 = .int .u64 := by kernel_rfl
theorem tsh_97 : tsh Tryd.prog 97 = some (1, false) := by kernel_rfl
theorem co_97 : Program.cellsOf Tryd.prog 97 = 1 := by kernel_rfl
theorem zcs_97 : zcs Tryd.prog 97 = some [.pv (.int .u64 0)] := by kernel_rfl
theorem ze_97 : zeroElem Tryd.prog 97 = some (.int .u64 0) := by kernel_rfl
theorem zok_97 : zok Tryd.prog 97 = true := by kernel_rfl
theorem tk_98 : tk Tryd.prog 98 = .fn := by kernel_rfl
theorem tk_99 : tk Tryd.prog 99 = .fn := by kernel_rfl
theorem tk_100 : tk Tryd.prog 100 = .fn := by kernel_rfl
theorem tk_101 : tk Tryd.prog 101 = .fn := by kernel_rfl
theorem tk_102 : tk Tryd.prog 102 = .fn := by kernel_rfl
theorem tk_103 : tk Tryd.prog 103 = .fn := by kernel_rfl
theorem tk_104 : tk Tryd.prog 104 = .st [(0, 1, false)] := by kernel_rfl
theorem tsh_104 : tsh Tryd.prog 104 = some (1, true) := by kernel_rfl
theorem co_104 : Program.cellsOf Tryd.prog 104 = 1 := by kernel_rfl
theorem zcs_104 : zcs Tryd.prog 104 = some [.nils] := by kernel_rfl
theorem ze_104 : zeroElem Tryd.prog 104 = some (.agg [(.sl 1 [])]) := by kernel_rfl
theorem zok_104 : zok Tryd.prog 104 = true := by kernel_rfl
theorem tk_105 : tk Tryd.prog 105 = .st [(0, 1, false)] := by kernel_rfl
theorem tsh_105 : tsh Tryd.prog 105 = some (1, true) := by kernel_rfl
theorem co_105 : Program.cellsOf Tryd.prog 105 = 1 := by kernel_rfl
theorem zcs_105 : zcs Tryd.prog 105 = some [.nils] := by kernel_rfl
theorem ze_105 : zeroElem Tryd.prog 105 = some (.agg [(.sl 1 [])]) := by kernel_rfl
theorem zok_105 : zok Tryd.prog 105 = true := by kernel_rfl
theorem tk_106 : tk Tryd.prog 106 = .st [(0, 1, true)] := by kernel_rfl
theorem tsh_106 : tsh Tryd.prog 106 = some (1, true) := by kernel_rfl
theorem co_106 : Program.cellsOf Tryd.prog 106 = 1 := by kernel_rfl
theorem zcs_106 : zcs Tryd.prog 106 = some [.nils] := by kernel_rfl
theorem ze_106 : zeroElem Tryd.prog 106 = some (.agg [(.sl 1 [])]) := by kernel_rfl
theorem zok_106 : zok Tryd.prog 106 = true := by kernel_rfl
theorem tk_107 : tk Tryd.prog 107 = .st [(0, 1, true)] := by kernel_rfl
theorem tsh_107 : tsh Tryd.prog 107 = some (1, true) := by kernel_rfl
theorem co_107 : Program.cellsOf Tryd.prog 107 = 1 := by kernel_rfl
theorem zcs_107 : zcs Tryd.prog 107 = some [.nils] := by kernel_rfl
theorem ze_107 : zeroElem Tryd.prog 107 = some (.agg [(.sl 1 [])]) := by kernel_rfl
theorem zok_107 : zok Tryd.prog 107 = true := by kernel_rfl
theorem tk_108 : tk Tryd.prog 108 = .fn := by kernel_rfl
theorem tk_109 : tk Tryd.prog 109 = .fn := by kernel_rfl
theorem tk_110 : tk Tryd.prog 110 = .fn := by kernel_rfl
theorem tk_111 : tk Tryd.prog 111 = .fn := by kernel_rfl
theorem tk_112 : tk Tryd.prog 112 = .fn := by kernel_rfl
theorem tk_114 : tk Tryd.prog 114 = .fn := by kernel_rfl
theorem tk_115 : tk Tryd.prog 115 = .fn := by kernel_rfl
theorem tk_116 : tk Tryd.prog 116 = .fn := by kernel_rfl
theorem tk_117 : tk Tryd.prog 117 = .fn := by kernel_rfl
theorem tk_118 : tk Tryd.prog 118 = .fn := by kernel_rfl
theorem tk_119 : tk Tryd.prog 119 = .fn := by kernel_rfl
theorem tk_120 : tk Tryd.prog 120 = .fn := by kernel_rfl
theorem tk_121 : tk Tryd.prog 121 = .ptr 136 := by kernel_rfl
theorem tsh_121 : tsh Tryd.prog 121 = some (1, false) := by kernel_rfl
theorem co_121 : Program.cellsOf Tryd.prog 121 = 1 := by kernel_rfl
theorem zcs_121 : zcs Tryd.prog 121 = some [.pv .nilp] := by kernel_rfl
theorem ze_121 : zeroElem Tryd.prog 121 = some .nilp := by kernel_rfl
theorem zok_121 : zok Tryd.prog 121 = true := by kernel_rfl
theorem tk_122 : tk Tryd.prog 122 = .fn := by kernel_rfl
theorem tk_123 : tk Tryd.prog 123 = .fn := by kernel_rfl
theorem tk_124 : tk Tryd.prog 124 = .ptr 92 := by kernel_rfl
theorem tsh_124 : tsh Tryd.prog 124 = some (1, false) := by kernel_rfl
theorem co_124 : Program.cellsOf Tryd.prog 124 = 1 := by kernel_rfl
theorem zcs_124 : zcs Tryd.prog 124 = some [.pv .nilp] := by kernel_rfl
theorem ze_124 : zeroElem Tryd.prog 124 = some .nilp := by kernel_rfl
theorem zok_124 : zok Tryd.prog 124 = true := by kernel_rfl
theorem tk_125 : tk Tryd.prog 125 = .fn := by kernel_rfl
theorem tk_127 : tk Tryd.prog 127 = .fn := by kernel_rfl
theorem tk_128 : tk Tryd.prog 128 = .ptr 130 := by kernel_rfl
theorem tsh_128 : tsh Tryd.prog 128 = some (1, false) := by kernel_rfl
theorem co_128 : Program.cellsOf Tryd.prog 128 = 1 := by kernel_rfl
theorem zcs_128 : zcs Tryd.prog 128 = some [.pv .nilp] := by kernel_rfl
theorem ze_128 : zeroElem Tryd.prog 128 = some .nilp := by kernel_rfl
theorem zok_128 : zok Tryd.prog 128 = true := by kernel_rfl
theorem tk_129 : tk Tryd.prog 129 = .st [(0, 1, false), (1, 1, false)] := by kernel_rfl
theorem tsh_129 : tsh Tryd.prog 129 = some (2, true) := by kernel_rfl
theorem co_129 : Program.cellsOf Tryd.prog 129 = 2 := by kernel_rfl
theorem zcs_129 : zcs Tryd.prog 129 = some [.nils, .pv (.int .i64 0)] := by kernel_rfl
theorem ze_129 : zeroElem Tryd.prog 129 = some (.agg [(.sl 1 []), (.int .i64 0)]) := by kernel_rfl
theorem zok_129 : zok Tryd.prog 129 = true := by kernel_rfl
theorem tk_130 : tk Tryd.prog 130 = .st [(0, 1, false), (1, 1, false)] := by kernel_rfl
theorem tsh_130 : tsh Tryd.prog 130 = some (2, true) := by kernel_rfl
theorem co_130 : Program.cellsOf Tryd.prog 130 = 2 := by kernel_rfl
theorem zcs_130 : zcs Tryd.prog 130 = some [.nils, .pv (.int .i64 0)] := by kernel_rfl
theorem ze_130 : zeroElem Tryd.prog 130 = some (.agg [(.sl 1 []), (.int .i64 0)]) := by kernel_rfl
theorem zok_130 : zok Tryd.prog 130 = true := by kernel_rfl
theorem tk_131 : tk Tryd.prog 131 = .fn := by kernel_rfl
theorem tk_132 : tk Tryd.prog 132 = .ptr 105 := by kernel_rfl
theorem tsh_132 : tsh Tryd.prog 132 = some (1, false) := by kernel_rfl
theorem co_132 : Program.cellsOf Tryd.prog 132 = 1 := by kernel_rfl
theorem zcs_132 : zcs Tryd.prog 132 = some [.pv .nilp] := by kernel_rfl
theorem ze_132 : zeroElem Tryd.prog 132 = some .nilp := by kernel_rfl
theorem zok_132 : zok Tryd.prog 132 = true := by kernel_rfl
theorem tk_133 : tk Tryd.prog 133 = .fn := by kernel_rfl
theorem tk_134 : tk Tryd.prog 134 = .arr 64 5 1 false := by kernel_rfl
theorem tsh_134 : tsh Tryd.prog 134 = some (64, true) := by kernel_rfl
theorem co_134 : Program.cellsOf Tryd.prog 134 = 64 := by kernel_rfl
theorem zcs_134 : zcs Tryd.prog 134 = some [.pv (.int .u8 0), .pv (.int .u8 0), .pv (.int .u8 0), .pv (.int .u8 0), .pv (.int .u8 0), .pv (.int .u8 0), .pv (.int .u8 0), .pv (.int .u8 0), .pv (.int .u8 0), .pv (.int .u8 0), .pv (.int .u8 0), .pv (.int .u8 0), .pv (.int .u8 0), .pv (.int .u8 0), .pv (.int .u8 0), .pv (.int .u8 0), .pv (.int .u8 0), .pv (.int .u8 0), .pv (.int .u8 0), .pv (.int .u8 0), .pv (.int .u8 0), .pv (.int .u8 0), .pv (.int .u8 0), .pv (.int .u8 0), .pv (.int .u8 0), .pv (.int .u8 0), .pv (.int .u8 0), .pv (.int .u8 0), .pv (.int .u8 0), .pv (.int .u8 0), .pv (.int .u8 0), .pv (.int .u8 0), .pv (.int .u8 0), .pv (.int .u8 0), .pv (.int .u8 0), .pv (.int .u8 0), .pv (.int .u8 0), .pv (.int .u8 0), .pv (.int .u8 0), .pv (.int .u8 0), .pv (.int .u8 0), .pv (.int .u8 0), .pv (.int .u8 0), .pv (.int .u8 0), .pv (.int .u8 0), .pv (.int .u8 0), .pv (.int .u8 0), .pv (.int .u8 0), .pv (.int .u8 0), .pv (.int .u8 0), .pv (.int .u8 0), .pv (.int .u8 0), .pv (.int .u8 0), .pv (.int .u8 0), .pv (.int .u8 0), .pv (.int .u8 0), .pv (.int .u8 0), .pv (.int .u8 0), .pv (.int .u8 0), .pv (.int .u8 0), .pv (.int .u8 0), .pv (.int .u8 0), .pv (.int .u8 0), .pv (.int .u8 0)] := by kernel_rfl
theorem ze_134 : zeroElem Tryd.prog 134 = some (.agg [(.int .u8 0), (.int .u8 0), (.int .u8 0), (.int .u8 0), (.int .u8 0), (.int .u8 0), (.int .u8 0), (.int .u8 0), (.int .u8 0), (.int .u8 0), (.int .u8 0), (.int .u8 0), (.int .u8 0), (.int .u8 0), (.int .u8 0), (.int .u8 0), (.int .u8 0), (.int .u8 0), (.int .u8 0), (.int .u8 0), (.int .u8 0), (.int .u8 0), (.int .u8 0), (.int .u8 0), (.int .u8 0), (.int .u8 0), (.int .u8 0), (.int .u8 0), (.int .u8 0), (.int .u8 0), (.int .u8 0), (.int .u8 0), (.int .u8 0), (.int .u8 0), (.int .u8 0), (.int .u8 0), (.int .u8 0), (.int .u8 0), (.int .u8 0), (.int .u8 0), (.int .u8 0), (.int .u8 0), (.int .u8 0), (.int .u8 0), (.int .u8 0), (.int .u8 0), (.int .u8 0), (.int .u8 0), (.int .u8 0), (.int .u8 0), (.int .u8 0), (.int .u8 0), (.int .u8 0), (.int .u8 0), (.int .u8 0), (.int .u8 0), (.int .u8 0), (.int .u8 0), (.int .u8 0), (.int .u8 0), (.int .u8 0), (.int .u8 0), (.int .u8 0), (.int .u8 0)]) := by kernel_rfl
theorem zok_134 : zok Tryd.prog 134 = true := by kernel_rfl
theorem tk_135 : tk Tryd.prog 135 = .st [(0, 1, false), (1, 1, false)] := by kernel_rfl
theorem tsh_135 : tsh Tryd.prog 135 = some (2, true) := by kernel_rfl
theorem co_135 : Program.cellsOf Tryd.prog 135 = 2 := by kernel_rfl
theorem zcs_135 : zcs Tryd.prog 135 = some [.nils, .pv (.int .i64 0)] := by kernel_rfl
theorem ze_135 : zeroElem Tryd.prog 135 = some (.agg [(.sl 1 []), (.int .i64 0)]) := by kernel_rfl
theorem zok_135 : zok Tryd.prog 135 = true := by kernel_rfl
theorem tk_136 : tk Tryd.prog 136 = .st [(0, 1, false), (1, 1, false)] := by kernel_rfl
theorem tsh_136 : tsh Tryd.prog 136 = some (2, true) := by kernel_rfl
theorem co_136 : Program.cellsOf Tryd.prog 136 = 2 := by kernel_rfl
theorem zcs_136 : zcs Tryd.prog 136 = some [.nils, .pv (.int .i64 0)] := by kernel_rfl
theorem ze_136 : zeroElem Tryd.prog 136 = some (.agg [(.sl 1 []), (.int .i64 0)]) := by kernel_rfl
theorem zok_136 : zok Tryd.prog 136 = true := by kernel_rfl
theorem tk_137 : tk Tryd.prog 137 = .fn := by kernel_rfl
theorem tk_139 : tk Tryd.prog 139 = .fn := by kernel_rfl
theorem tk_140 : tk Tryd.prog 140 = .fn := by kernel_rfl
theorem tk_142 : tk Tryd.prog 142 = .fn := by kernel_rfl
theorem tk_143 : tk Tryd.prog 143 = .fn := by kernel_rfl
theorem tk_144 : tk Tryd.prog 144 = .fn := by kernel_rfl
theorem tk_145 : tk Tryd.prog 145 = .fn := by kernel_rfl
theorem tk_146 : tk Tryd.prog 146 = .fn := by kernel_rfl
theorem tsh_146 : tsh Tryd.prog 146 = some (1, false) := by kernel_rfl
theorem co_146 : Program.cellsOf Tryd.prog 146 = 1 := by kernel_rfl
theorem zcs_146 : zcs Tryd.prog 146 = some [.pv .nilf] := by kernel_rfl
theorem ze_146 : zeroElem Tryd.prog 146 = some .nilf := by kernel_rfl
theorem zok_146 : zok Tryd.prog 146 = true := by kernel_rfl
theorem tk_147 : tk Tryd.prog 147 = .fn := by kernel_rfl
theorem tk_148 : tk Tryd.prog 148 = .arr 2 3 1 false := by kernel_rfl
theorem tsh_148 : tsh Tryd.prog 148 = some (2, true) := by kernel_rfl
theorem co_148 : Program.cellsOf Tryd.prog 148 = 2 := by kernel_rfl
theorem zcs_148 : zcs Tryd.prog 148 = some [.pv (.int .i64 0), .pv (.int .i64 0)] := by kernel_rfl
theorem ze_148 : zeroElem Tryd.prog 148 = some (.agg [(.int .i64 0), (.int .i64 0)]) := by kernel_rfl
theorem zok_148 : zok Tryd.prog 148 = true := by kernel_rfl
theorem tk_149 : tk Tryd.prog 149 = .arr 16 148 2 true := by kernel_rfl
theorem tsh_149 : tsh Tryd.prog 149 = some (32, true) := by kernel_rfl
theorem co_149 : Program.cellsOf Tryd.prog 149 = 32 := by kernel_rfl
theorem zcs_149 : zcs Tryd.prog 149 = some [.pv (.int .i64 0), .pv (.int .i64 0), .pv (.int .i64 0), .pv (.int .i64 0), .pv (.int .i64 0), .pv (.int .i64 0), .pv (.int .i64 0), .pv (.int .i64 0), .pv (.int .i64 0), .pv (.int .i64 0), .pv (.int .i64 0), .pv (.int .i64 0), .pv (.int .i64 0), .pv (.int .i64 0), .pv (.int .i64 0), .pv (.int .i64 0), .pv (.int .i64 0), .pv (.int .i64 0), .pv (.int .i64 0), .pv (.int .i64 0), .pv (.int .i64 0), .pv (.int .i64 0), .pv (.int .i64 0), .pv (.int .i64 0), .pv (.int .i64 0), .pv (.int .i64 0), .pv (.int .i64 0), .pv (.int .i64 0), .pv (.int .i64 0), .pv (.int .i64 0), .pv (.int .i64 0), .pv (.int .i64 0)] := by kernel_rfl
theorem ze_149 : zeroElem Tryd.prog 149 = some (.agg [(.int .i64 0), (.int .i64 0), (.int .i64 0), (.int .i64 0), (.int .i64 0), (.int .i64 0), (.int .i64 0), (.int .i64 0), (.int .i64 0), (.int .i64 0), (.int .i64 0), (.int .i64 0), (.int .i64 0), (.int .i64 0), (.int .i64 0), (.int .i64 0), (.int .i64 0), (.int .i64 0), (.int .i64 0), (.int .i64 0), (.int .i64 0), (.int .i64 0), (.int .i64 0), (.int .i64 0), (.int .i64 0), (.int .i64 0), (.int .i64 0), (.int .i64 0), (.int .i64 0), (.int .i64 0), (.int .i64 0), (.int .i64 0)]) := by kernel_rfl
theorem zok_149 : zok Tryd.prog 149 = true := by kernel_rfl
theorem tk_150 : tk Tryd.prog 150 = .fn := by kernel_rfl
theorem tk_151 : tk Tryd.prog 151 = .fn := by kernel_rfl
theorem tk_152 : tk Tryd.prog 152 = .fn := by kernel_rfl
theorem tk_153 : tk Tryd.prog 153 = .st [(0, 1, false), (1, 1, false), (2, 1, false), (3, 1, false)] := by kernel_rfl
theorem tsh_153 : tsh Tryd.prog 153 = some (4, true) := by kernel_rfl
theorem co_153 : Program.cellsOf Tryd.prog 153 = 4 := by kernel_rfl
theorem zcs_153 : zcs Tryd.prog 153 = some [.pv .nilp, .pv .nilp, .pv .nilp, .pv (.str [])] := by kernel_rfl
theorem ze_153 : zeroElem Tryd.prog 153 = some (.agg [.nilp, .nilp, .nilp, (.str [])]) := by kernel_rfl
theorem zok_153 : zok Tryd.prog 153 = true := by kernel_rfl
theorem tk_154 : tk Tryd.prog 154 = .st [(0, 1, false), (1, 1, false), (2, 1, false), (3, 1, false)] := by kernel_rfl
theorem tsh_154 : tsh Tryd.prog 154 = some (4, true) := by kernel_rfl
theorem co_154 : Program.cellsOf Tryd.prog 154 = 4 := by kernel_rfl
theorem zcs_154 : zcs Tryd.prog 154 = some [.pv .nilp, .pv .nilp, .pv .nilp, .pv (.str [])] := by kernel_rfl
theorem ze_154 : zeroElem Tryd.prog 154 = some (.agg [.nilp, .nilp, .nilp, (.str [])]) := by kernel_rfl
theorem zok_154 : zok Tryd.prog 154 = true := by kernel_rfl
theorem tk_155 : tk Tryd.prog 155 = .arr 0 16 1 false := by kernel_rfl
theorem tsh_155 : tsh Tryd.prog 155 = some (0, true) := by kernel_rfl
theorem co_155 : Program.cellsOf Tryd.prog 155 = 0 := by kernel_rfl
theorem zcs_155 : zcs Tryd.prog 155 = some [] := by kernel_rfl
theorem ze_155 : zeroElem Tryd.prog 155 = some (.agg []) := by kernel_rfl
theorem zok_155 : zok Tryd.prog 155 = true := by kernel_rfl
theorem tk_156 : tk Tryd.prog 156 = .st [(0, 0, true)] := by kernel_rfl
theorem tsh_156 : tsh Tryd.prog 156 = some (0, true) := by kernel_rfl
theorem co_156 : Program.cellsOf Tryd.prog 156 = 0 := by kernel_rfl
theorem zcs_156 : zcs Tryd.prog 156 = some [] := by kernel_rfl
theorem ze_156 : zeroElem Tryd.prog 156 = some (.agg []) := by kernel_rfl
theorem zok_156 : zok Tryd.prog 156 = true := by kernel_rfl
theorem tk_157 : tk Tryd.prog 157 = .st [(0, 0, true)] := by kernel_rfl
theorem tsh_157 : tsh Tryd.prog 157 = some (0, true) := by kernel_rfl
theorem co_157 : Program.cellsOf Tryd.prog 157 = 0 := by kernel_rfl
theorem zcs_157 : zcs Tryd.prog 157 = some [] := by kernel_rfl
theorem ze_157 : zeroElem Tryd.prog 157 = some (.agg []) := by kernel_rfl
theorem zok_157 : zok Tryd.prog 157 = true := by kernel_rfl
theorem tk_158 : tk Tryd.prog 158 = .int .u32 := by kernel_rfl
theorem tsh_158 : tsh Tryd.prog 158 = some (1, false) := by kernel_rfl
theorem co_158 : Program.cellsOf Tryd.prog 158 = 1 := by kernel_rfl
theorem zcs_158 : zcs Tryd.prog 158 = some [.pv (.int .u32 0)] := by kernel_rfl
theorem ze_158 : zeroElem Tryd.prog 158 = some (.int .u32 0) := by kernel_rfl
theorem zok_158 : zok Tryd.prog 158 = true := by kernel_rfl
theorem tk_159 : tk Tryd.prog 159 = .int .u8 := by kernel_rfl
theorem tsh_159 : tsh Tryd.prog 159 = some (1, false) := by kernel_rfl
theorem co_159 : Program.cellsOf Tryd.prog 159 = 1 := by kernel_rfl
theorem zcs_159 : zcs Tryd.prog 159 = some [.pv (.int .u8 0)] := by kernel_rfl
theorem ze_159 : zeroElem Tryd.prog 159 = some (.int .u8 0) := by kernel_rfl
theorem zok_159 : zok Tryd.prog 159 = true := by kernel_rfl
theorem tk_160 : tk Tryd.prog 160 = .int .u8 := by kernel_rfl
theorem tsh_160 : tsh Tryd.prog 160 = some (1, false) := by kernel_rfl
theorem co_160 : Program.cellsOf Tryd.prog 160 = 1 := by kernel_rfl
theorem zcs_160 : zcs Tryd.prog 160 = some [.pv (.int .u8 0)] := by kernel_rfl
theorem ze_160 : zeroElem Tryd.prog 160 = some (.int .u8 0) := by kernel_rfl
theorem zok_160 : zok Tryd.prog 160 = true := by kernel_rfl
theorem tk_161 : tk Tryd.prog 161 = .fn := by kernel_rfl
theorem tk_162 : tk Tryd.prog 162 = .ptr 5 := by kernel_rfl
theorem tsh_162 : tsh Tryd.prog 162 = some (1, false) := by kernel_rfl
theorem co_162 : Program.cellsOf Tryd.prog 162 = 1 := by kernel_rfl
theorem zcs_162 : zcs Tryd.prog 162 = some [.pv .nilp] := by kernel_rfl
theorem ze_162 : zeroElem Tryd.prog 162 = some .nilp := by kernel_rfl
theorem zok_162 : zok Tryd.prog 162 = true := by kernel_rfl
theorem tk_163 : tk Tryd.prog 163 = .int .i32 := by kernel_rfl
theorem tsh_163 : tsh Tryd.prog 163 = some (1, false) := by kernel_rfl
theorem co_163 : Program.cellsOf Tryd.prog 163 = 1 := by kernel_rfl
theorem zcs_163 : zcs Tryd.prog 163 = some [.pv (.int .i32 0)] := by kernel_rfl
theorem ze_163 : zeroElem Tryd.prog 163 = some (.int .i32 0) := by kernel_rfl
theorem zok_163 : zok Tryd.prog 163 = true := by kernel_rfl
theorem tk_164 : tk Tryd.prog 164 = .int .i32 := by kernel_rfl
theorem tsh_164 : tsh Tryd.prog 164 = some (1, false) := by kernel_rfl
theorem co_164 : Program.cellsOf Tryd.prog 164 = 1 := by kernel_rfl
theorem zcs_164 : zcs Tryd.prog 164 = some [.pv (.int .i32 0)] := by kernel_rfl
theorem ze_164 : zeroElem Tryd.prog 164 = some (.int .i32 0) := by kernel_rfl
theorem zok_164 : zok Tryd.prog 164 = true := by kernel_rfl
theorem tk_165 : tk Tryd.prog 165 = .st [(0, 1, false), (1, 1, false), (2, 1, false), (3, 1, false), (4, 1, false), (5, 1, false), (6, 1, false), (7, 1, false), (8, 1, false), (9, 1, false), (10, 1, false)] := by kernel_rfl
theorem tsh_165 : tsh Tryd.prog 165 = some (11, true) := by kernel_rfl
theorem co_165 : Program.cellsOf Tryd.prog 165 = 11 := by kernel_rfl
theorem zcs_165 : zcs Tryd.prog 165 = some [.pv (.int .u64 0), .pv (.int .u64 0), .pv (.int .u32 0), .pv (.int .u8 0), .pv (.int .u8 0), .pv (.int .u8 0), .pv (.int .u8 0), .pv .nilf, .pv .nilp, .pv (.int .i32 0), .pv (.int .i32 0)] := by kernel_rfl
theorem ze_165 : zeroElem Tryd.prog 165 = some (.agg [(.int .u64 0), (.int .u64 0), (.int .u32 0), (.int .u8 0), (.int .u8 0), (.int .u8 0), (.int .u8 0), .nilf, .nilp, (.int .i32 0), (.int .i32 0)]) := by kernel_rfl
theorem zok_165 : zok Tryd.prog 165 = true := by kernel_rfl
theorem tk_166 : tk Tryd.prog 166 = .st [(0, 1, false), (1, 1, false), (2, 1, false), (3, 1, false), (4, 1, false), (5, 1, false), (6, 1, false), (7, 1, false), (8, 1, false), (9, 1, false), (10, 1, false)] := by kernel_rfl
theorem tsh_166 : tsh Tryd.prog 166 = some (11, true) := by kernel_rfl
theorem co_166 : Program.cellsOf Tryd.prog 166 = 11 := by kernel_rfl
theorem zcs_166 : zcs Tryd.prog 166 = some [.pv (.int .u64 0), .pv (.int .u64 0), .pv (.int .u32 0), .pv (.int .u8 0), .pv (.int .u8 0), .pv (.int .u8 0), .pv (.int .u8 0), .pv .nilf, .pv .nilp, .pv (.int .i32 0), .pv (.int .i32 0)] := by kernel_rfl
theorem ze_166 : zeroElem Tryd.prog 166 = some (.agg [(.int .u64 0), (.int .u64 0), (.int .u32 0), (.int .u8 0), (.int .u8 0), (.int .u8 0), (.int .u8 0), .nilf, .nilp, (.int .i32 0), (.int .i32 0)]) := by kernel_rfl
theorem zok_166 : zok Tryd.prog 166 = true := by kernel_rfl
theorem mixed : Tryd.prog.follows .mixedOrders = true := by kernel_rfl
attribute [go_sem] tk_1 tk_2 tsh_2 co_2 zcs_2 ze_2 zok_2 tk_3 tsh_3 co_3 zcs_3 ze_3 zok_3 tk_4 tsh_4 co_4 zcs_4 ze_4 zok_4 tk_5 tsh_5 co_5 zcs_5 ze_5 zok_5 tk_6 tsh_6 co_6 zcs_6 ze_6 zok_6 tk_7 tsh_7 co_7 zcs_7 ze_7 zok_7 tk_8 tsh_8 co_8 zcs_8 ze_8 zok_8 tk_9 tsh_9 co_9 zcs_9 ze_9 zok_9 tk_10 tsh_10 co_10 zcs_10 ze_10 zok_10 tk_11 tsh_11 co_11 zcs_11 ze_11 zok_11 tk_12 tsh_12 co_12 zcs_12 ze_12 zok_12 tk_13 tsh_13 co_13 zcs_13 ze_13 zok_13 tk_14 tsh_14 co_14 zcs_14 ze_14 zok_14 tk_15 tsh_15 co_15 zcs_15 ze_15 zok_15 tk_16 tsh_16 co_16 zcs_16 ze_16 zok_16 tk_17 tsh_17 co_17 zcs_17 ze_17 zok_17 tk_18 tsh_18 co_18 zcs_18 ze_18 zok_18 tk_19 tsh_19 co_19 zcs_19 ze_19 zok_19 tk_20 tk_21 tsh_21 co_21 zcs_21 ze_21 zok_21 tk_22 tsh_22 co_22 zcs_22 ze_22 zok_22 tk_23 tk_24 tsh_24 co_24 zcs_24 ze_24 zok_24 tk_25 tsh_25 co_25 zcs_25 ze_25 zok_25 tk_27 tk_28 tk_29 tk_30 tk_31 tk_33 tk_34 tk_35 tk_36 tk_37 tk_38 tsh_38 co_38 zcs_38 ze_38 zok_38 tk_39 tk_40 tsh_40 co_40 zcs_40 ze_40 zok_40 tk_41 tsh_41 co_41 zcs_41 ze_41 zok_41 tk_42 tsh_42 co_42 zcs_42 ze_42 zok_42 tk_43 tk_45 tk_46 tk_47 tk_49 tk_50 tk_51 tk_52 tk_53 tk_54 tsh_54 co_54 zcs_54 ze_54 zok_54 tk_55 tsh_55 co_55 zcs_55 ze_55 zok_55 tk_56 tk_57 tk_58 tk_59 tsh_59 co_59 zcs_59 ze_59 zok_59 tk_60 tk_61 tsh_61 co_61 zcs_61 ze_61 zok_61 tk_62 tk_64 tk_65 tk_66 tk_67 tsh_67 co_67 zcs_67 ze_67 zok_67 tk_68 tk_69 tk_70 tk_71 tsh_71 co_71 zcs_71 ze_71 zok_71 tk_72 tsh_72 co_72 zcs_72 ze_72 zok_72 tk_73 tk_74 tk_76 tk_77 tk_79 tk_81 tk_83 tk_84 tsh_84 co_84 tk_86 tsh_86 co_86 zcs_86 ze_86 zok_86 tk_87 tsh_87 co_87 zcs_87 ze_87 zok_87 tk_88 tsh_88 co_88 zcs_88 ze_88 zok_88 tk_89 tk_90 tk_91 tsh_91 co_91 zcs_91 ze_91 zok_91 tk_92 tsh_92 co_92 zcs_92 ze_92 zok_92 tk_93 tk_94 tk_95 tk_96 tk_97 tsh_97 co_97 zcs_97 ze_97 zok_97 tk_98 tk_99 tk_100 tk_101 tk_102 tk_103 tk_104 tsh_104 co_104 zcs_104 ze_104 zok_104 tk_105 tsh_105 co_105 zcs_105 ze_105 zok_105 tk_106 tsh_106 co_106 zcs_106 ze_106 zok_106 tk_107 tsh_107 co_107 zcs_107 ze_107 zok_107 tk_108 tk_109 tk_110 tk_111 tk_112 tk_114 tk_115 tk_116 tk_117 tk_118 tk_119 tk_120 tk_121 tsh_121 co_121 zcs_121 ze_121 zok_121 tk_122 tk_123 tk_124 tsh_124 co_124 zcs_124 ze_124 zok_124 tk_125 tk_127 tk_128 tsh_128 co_128 zcs_128 ze_128 zok_128 tk_129 tsh_129 co_129 zcs_129 ze_129 zok_129 tk_130 tsh_130 co_130 zcs_130 ze_130 zok_130 tk_131 tk_132 tsh_132 co_132 zcs_132 ze_132 zok_132 tk_133 tk_134 tsh_134 co_134 zcs_134 ze_134 zok_134 tk_135 tsh_135 co_135 zcs_135 ze_135 zok_135 tk_136 tsh_136 co_136 zcs_136 ze_136 zok_136 tk_137 tk_139 tk_140 tk_142 tk_143 tk_144 tk_145 tk_146 tsh_146 co_146 zcs_146 ze_146 zok_146 tk_147 tk_148 tsh_148 co_148 zcs_148 ze_148 zok_148 tk_149 tsh_149 co_149 zcs_149 ze_149 zok_149 tk_150 tk_151 tk_152 tk_153 tsh_153 co_153 zcs_153 ze_153 zok_153 tk_154 tsh_154 co_154 zcs_154 ze_154 zok_154 tk_155 tsh_155 co_155 zcs_155 ze_155 zok_155 tk_156 tsh_156 co_156 zcs_156 ze_156 zok_156 tk_157 tsh_157 co_157 zcs_157 ze_157 zok_157 tk_158 tsh_158 co_158 zcs_158 ze_158 zok_158 tk_159 tsh_159 co_159 zcs_159 ze_159 zok_159 tk_160 tsh_160 co_160 zcs_160 ze_160 zok_160 tk_161 tk_162 tsh_162 co_162 zcs_162 ze_162 zok_162 tk_163 tsh_163 co_163 zcs_163 ze_163 zok_163 tk_164 tsh_164 co_164 zcs_164 ze_164 zok_164 tk_165 tsh_165 co_165 zcs_165 ze_165 zok_165 tk_166 tsh_166 co_166 zcs_166 ze_166 zok_166 mixed
end Go.Ck

set_option linter.unusedVariables false
set_option maxRecDepth 10000
namespace Go.Ck
open Go.Proofs
theorem clone_bytes (l : List Nat) (hl : l.length ≤ room) : Fn Tryd.prog 72 [] [.pv (.sl 1 (bytes l))] (fun rs H' => rs = [.own 5 (bytes l)] ∧ H' = []) := by
  refine Fn.of_body (fn := Tryd.f72) (n := 8) (res := [.tmp 2]) (by kernel_rfl) rfl rfl rfl rfl rfl (fun C => ?_)
  refine AW.go ?_
  refine AW.eqNil (.inl rfl) rfl rfl rfl tk_24 (by simp only [go_sem, ↓reduceIte] <;> rfl) rfl rfl rfl (fun b hb => ?_)
  refine AW.go ?_
  refine AW.cond (b := b) (by simp only [go_sem, ↓reduceIte] <;> rfl) (fun h1 => ?_) (fun h1 => ?_)
  · have hx : l = [] := by simpa [bytes] using hb h1
    subst hx
    refine AW.go ?_
    refine AW.finE (.move rfl .nil) rfl
  · refine AW.go ?_ (by simp only [go_sem, ↓reduceIte, hl] <;> rfl)
    refine AW.finE (.move rfl .nil) rfl

theorem with_fn (xs ys : List Nat) (hl : xs.length + ys.length ≤ room) : Fn Tryd.prog 82 [] [.own 5 (bytes xs), .pv (.sl 1 (bytes ys))] (fun rs H' => rs = [.own 5 (bytes (xs ++ ys))] ∧ H' = []) := by
  refine Fn.of_body (fn := Tryd.f82) (n := 8) (res := [.tmp 4]) (by kernel_rfl) rfl rfl rfl rfl rfl (fun C => ?_)
  refine AW.go ?_ (by simp only [go_sem, ↓reduceIte, hl] <;> rfl)
  refine AW.finE (.move rfl .nil) rfl
end Go.Ck

set_option linter.unusedVariables false
namespace Go.Ck
def leb (v : Nat) : List Nat := if v < 128 then [v] else (v % 128 + 128) :: leb (v / 128)
termination_by v
decreasing_by omega
theorem leb_lt {v : Nat} (h : v < 128) : leb v = [v] := by rw [leb, if_pos h]
theorem leb_ge {v : Nat} (h : ¬ v < 128) : leb v = (v % 128 + 128) :: leb (v / 128) := by rw [leb, if_neg h]
theorem leb_pos (v : Nat) : 0 < (leb v).length := by
  by_cases h : v < 128
  · rw [leb_lt h]; simp
  · rw [leb_ge h]; simp
theorem leb_len (n : Nat) : ∀ v, v < 128 ^ (n + 1) → (leb v).length ≤ n + 1 := by
  induction n with
  | zero => intro v h; rw [leb_lt (by omega)]; simp
  | succ n ih =>
    intro v h
    by_cases h1 : v < 128
    · rw [leb_lt h1]; simp
    · rw [leb_ge h1, List.length_cons]
      have := ih (v / 128) (by rw [Nat.div_lt_iff_lt_mul (by omega)]; rw [Nat.pow_succ] at h; omega)
      omega
theorem leb_len10 {v : Nat} (h : v < 2 ^ 64) : (leb v).length ≤ 10 := leb_len 9 v (by omega)
theorem leb_byte (v : Nat) : ∀ x ∈ leb v, x < 256 := by
  induction v using Nat.strongRecOn with
  | _ v ih =>
    by_cases h : v < 128
    · rw [leb_lt h]; simp; omega
    · rw [leb_ge h]
      intro x hx
      rcases List.mem_cons.1 hx with rfl | hx
      · omega
      · exact ih (v / 128) (by omega) x hx
theorem or128 {x : Nat} (h : x < 256) : x ||| 128 = x % 128 + 128 := by
  have : ∀ x : Fin 256, x.val ||| 128 = x.val % 128 + 128 := by decide +kernel
  exact this ⟨x, h⟩
end Go.Ck
namespace Go.Ck
/-- A number out of bytes; how many bytes it took; why there is none. -/
def rdv : Nat → Nat → List Nat → Nat × Nat × Int
  | _, _, [] => (0, 0, 2)
  | k, acc, x :: r => if k = 9 ∧ 1 < x then (0, 0, 3) else if 128 ≤ x then rdv (k + 1) (acc + x % 128 * 128 ^ k) r else if x = 0 ∧ 0 < k then (0, 0, 3) else (acc + x * 128 ^ k, k + 1, 0)
def readV (b : List Nat) : Nat × Nat × Int := rdv 0 0 (b.take 10)

theorem rdv_bound : ∀ (l : List Nat) (k acc : Nat), (rdv k acc l).2.1 ≤ k + l.length ∧ ((rdv k acc l).2.2 ≠ 0 → (rdv k acc l).1 = 0 ∧ (rdv k acc l).2.1 = 0) ∧ (rdv k acc l).2.1 ≤ k + l.length
  | [], k, acc => by simp [rdv]
  | x :: r, k, acc => by
    simp only [rdv]
    split
    · simp
    · split
      · have := rdv_bound r (k + 1) (acc + x % 128 * 128 ^ k)
        simp only [List.length_cons]
        refine ⟨by omega, this.2.1, by omega⟩
      · split
        · simp
        · simp
theorem readV_le (b : List Nat) : (readV b).2.1 ≤ b.length := by
  have := (rdv_bound (b.take 10) 0 0).1
  simp at this
  unfold readV
  omega
theorem rdv_lt : ∀ (l : List Nat) (k acc : Nat), k + l.length ≤ 10 → (∀ x ∈ l, x < 256) → acc < 128 ^ k → (rdv k acc l).1 < 2 ^ 64
  | [], k, acc, _, _, _ => by simp [rdv]
  | x :: r, k, acc, hk, hx, ha => by
    have hx0 := hx x (by simp)
    simp only [List.length_cons] at hk
    have hp : 128 ^ (k + 1) = 128 ^ k * 128 := Nat.pow_succ ..
    simp only [rdv]
    split
    · simp
    · rename_i h9
      split
      · refine rdv_lt r (k + 1) _ (by omega) (fun y hy => hx y (by simp [hy])) ?_
        rw [hp]
        have h1 : x % 128 * 128 ^ k ≤ 127 * 128 ^ k := Nat.mul_le_mul_right _ (by omega)
        omega
      · split
        · simp
        · simp only
          by_cases hk9 : k = 9
          · subst hk9
            have : x ≤ 1 := by omega
            have h1 : x * 128 ^ 9 ≤ 1 * 128 ^ 9 := Nat.mul_le_mul_right _ this
            omega
          · have h2 : 128 ^ k ≤ 128 ^ 8 := Nat.pow_le_pow_right (by omega) (by omega)
            have h1 : x * 128 ^ k ≤ 127 * 128 ^ k := Nat.mul_le_mul_right _ (by omega)
            omega
theorem readV_lt {b : List Nat} (hb : ∀ x ∈ b, x < 256) : (readV b).1 < 2 ^ 64 := rdv_lt _ 0 0 (by simp; omega) (fun x hx => hb x (List.mem_of_mem_take hx)) (by simp)
theorem andNot128 {x : Nat} (h : x < 256) : ibits .andNot .u8 (x : Int) 128 = ((x % 128 : Nat) : Int) := by
  have : ∀ x : Fin 256, ibits .andNot .u8 ((x.val : Nat) : Int) 128 = ((x.val % 128 : Nat) : Int) := by decide +kernel
  exact this ⟨x, h⟩
theorem or_shift {a x k : Nat} (ha : a < 128 ^ k) (hx : x * 128 ^ k < 2 ^ 64) (ha2 : a < 2 ^ 64) (hk : 7 * k ≤ 64) : ibits .or .u64 (a : Int) (shlI .u64 (x : Int) ((7 * k : Nat) : Int)) = ((a + x * 128 ^ k : Nat) : Int) := by
  have hp : (2 : Nat) ^ (7 * k) = 128 ^ k := by rw [Nat.pow_mul]
  rw [shlI_nat64 _ _ hk, hp, Nat.mod_eq_of_lt hx, ibits_or64 ha2 hx]
  congr 1
  have := Nat.two_pow_add_eq_or_of_lt (i := 7 * k) (b := a) (by rw [hp]; exact ha) x
  rw [hp] at this
  rw [Nat.or_comm, Nat.mul_comm x, ← this, Nat.add_comm]
end Go.Ck

set_option linter.unusedVariables false
set_option maxRecDepth 10000
namespace Go.Ck
open Go.Proofs
theorem append_fn (b : List Nat) (v : Nat) (hv : v < 2 ^ 64) (hl : b.length + 10 ≤ room) : Fn Tryd.prog 44 [] [.pv (.sl 1 (bytes b)), .pv (.int .u64 v)] (fun rs H' => rs = [.own 5 (bytes (b ++ leb v))] ∧ H' = []) := by
  refine Fn.of_body (fn := Tryd.f44) (n := 23) (res := [.tmp 4]) (by kernel_rfl) rfl rfl rfl rfl rfl (fun C => ?_)
  refine AW.go ?_
  refine AW.callE (fun _ => 0) (clone_bytes b (by omega)) (.pv _ .nil) ?_
  refine AW.go ?_
  have hlen := leb_len10 hv
  refine AW.loopS (fun a : List Nat × Nat => ⟨23, [(5, .own 5 (bytes a.1)), (1, .pv (.int .u64 a.2))], []⟩) (fun a => a.1 ++ leb a.2 = b ++ leb v ∧ a.2 < 2 ^ 64) (fun a => a.2) [5, 1] [] (b, v) ⟨rfl, hv⟩ ?_
  rintro ⟨o, u⟩ ⟨ho, hu⟩ K hK
  simp only at ho hu
  have hol : o.length + (leb u).length = b.length + (leb v).length := by rw [← List.length_append, ho, List.length_append]
  have hup := leb_pos u
  refine AW.go ?_
  refine AW.cond rfl (fun hb => ?_) (fun hb => ?_)
  · have hge : ¬ u < 128 := by simp at hb; omega
    refine AW.go ?_
    have e1 : ibits .or .u8 (IntKind.u8.wrap (u : Int)) 128 = ((u % 128 + 128 : Nat) : Int) := by
      rw [wrap_u8]
      have := ibits_or8 (a := u % 256) (b := 128) (by omega) (by omega)
      rw [or128 (by omega)] at this
      refine this.trans ?_
      congr 2; omega
    rw [e1]
    refine AW.callE (fun _ => 0) (with_fn o [u % 128 + 128] (by simp; omega)) (.move rfl (.lend rfl co_5 .nil)) ?_
    refine AW.go ?_
    have e2 : shrI .u64 (u : Int) 7 = ((u / 128 : Nat) : Int) := shrI_nat .u64 u 7 (by decide)
    refine AW.again hK (o ++ [u % 128 + 128], u / 128) ⟨?_, by simp only; omega⟩ (by simp only; omega) (by simp only [go_sem, ↓reduceIte]) (by simp only [go_sem, ↓reduceIte, e2])
    simp only [List.append_assoc, List.singleton_append]
    rw [← leb_ge hge, ho]
  · have hlt : u < 128 := by simp at hb; omega
    refine AW.go ?_
    have e1 : IntKind.u8.wrap (u : Int) = ((u : Nat) : Int) := wrap_u8_lt (by omega)
    rw [e1]
    refine AW.callE (fun _ => 0) (with_fn o [u] (by simp; omega)) (.move rfl (.lend rfl co_5 .nil)) ?_
    refine AW.go ?_
    refine AW.finE (.move rfl .nil) ?_
    rw [← ho, leb_lt hlt]
end Go.Ck

set_option linter.unusedVariables false
set_option maxRecDepth 10000
namespace Go.Ck
open Go.Proofs
abbrev curO (l : List Nat) : List (Nat × HO) := [(1000, .cells 107 [.pv (.sl 1 (bytes l))])]

attribute [go_sem] curO
theorem curNew_fn (l : List Nat) (hl : l.length ≤ room) : Fn Tryd.prog 36 [] [.pv (.sl 1 (bytes l))] (fun rs H' => rs = [.ptr 7 0] ∧ H' = [(7, .cells 107 [.pv (.sl 1 (bytes l))])]) := by
  refine Fn.of_body (fn := Tryd.f36) (n := 8) (res := [.tmp 2]) (by kernel_rfl) rfl rfl rfl rfl rfl (fun C => ?_)
  refine AW.go ?_
  refine AW.callE (fun _ => 0) (clone_bytes l hl) (.pv _ .nil) ?_
  refine AW.go ?_
  refine AW.finE (.ptr rfl .nil) rfl

theorem left_fn (l : List Nat) : Fn Tryd.prog 86 (curO l) [.ptr 1000 0] (fun rs H' => rs = [.pv (.int .i64 l.length)] ∧ H' = curO l) := by
  refine Fn.of_body (fn := Tryd.f86) (n := 8) (res := [.tmp 2]) (by kernel_rfl) rfl rfl rfl rfl rfl (fun C => ?_)
  refine AW.go ?_
  refine AW.finE (.pv _ .nil) rfl

theorem take_fn (l : List Nat) (n : Nat) (hn : n ≤ l.length) (hl : l.length ≤ room) : Fn Tryd.prog 85 (curO l) [.ptr 1000 0, .pv (.int .i64 n)] (fun rs H' => rs = [.own 5 (bytes (l.take n))] ∧ H' = curO (l.drop n)) := by
  refine Fn.of_body (fn := Tryd.f85) (n := 23) (res := [.tmp 4]) (by kernel_rfl) rfl rfl rfl rfl rfl (fun C => ?_)
  refine AW.go ?_ (by simp only [go_sem, ↓reduceIte, hn] <;> rfl)
  refine AW.callE (fun _ => 0) (clone_bytes (l.take n) (by simp; omega)) (.pv _ .nil) ?_
  have e : (((l.length : Int) - (n : Int)).toNat) = l.length - n := by omega
  have e2 : (bytes (l.drop n)).take (l.length - n) = bytes (l.drop n) := List.take_of_length_le (by simp [bytes])
  refine AW.go ?_ (by simp only [go_sem, ↓reduceIte, hn, e]; rw [← bytes_take, e2] <;> rfl)
  refine AW.finE (.move rfl .nil) rfl
end Go.Ck

set_option linter.unusedVariables false
set_option maxRecDepth 10000
namespace Go.Ck
open Go.Proofs
theorem curLeft_fn (l : List Nat) : Fn Tryd.prog 75 (curO l) [.ptr 1000 0] (fun rs H' => rs = [.pv (.int .i64 l.length)] ∧ H' = curO l) := by
  refine Fn.of_body (fn := Tryd.f75) (n := 9) (res := [.tmp 2]) (by kernel_rfl) rfl rfl rfl rfl rfl (fun C => ?_)
  refine AW.go ?_
  refine AW.condF rfl ?_
  refine AW.go ?_
  refine AW.callE id (left_fn l) (.ptr rfl .nil) ?_
  refine AW.go ?_
  refine AW.finE (.pv _ .nil) rfl

theorem curEnd_fn (l : List Nat) : Fn Tryd.prog 49 (curO l) [.ptr 1000 0] (fun rs H' => rs = [.pv (.int .i64 (if l = [] then 0 else 3))] ∧ H' = curO l) := by
  refine Fn.of_body (fn := Tryd.f49) (n := 12) (res := [.tmp 2]) (by kernel_rfl) rfl rfl rfl rfl rfl (fun C => ?_)
  refine AW.go ?_
  refine AW.condF rfl ?_
  refine AW.go ?_
  refine AW.callE id (left_fn l) (.ptr rfl .nil) ?_
  refine AW.go ?_
  refine AW.cond rfl (fun hb => ?_) (fun hb => ?_)
  · refine AW.go ?_
    refine AW.finE (.pv _ .nil) ?_
    rw [if_neg (by rintro rfl; simp at hb)]
  · refine AW.go ?_
    refine AW.finE (.pv _ .nil) ?_
    rw [if_pos (by simpa using hb)]

theorem curBytes_fn (l : List Nat) (n : Nat) (hl : l.length ≤ room) : Fn Tryd.prog 73 (curO l) [.ptr 1000 0, .pv (.int .i64 n)]
    (fun rs H' => rs = [.own 5 (bytes (if n ≤ l.length then l.take n else [])), .pv (.int .i64 (if n ≤ l.length then 0 else 2))] ∧ H' = curO (if n ≤ l.length then l.drop n else l)) := by
  refine Fn.of_body (fn := Tryd.f73) (n := 25) (res := [.tmp 4, .tmp 5]) (by kernel_rfl) rfl rfl rfl rfl rfl (fun C => ?_)
  refine AW.gg ?_
  refine AW.condF rfl ?_
  refine AW.go ?_
  refine AW.callE id (left_fn l) (.ptr rfl .nil) ?_
  refine AW.go ?_
  refine AW.cond rfl (fun hb => ?_) (fun hb => ?_)
  · have hn : ¬ n ≤ l.length := by simp at hb; omega
    simp only [if_neg hn]
    refine AW.go ?_
    refine AW.finE (.move rfl (.pv _ .nil)) rfl
  · have hn : n ≤ l.length := by simp at hb; omega
    simp only [if_pos hn]
    refine AW.go ?_
    refine AW.callE id (take_fn l n hn hl) (.ptr rfl (.pv _ .nil)) ?_
    refine AW.go ?_
    refine AW.finE (.move rfl (.pv _ .nil)) rfl
end Go.Ck

set_option linter.unusedVariables false
set_option maxRecDepth 10000
namespace Go.Ck
open Go.Proofs
theorem via {T Q : Prop} (h : (Unit → T) → Q) (t : T) : Q := h (fun _ => t)
theorem read_fn (b : List Nat) (hb : ∀ x ∈ b, x < 256) : Fn Tryd.prog 84 [] [.pv (.sl 1 (bytes b))] (fun rs H' => rs = [.pv (.int .u64 ((readV b).1 : Nat)), .pv (.int .i64 ((readV b).2.1 : Nat)), .pv (.int .i64 (readV b).2.2)] ∧ H' = []) := by
  refine Fn.of_body (fn := Tryd.f84) (n := 47) (res := [.tmp 2, .tmp 3, .tmp 4]) (by kernel_rfl) rfl rfl rfl rfl rfl (fun C => ?_)
  have hm : (if (10 : Int) < (b.length : Int) then (10 : Int) else (b.length : Int)) = ((b.take 10).length : Nat) := by
    rw [List.length_take]; split <;> omega
  have h1 : (b.take 10).length ≤ b.length := by simp; omega
  have h2 : b.take (b.take 10).length = b.take 10 := by rw [List.length_take]; simp [List.take_eq_take_iff]
  refine AW.go ?_ (by simp only [go_sem, ↓reduceIte, hm, h1, h2] <;> rfl)
  have hbb : ∀ x ∈ b.take 10, x < 256 := fun x hx => hb x (List.mem_of_mem_take hx)
  have hlen : (b.take 10).length ≤ 10 := by simp; omega
  unfold readV
  generalize b.take 10 = c at hbb hlen ⊢
  refine AW.loopS (fun a : Nat × Nat => ⟨47, [(14, .pv (.int .i64 a.1)), (5, .pv (.int .u64 a.2)), (12, .pv (.sl 1 (bytes c))), (13, .pv (.int .i64 c.length))], []⟩) (fun a => a.1 ≤ c.length ∧ rdv a.1 a.2 (c.drop a.1) = rdv 0 0 c ∧ a.2 < 128 ^ a.1) (fun a => c.length - a.1) [14, 5, 12, 13] [] (0, 0) ⟨Nat.zero_le _, rfl, by simp⟩ ?_
  rintro ⟨i, v⟩ ⟨hi, hr, hv⟩ K hK
  simp only at hi hr hv
  refine AW.go ?_
  refine AW.cond rfl (fun hc => ?_) (fun hc => ?_)
  · have hlt : i < c.length := by simpa using hc
    have hx := hbb c[i] (List.getElem_mem hlt)
    have hget := bytes_get hlt
    rw [List.drop_eq_getElem_cons hlt] at hr
    simp only [rdv] at hr
    generalize c[i] = x at hx hget hr
    have hvlt : v < 2 ^ 64 := by
      have : 128 ^ i ≤ 128 ^ 9 := Nat.pow_le_pow_right (by omega) (by omega)
      omega
    have hp : 128 ^ (i + 1) = 128 ^ i * 128 := Nat.pow_succ ..
    have e9 : ((i : Int) == 9) = decide (i = 9) := by rw [Bool.eq_iff_iff]; simp; omega
    have e1 : decide ((x : Int) > 1) = decide (1 < x) := by rw [Bool.eq_iff_iff]; simp; omega
    have e7 : IntKind.i64.wrap (7 * (i : Int)) = ((7 * i : Nat) : Int) := by rw [wrap_i64_of (by omega) (by omega)]; omega
    have hu : IntKind.u64.wrap ((x % 128 : Nat) : Int) = ((x % 128 : Nat) : Int) := wrap_u64_lt (by omega)
    have ei : IntKind.i64.wrap ((i : Int) + 1) = ((i + 1 : Nat) : Int) := wrap_i64_succ (by omega)
    by_cases h9 : i = 9 ∧ 1 < x
    · obtain ⟨k1, k2⟩ := h9
      rw [if_pos ⟨k1, k2⟩] at hr
      have b1 : decide (i = 9) = true := by simpa using k1
      have b2 : decide (1 < x) = true := by simpa using k2
      refine AW.gg ?_ (by simp only [go_sem, ↓reduceIte, hget, e9, e1, b1, b2] <;> rfl)
      refine AW.condT rfl ?_
      refine AW.go ?_
      refine AW.finE (.pv _ (.pv _ (.pv _ .nil))) ?_
      rw [← hr]; rfl
    · rw [if_neg h9] at hr
      have ea : ibits .andNot .u8 (x : Int) 128 = ((x % 128 : Nat) : Int) := andNot128 hx
      have hi9 : i ≤ 9 := by omega
      have hpw : 128 ^ i ≤ 128 ^ 9 := Nat.pow_le_pow_right (by omega) hi9
      have hxs : x % 128 * 128 ^ i < 2 ^ 64 := by
        by_cases k : i = 9
        · subst k
          have : x ≤ 1 := by omega
          have h1 : x % 128 * 128 ^ 9 ≤ 1 * 128 ^ 9 := Nat.mul_le_mul_right _ (by omega)
          omega
        · have h2 : 128 ^ i ≤ 128 ^ 8 := Nat.pow_le_pow_right (by omega) (by omega)
          have h1 : x % 128 * 128 ^ i ≤ 127 * 128 ^ i := Nat.mul_le_mul_right _ (by omega)
          omega
      have eo := or_shift (a := v) (x := x % 128) (k := i) hv hxs hvlt (by omega)
      refine via (T := ?T) (fun hT => ?_) ?_
      rotate_left
      · by_cases k : i = 9
        · have b1 : decide (i = 9) = true := by simpa using k
          refine AW.gg ?_ (by simp only [go_sem, ↓reduceIte, hget, e9, b1] <;> rfl)
          refine AW.cond rfl (fun hc2 => absurd ⟨k, by simp at hc2; omega⟩ h9) (fun hc2 => ?_)
          refine AW.keepB [5, 6, 7, 12, 13, 14] [] (by simp only [go_sem, ↓reduceIte]) (by simp only [go_sem, ↓reduceIte] <;> rfl) ?_
          exact hT ()
        · have b1 : decide (i = 9) = false := by simpa using k
          refine AW.gg ?_ (by simp only [go_sem, ↓reduceIte, hget, e9, b1] <;> rfl)
          refine AW.condF rfl ?_
          refine AW.keepB [5, 6, 7, 12, 13, 14] [] (by simp only [go_sem, ↓reduceIte]) (by simp only [go_sem, ↓reduceIte] <;> rfl) ?_
          exact hT ()
      refine AW.go ?_ (by simp only [go_sem, ↓reduceIte, ea, e7, hu, eo] <;> rfl)
      refine AW.cond rfl (fun hc2 => ?_) (fun hc2 => ?_)
      · have h128 : 128 ≤ x := by simp at hc2; omega
        rw [if_pos h128] at hr
        refine AW.go ?_ (by simp only [go_sem, ↓reduceIte, ei] <;> rfl)
        refine AW.again hK (i + 1, v + x % 128 * 128 ^ i) ⟨hlt, hr, ?_⟩ (by simp only; omega)
        simp only
        rw [hp]
        have h1 : x % 128 * 128 ^ i ≤ 127 * 128 ^ i := Nat.mul_le_mul_right _ (by omega)
        omega
      · have h128 : ¬ 128 ≤ x := by simp at hc2; omega
        rw [if_neg h128] at hr
        have hxm : x % 128 = x := Nat.mod_eq_of_lt (by omega)
        have e0 : ((x : Int) == 0) = decide (x = 0) := by rw [Bool.eq_iff_iff]; simp
        have ep : decide ((i : Int) > 0) = decide (0 < i) := by rw [Bool.eq_iff_iff]; simp
        rw [hxm]
        by_cases k0 : x = 0
        · have b1 : decide (x = 0) = true := by simpa using k0
          refine AW.gg ?_ (by simp only [go_sem, ↓reduceIte, e0, b1] <;> rfl)
          refine AW.cond rfl (fun hc3 => ?_) (fun hc3 => ?_)
          · have : 0 < i := by simp at hc3; omega
            rw [if_pos ⟨k0, this⟩] at hr
            refine AW.go ?_
            refine AW.finE (.pv _ (.pv _ (.pv _ .nil))) ?_
            rw [← hr]; rfl
          · have : ¬ 0 < i := by simp at hc3; omega
            rw [if_neg (fun h => this h.2)] at hr
            refine AW.go ?_ (by simp only [go_sem, ↓reduceIte, ei] <;> rfl)
            refine AW.finE (.pv _ (.pv _ (.pv _ .nil))) ?_
            rw [← hr]
        · have b1 : decide (x = 0) = false := by simpa using k0
          refine AW.gg ?_ (by simp only [go_sem, ↓reduceIte, e0, b1] <;> rfl)
          refine AW.condF rfl ?_
          rw [if_neg (fun h => k0 h.1)] at hr
          refine AW.go ?_ (by simp only [go_sem, ↓reduceIte, ei] <;> rfl)
          refine AW.finE (.pv _ (.pv _ (.pv _ .nil))) ?_
          rw [← hr]
  · have hge : ¬ i < c.length := by simpa using hc
    rw [List.drop_eq_nil_of_le (by omega), rdv] at hr
    refine AW.go ?_
    refine AW.finE (.pv _ (.pv _ (.pv _ .nil))) ?_
    rw [← hr]; rfl
end Go.Ck

set_option linter.unusedVariables false
namespace Go.Ck
/-- Bytes, the first the greatest. -/
def beN (l : List Nat) : Nat := l.foldl (fun a x => a * 256 + x) 0
theorem beN_snoc (l : List Nat) (x : Nat) : beN (l ++ [x]) = beN l * 256 + x := by simp [beN]
theorem beN_lt (l : List Nat) (h : ∀ x ∈ l, x < 256) : beN l < 256 ^ l.length := by
  have : ∀ (n : Nat) (l : List Nat), l.length = n → (∀ x ∈ l, x < 256) → beN l < 256 ^ n := by
    intro n
    induction n with
    | zero => intro l hl _; rw [List.length_eq_zero_iff.1 hl]; simp [beN]
    | succ n ih =>
      intro l hl h
      have hne : l ≠ [] := by rintro rfl; simp at hl
      rw [← List.dropLast_concat_getLast hne, beN_snoc]
      have h1 := ih l.dropLast (by simp; omega) (fun x hx => h x (List.dropLast_subset l hx))
      have h2 := h _ (List.getLast_mem hne)
      rw [Nat.pow_succ]
      omega
  exact this _ l rfl h
/-- A number in n bytes. -/
def beB (v : Nat) : Nat → List Nat
  | 0 => []
  | n + 1 => (v / 256 ^ n % 256) :: beB v n
theorem beB_len (v n : Nat) : (beB v n).length = n := by induction n with | zero => rfl | succ n ih => simp [beB, ih]
theorem beB_byte (v n : Nat) : ∀ x ∈ beB v n, x < 256 := by
  induction n with
  | zero => simp [beB]
  | succ n ih => intro x hx; rcases List.mem_cons.1 hx with rfl | hx
                 · omega
                 · exact ih x hx
theorem or_lt256 {a x : Nat} (ha : a < 2 ^ 56) (hx : x < 256) : ibits .or .u64 (shlI .u64 (a : Int) 8) (x : Int) = ((a * 256 + x : Nat) : Int) := by
  have h8 : ((8 : Nat) : Int) = 8 := rfl
  have := shlI_nat64 a 8 (by omega)
  rw [h8] at this
  rw [this, show (2 : Nat) ^ 8 = 256 from rfl, Nat.mod_eq_of_lt (by omega), ibits_or64 (by omega) (by omega)]
  congr 1
  have := Nat.two_pow_add_eq_or_of_lt (i := 8) (b := x) (by omega) a
  rw [Nat.mul_comm a, ← this]
/-- The next block: bytes, why not, what is left. -/
def blk (l : List Nat) (m : Nat) : List Nat × Int × List Nat :=
  if (readV l).2.2 ≠ 0 then ([], (readV l).2.2, l) else if m < (readV l).1 then ([], 4, l) else if l.length - (readV l).2.1 < (readV l).1 then ([], 2, l)
  else ((l.drop (readV l).2.1).take (readV l).1, 0, l.drop ((readV l).2.1 + (readV l).1))
end Go.Ck
namespace Go.Ck
theorem rdv_take : ∀ (l : List Nat) (k acc n : Nat), k ≤ 9 → k + n = 10 → rdv k acc (l.take n) = rdv k acc l
  | [], k, acc, n, hk, h => by simp
  | x :: r, k, acc, 0, hk, h => by omega
  | x :: r, k, acc, n + 1, hk, h => by
    rw [List.take_succ_cons]
    simp only [rdv]
    split
    · rfl
    · rename_i h9
      split
      · rw [rdv_take r (k + 1) _ n (by omega) (by omega)]
      · rfl
theorem readV_eq (l : List Nat) : readV l = rdv 0 0 l := rdv_take l 0 0 10 (by omega) (by omega)
theorem beB_succ (v n : Nat) : beB v (n + 1) = (v / 256 ^ n % 256) :: beB v n := rfl
end Go.Ck
