/- What is proved here: parts of the proofs of this seat's statements (a verified evaluator for calls over pure values, its laws, and contracts of functions). No condition. -/
import Derived.Test.YthjibccogjggbaaKt
import Derived.Test.YthjibccogjggbaaKo
set_option linter.all false
set_option linter.unusedVariables false
set_option maxRecDepth 10000
namespace Go.Ck
open Go.Proofs
theorem shr_byte {v j : Nat} (hj : j < 8) : IntKind.u8.wrap (shrI .u64 (v : Int) ((8 * j : Nat) : Int)) = ((v / 256 ^ j % 256 : Nat) : Int) := by
  rw [shrI_nat .u64 v (8 * j) (by show 8 * j ≤ 64; omega), wrap_u8, Nat.pow_mul]

theorem fix_fn (v n : Nat) (hv : v < 2 ^ 64) (hn : n ≤ 8) : Fn Try.prog 23 [] [.pv (.int .u64 v), .pv (.int .i64 n)] (fun rs H' => rs = [.own 5 (bytes (beB v n))] ∧ H' = []) := by
  refine Fn.of_body (fn := Try.f23) (n := 33) (res := [.tmp 4]) (by kernel_rfl) rfl rfl rfl rfl rfl (fun C => ?_)
  refine AW.gg ?_
  refine AW.condF (by simp only [go_sem, ↓reduceIte]; congr 3; simp; omega) ?_
  have hr : n ≤ room := Nat.le_trans hn (le_room 8)
  have hrep : List.replicate n (PV.int .u8 0) = bytes (List.replicate n 0) := by simp [bytes]
  refine AW.go ?_ (by simp only [go_sem, ↓reduceIte, hr, Nat.le_refl, hrep, List.length_replicate] <;> rfl)
  refine AW.loopS (fun a : List Nat × Nat => ⟨33, [(17, .pv (.int .i64 a.2)), (16, .pv (.int .i64 n)), (5, .own 5 (bytes a.1)), (1, .pv (.int .i64 n)), (0, .pv (.int .u64 v))], []⟩) (fun a => a.1 = List.replicate (n - a.2) 0 ++ beB v a.2 ∧ a.2 ≤ n) (fun a => n - a.2) [17, 16, 5, 1, 0] [] (List.replicate n 0, 0) ⟨by simp [beB], Nat.zero_le _⟩ ?_
  rintro ⟨l, i⟩ ⟨hl, hi⟩ K hK
  simp only at hl hi
  have hlen : l.length = n := by rw [hl]; simp [beB_len]; omega
  refine AW.go ?_
  refine AW.cond rfl (fun hc => ?_) (fun hc => ?_)
  · have hlt : i < n := by simpa using hc
    have e0 : IntKind.i64.wrap (IntKind.i64.wrap ((n : Int) - 1) - (i : Int)) = ((n - 1 - i : Nat) : Int) := by
      rw [wrap_i64_of (n := (n : Int) - 1) (by omega) (by omega), wrap_i64_of (by omega) (by omega)]; omega
    have e1 : IntKind.i64.wrap (8 * (i : Int)) = ((8 * i : Nat) : Int) := by rw [wrap_i64_of (by omega) (by omega)]; omega
    have e3 := shr_byte (v := v) (j := i) (by omega)
    have e4 : IntKind.i64.wrap ((i : Int) + 1) = ((i + 1 : Nat) : Int) := wrap_i64_succ (by omega)
    have hlt2 : n - 1 - i < l.length := by omega
    have hget := bytes_get hlt2
    refine AW.go ?_ (by simp only [go_sem, ↓reduceIte, e0, e1, e3, e4, hlt2, hget, bytes_set] <;> rfl)
    refine AW.again hK (l.set (n - 1 - i) (v / 256 ^ i % 256), i + 1) ⟨?_, hlt⟩ (by simp only; omega)
    simp only
    rw [hl, beB_succ, show n - i = (n - (i + 1)) + 1 by omega, List.replicate_succ', List.append_assoc, show n - 1 - i = n - (i + 1) by omega, List.set_append_right _ _ (by simp)]
    simp
  · have hge : ¬ i < n := by simpa using hc
    refine AW.go ?_
    refine AW.finE (.move rfl .nil) ?_
    have : i = n := by omega
    rw [hl, this]; simp

theorem refAppend_fn (b : List Nat) (v : Nat) (hv : v < 2 ^ 64) (hl : b.length + 10 ≤ room) : Fn Try.prog 29 [] [.pv (.sl 1 (bytes b)), .pv (.int .u64 v)] (fun rs H' => rs = [.own 5 (bytes (b ++ leb v))] ∧ H' = []) := by
  refine Fn.of_body (fn := Try.f29) (n := 26) (res := [.tmp 4]) (by kernel_rfl) rfl rfl rfl rfl rfl (fun C => ?_)
  have hb0 : b.length ≤ room := by omega
  refine AW.go ?_ (by simp only [go_sem, ↓reduceIte, hb0, Nat.zero_add, List.nil_append] <;> rfl)
  have hlen := leb_len10 hv
  refine AW.loopS (fun a : List Nat × Nat => ⟨26, [(5, .own 5 (bytes a.1)), (1, .pv (.int .u64 a.2))], []⟩) (fun a => a.1 ++ leb a.2 = b ++ leb v ∧ a.2 < 2 ^ 64) (fun a => a.2) [5, 1] [] (b, v) ⟨rfl, hv⟩ ?_
  rintro ⟨o, u⟩ ⟨ho, hu⟩ K hK
  simp only at ho hu
  have hol : o.length + (leb u).length = b.length + (leb v).length := by rw [← List.length_append, ho, List.length_append]
  have hup := leb_pos u
  have ho1 : o.length + 1 ≤ room := by omega
  have e128 : IntKind.u64.wrap (Int.tdiv (u : Int) 128) = ((u / 128 : Nat) : Int) := by rw [show Int.tdiv (u : Int) 128 = ((u / 128 : Nat) : Int) from rfl, wrap_u64_lt (by omega)]
  refine AW.go ?_ (by simp only [go_sem, ↓reduceIte, e128] <;> rfl)
  refine AW.cond rfl (fun hc => ?_) (fun hc => ?_)
  · have hge : ¬ u < 128 := by simp at hc; omega
    have e1 : IntKind.u8.wrap (IntKind.u8.wrap (Int.tmod (u : Int) 128) + 128) = ((u % 128 + 128 : Nat) : Int) := by
      rw [show Int.tmod (u : Int) 128 = ((u % 128 : Nat) : Int) from rfl, wrap_u8_lt (by omega)]
      exact wrap_u8_lt (n := u % 128 + 128) (by omega)
    refine AW.go ?_ (by simp only [go_sem, ↓reduceIte, e128, e1, bytes_one, ho1] <;> rfl)
    refine AW.again hK (o ++ [u % 128 + 128], u / 128) ⟨?_, by simp only; omega⟩ (by simp only; omega)
    simp only [List.append_assoc, List.singleton_append]
    rw [← leb_ge hge, ho]
  · have hlt : u < 128 := by simp at hc; omega
    have e1 : IntKind.u8.wrap (u : Int) = ((u : Nat) : Int) := wrap_u8_lt (by omega)
    refine AW.go ?_ (by simp only [go_sem, ↓reduceIte, e1, bytes_one, ho1] <;> rfl)
    refine AW.finE (.move rfl .nil) ?_
    rw [← ho, leb_lt hlt]

end Go.Ck

set_option linter.unusedVariables false
set_option maxRecDepth 10000
namespace Go.Ck
open Go.Proofs
end Go.Ck

set_option linter.unusedVariables false
set_option maxRecDepth 10000
namespace Go.Ck
open Go.Proofs
theorem ref01Same_fn (a b : List Nat) (hl : a.length ≤ room) : Fn Try.prog 13 [] [.pv (.sl 1 (bytes a)), .pv (.sl 1 (bytes b))] (fun rs H' => rs = [.pv (.bool (decide (a = b)))] ∧ H' = []) := by
  refine Fn.of_body (fn := Try.f13) (n := 26) (res := [.tmp 4]) (by kernel_rfl) rfl rfl rfl rfl rfl (fun C => ?_)
  have hr : room < 2 ^ 62 := by decide
  refine AW.go ?_
  refine AW.cond rfl (fun hc => ?_) (fun hc => ?_)
  · have hne : a ≠ b := by rintro rfl; simp at hc
    refine AW.go ?_
    refine AW.finE (.pv _ .nil) ?_
    rw [decide_eq_false hne]
  have hlen : a.length = b.length := by simp at hc; omega
  refine AW.go ?_
  refine AW.loopS (fun i : Nat => ⟨26, [(5, .pv (.int .i64 i)), (0, .pv (.sl 1 (bytes a))), (1, .pv (.sl 1 (bytes b)))], []⟩) (fun i => i ≤ a.length ∧ a.take i = b.take i) (fun i => a.length - i) [5, 0, 1] [] 0 ⟨Nat.zero_le _, rfl⟩ ?_
  rintro i ⟨hi, ht⟩ K hK
  refine AW.go ?_
  refine AW.cond rfl (fun hc => ?_) (fun hc => ?_)
  · have hlt : i < a.length := by simpa using hc
    have hlt2 : i < b.length := by omega
    have h1 := bytes_get hlt
    have h2 := bytes_get hlt2
    have ei : IntKind.i64.wrap ((i : Int) + 1) = ((i + 1 : Nat) : Int) := wrap_i64_succ (by omega)
    refine AW.go ?_
    refine AW.sr mixed (by decide +kernel) ?_ (by simp only [go_sem, ↓reduceIte, h1, h2] <;> rfl)
    refine AW.go ?_
    refine AW.cond rfl (fun hc => ?_) (fun hc => ?_)
    · have hne : a ≠ b := by rintro rfl; simp at hc
      refine AW.go ?_
      refine AW.finE (.pv _ .nil) ?_
      rw [decide_eq_false hne]
    · have he : a[i] = b[i] := by simp at hc; omega
      refine AW.go ?_ (by simp only [go_sem, ↓reduceIte, ei] <;> rfl)
      refine AW.again hK (i + 1) ⟨hlt, ?_⟩ (by omega)
      rw [List.take_succ_eq_append_getElem hlt, List.take_succ_eq_append_getElem hlt2, ht, he]
  · have hge : ¬ i < a.length := by simpa using hc
    rw [List.take_of_length_le (by omega), List.take_of_length_le (by omega)] at ht
    refine AW.go ?_
    refine AW.finE (.pv _ .nil) ?_
    rw [decide_eq_true ht]

end Go.Ck

set_option linter.unusedVariables false
set_option maxRecDepth 100000
set_option maxHeartbeats 400000
namespace Go.Ck
open Go.Proofs
theorem xor_zero_iff (x y : Nat) : x ^^^ y = 0 ↔ x = y := ⟨fun h => by
    have h2 : x ^^^ y ^^^ y = 0 ^^^ y := by rw [h]
    rw [Nat.xor_assoc, Nat.xor_self, Nat.xor_zero, Nat.zero_xor] at h2; exact h2, fun h => by rw [h, Nat.xor_self]⟩
theorem hSame_fn (a b : List Nat) (ha : ∀ x ∈ a, x < 256) (hb : ∀ x ∈ b, x < 256) (hl : a.length < 2 ^ 62) : Fn Try.prog 70 [] [.pv (.sl 1 (bytes a)), .pv (.sl 1 (bytes b))] (fun rs H' => rs = [.pv (.bool (decide (a = b)))] ∧ H' = []) := by
  refine Fn.of_body (fn := Try.f70) (n := 31) (res := [.tmp 4]) (by kernel_rfl) rfl rfl rfl rfl rfl (fun C => ?_)
  by_cases hlen : a.length = b.length
  rotate_left
  · have d1 : ((a.length : Int) != (b.length : Int)) = true := by simp; omega
    have d2 : (a.length != b.length) = true := by simp; omega
    rw [show decide (a = b) = false from decide_eq_false (fun h => hlen (by rw [h]))]
    refine AW.go ?_ (by simp only [go_sem, ↓reduceIte, d1, d2] <;> rfl)
    refine AW.condT rfl ?_
    refine AW.go ?_
    refine AW.finE (.pv _ .nil) rfl
  have d1 : ((a.length : Int) != (b.length : Int)) = false := by simp; omega
  have d2 : (a.length != b.length) = false := by simp; omega
  refine AW.go ?_ (by simp only [go_sem, ↓reduceIte, d1, d2] <;> rfl)
  refine AW.condF rfl ?_
  refine AW.go ?_
  refine AW.loopS (fun p : Nat × Nat => ⟨31, [(14, .pv (.int .i64 p.1)), (0, .pv (.sl 1 (bytes a))), (1, .pv (.sl 1 (bytes b))), (5, .pv (.int .u8 p.2)), (13, .pv (.int .i64 a.length))], []⟩) (fun p => p.1 ≤ a.length ∧ p.2 < 256 ∧ (p.2 = 0 ↔ a.take p.1 = b.take p.1)) (fun p => a.length - p.1) [14, 0, 1, 5, 13] [] (0, 0) ⟨Nat.zero_le _, by decide, by simp⟩ ?_
  rintro ⟨i, d⟩ ⟨hi, hd, hdi⟩ K hK
  simp only at hi hd hdi
  refine AW.go ?_
  refine AW.cond rfl (fun hc => ?_) (fun hc => ?_)
  rotate_left
  · have hge : i = a.length := by have := of_decide_eq_false hc; omega
    subst hge
    rw [List.take_length, hlen, List.take_length] at hdi
    have hfin : ((d : Int) == 0) = decide (a = b) := by
      by_cases h : d = 0
      · rw [decide_eq_true (hdi.1 h), h]; rfl
      · rw [decide_eq_false (fun hh => h (hdi.2 hh))]
        simpa using h
    have hfin2 : (d == 0) = decide (a = b) := by
      by_cases h : d = 0
      · rw [decide_eq_true (hdi.1 h), h]; rfl
      · rw [decide_eq_false (fun hh => h (hdi.2 hh))]
        simpa using h
    refine AW.go ?_ (by simp only [go_sem, ↓reduceIte, hfin, hfin2] <;> rfl)
    refine AW.finE (.pv _ .nil) rfl
  have hlt : i < a.length := by have := of_decide_eq_true hc; omega
  have hlt2 : i < b.length := by omega
  obtain ⟨x, hx⟩ : ∃ x, a[i]? = some x := ⟨a[i], List.getElem?_eq_getElem hlt⟩
  obtain ⟨y, hy⟩ : ∃ y, b[i]? = some y := ⟨b[i], List.getElem?_eq_getElem hlt2⟩
  have hx8 := ha x (List.mem_of_getElem? hx)
  have hy8 := hb y (List.mem_of_getElem? hy)
  have gx := bytes_getS hx
  have gy := bytes_getS hy
  have g4 := ibits_xor8 (a := x) (b := y) hx8 hy8
  have hxy : x ^^^ y < 256 := Nat.xor_lt_two_pow (n := 8) hx8 hy8
  have g5 := ibits_or8 (a := d) (b := x ^^^ y) hd hxy
  have e6 : IntKind.i64.wrap ((i : Int) + 1) = ((i + 1 : Nat) : Int) := wrap_i64_succ (by omega)
  refine AW.go ?_
  refine AW.sr mixed (by decide +kernel) ?_ (by simp only [go_sem, ↓reduceIte, gx, gy, g4, g5] <;> rfl)
  refine AW.go ?_ (by simp only [go_sem, ↓reduceIte, e6] <;> rfl)
  refine AW.again hK (i + 1, d ||| (x ^^^ y)) (by
    refine ⟨by simp only; omega, Nat.or_lt_two_pow (n := 8) hd hxy, ?_⟩
    simp only
    rw [List.take_add_one, List.take_add_one, hx, hy, Nat.or_eq_zero_iff, hdi, xor_zero_iff]
    simp only [Option.toList_some]
    constructor
    · rintro ⟨h1, h2⟩; rw [h1, h2]
    · intro h
      have := List.append_inj h (by simp; omega)
      exact ⟨this.1, by simpa using this.2⟩) (by simp; omega)

theorem hCheck_fn (key m tag : List Nat) (hkb : ∀ x ∈ key, x < 256) (hkl : key.length < 2 ^ 58) (hl : m.length < 2 ^ 58) (ht : ∀ x ∈ tag, x < 256) : Fn Try.prog 50 [] [.pv (.sl 1 (bytes key)), .pv (.sl 1 (bytes m)), .pv (.sl 1 (bytes tag))] (fun rs H' => rs = [.pv (.bool (decide (hmac key m = tag)))] ∧ H' = []) := by
  refine Fn.of_body (fn := Try.f50) (n := 12) (res := [.tmp 6]) (by kernel_rfl) rfl rfl rfl rfl rfl (fun C => ?_)
  refine AW.go ?_
  refine AW.callE (fun _ => 0) (mac_fn key m hkb hkl hl) (.pv _ (.pv _ .nil)) ?_
  refine AW.go ?_
  refine AW.callE (fun _ => 0) (hSame_fn _ tag (hmac_lt key m) ht (by rw [hmac_len]; decide)) (.pv _ (.pv _ .nil)) ?_
  refine AW.go ?_
  refine AW.finE (.pv _ .nil) rfl

theorem xpad_fn (key : List Nat) (x : Nat) (hkb : ∀ y ∈ key, y < 256) (hx : x < 256) (hkl : key.length < 2 ^ 30) : Fn Try.prog 73 [] [.pv (.sl 1 (bytes key)), .pv (.int .u8 x)] (fun rs H' => rs = [.own 5 (bytes (xorK (kpad key) x))] ∧ H' = []) := by
  refine Fn.of_body (fn := Try.f73) (n := 34) (res := [.tmp 4]) (by kernel_rfl) rfl rfl rfl rfl rfl (fun C => ?_)
  have hroom : room = 140737488355328 := rfl
  have hkp : kpad key = kof key ++ List.replicate (64 - (kof key).length) 0 := rfl
  have hko := kof_len key
  have hkob := kof_lt hkb
  have hpl := kpad_len key
  refine AW.go ?_
  refine AW.joinS (fun _ : Unit => ⟨34, [(5, .pv (.sl 1 (bytes (kof key)))), (1, .pv (.int .u8 x))], []⟩) (fun _ => True) [5, 1] [] ?_ ?_
  · intro K hK
    refine AW.cond rfl (fun hc => ?_) (fun hc => ?_)
    · have hlt : 64 < key.length := by have := of_decide_eq_true hc; omega
      have hko : kof key = sha key := if_pos hlt
      refine AW.go ?_
      refine AW.callE (fun _ => 0) (sum13_fn key (by omega)) (.pv _ .nil) ?_
      refine AW.freeze (p := .slot 14) (by simp only [go_sem, ↓reduceIte, freeze, freezeO] <;> rfl) ?_
      refine AW.go ?_
      exact AW.meet hK () trivial (by simp only [go_sem, ↓reduceIte]) (by simp only [go_sem, ↓reduceIte, hko] <;> rfl)
    · have hlt : ¬ 64 < key.length := by have := of_decide_eq_false hc; omega
      have hko : kof key = key := if_neg hlt
      refine AW.go ?_
      exact AW.meet hK () trivial (by simp only [go_sem, ↓reduceIte]) (by simp only [go_sem, ↓reduceIte, hko] <;> rfl)
  rintro _ -
  generalize kof key = k at *
  generalize kpad key = kp at *
  refine AW.go ?_
  refine AW.loopS (fun i : Nat => ⟨34, [(7, .pv (.int .i64 i)), (5, .pv (.sl 1 (bytes k))), (1, .pv (.int .u8 x)), (6, .own 5 (bytes (xorK (kp.take i) x)))], []⟩) (fun i => i ≤ 64) (fun i => 64 - i) [7, 5, 1, 6] [] 0 (Nat.zero_le _) ?_
  rintro i hi K hK
  refine AW.go ?_
  refine AW.cond rfl (fun hc => ?_) (fun hc => ?_)
  rotate_left
  · have hge : i = 64 := by have := of_decide_eq_false hc; omega
    subst hge
    rw [List.take_of_length_le (by omega)]
    refine AW.go ?_
    refine AW.finE (.move rfl .nil) rfl
  have hlt : i < 64 := by have := of_decide_eq_true hc; omega
  have e6 : IntKind.i64.wrap ((i : Int) + 1) = ((i + 1 : Nat) : Int) := wrap_i64_succ (by omega)
  obtain ⟨a, ha⟩ : ∃ a, kp[i]? = some a := ⟨kp[i], List.getElem?_eq_getElem (by omega)⟩
  have hst : xorK (kp.take i) x ++ [a ^^^ x] = xorK (kp.take (i + 1)) x := by rw [List.take_add_one, ha]; simp [xorK]
  have hxl : (xorK (kp.take i) x).length = i := by simp [xorK]; omega
  have hap : a < 256 ∧ a = if i < k.length then k.getD i 0 else 0 := by
    rw [hkp] at ha
    by_cases h : i < k.length
    · rw [List.getElem?_append_left h] at ha
      refine ⟨hkob a (List.mem_of_getElem? ha), ?_⟩
      rw [if_pos h, List.getD, ha]; rfl
    · rw [List.getElem?_append_right (by omega), List.getElem?_replicate] at ha
      split at ha
      · cases ha; exact ⟨by decide, by rw [if_neg h]⟩
      · cases ha
  have g4 := ibits_xor8 (a := a) (b := x) hap.1 hx
  have r1 : ((xorK (kp.take i) x).length + 1 ≤ room) = True := eq_true (by omega)
  refine AW.go ?_
  refine AW.joinS (fun _ : Unit => ⟨34, [(7, .pv (.int .i64 i)), (5, .pv (.sl 1 (bytes k))), (1, .pv (.int .u8 x)), (6, .own 5 (bytes (xorK (kp.take i) x))), (8, .pv (.int .u8 a))], []⟩) (fun _ => True) [7, 5, 1, 6, 8] [] ?_ ?_
  · intro K2 hK2
    refine AW.cond rfl (fun hc2 => ?_) (fun hc2 => ?_)
    · have h : i < k.length := by have := of_decide_eq_true hc2; omega
      have hg : (bytes k)[i]? = some (.int .u8 (a : Int)) := by
        refine bytes_getS ?_
        rw [hap.2, if_pos h, List.getD, List.getElem?_eq_getElem h]; rfl
      refine AW.go ?_ (by simp only [go_sem, ↓reduceIte, hg] <;> rfl)
      exact AW.meet hK2 () trivial
    · have h : ¬ i < k.length := by have := of_decide_eq_false hc2; omega
      have ha0 : a = 0 := by rw [hap.2, if_neg h]
      refine AW.go ?_
      exact AW.meet hK2 () trivial (by simp only [go_sem, ↓reduceIte]) (by simp only [go_sem, ↓reduceIte, ha0] <;> rfl)
  rintro _ -
  refine AW.go ?_ (by simp only [go_sem, ↓reduceIte, g4, r1, bytes_snoc, e6] <;> rfl)
  exact AW.again hK (i + 1) (by omega) (by omega) (hs := by simp only [go_sem, ↓reduceIte, hst] <;> rfl)

theorem mac14_fn (key m : List Nat) (hkb : ∀ y ∈ key, y < 256) (hkl : key.length < 2 ^ 29) (hm : m.length < 2 ^ 29) : Fn Try.prog 52 [] [.pv (.sl 1 (bytes key)), .pv (.sl 1 (bytes m))] (fun rs H' => rs = [.own 5 (bytes (hmac key m))] ∧ H' = []) := by
  refine Fn.of_body (fn := Try.f52) (n := 16) (res := [.tmp 4]) (by kernel_rfl) rfl rfl rfl rfl rfl (fun C => ?_)
  have hroom : room = 140737488355328 := rfl
  have l54 : (xorK (kpad key) 54).length = 64 := by rw [xorK_len, kpad_len]
  have l92 : (xorK (kpad key) 92).length = 64 := by rw [xorK_len, kpad_len]
  have hh : hmac key m = sha (xorK (kpad key) 92 ++ sha (xorK (kpad key) 54 ++ m)) := rfl
  rw [hh]
  have f1 := xpad_fn key 54 hkb (by decide) (by omega)
  have f2 := xpad_fn key 92 hkb (by decide) (by omega)
  generalize xorK (kpad key) 54 = a at *
  generalize xorK (kpad key) 92 = b at *
  have r1 : (a.length + m.length ≤ room) = True := eq_true (by omega)
  have hsl := sha_len (a ++ m)
  have r2 : (b.length + (sha (a ++ m)).length ≤ room) = True := eq_true (by omega)
  refine AW.go ?_
  refine AW.callE (fun _ => 0) f1 (.pv _ (.pv _ .nil)) ?_
  refine AW.go ?_ (by simp only [go_sem, ↓reduceIte, r1] <;> rfl)
  refine AW.callE (args := [.pv (.sl 1 (bytes (a ++ m)))]) (fun _ => 0) (sum13_fn (a ++ m) (by rw [List.length_append]; omega)) (.lend rfl co_5 .nil) ?_
  refine AW.go ?_
  refine AW.callE (fun _ => 0) f2 (.pv _ (.pv _ .nil)) ?_
  refine AW.go ?_ (by simp only [go_sem, ↓reduceIte, r2] <;> rfl)
  refine AW.callE (args := [.pv (.sl 1 (bytes (b ++ sha (a ++ m))))]) (fun _ => 0) (sum13_fn (b ++ sha (a ++ m)) (by rw [List.length_append]; omega)) (.lend rfl co_5 .nil) ?_
  refine AW.go ?_
  refine AW.finE (.move rfl .nil) rfl
theorem check14_fn (key m tag : List Nat) (hkb : ∀ y ∈ key, y < 256) (hkl : key.length < 2 ^ 29) (hm : m.length < 2 ^ 29) : Fn Try.prog 20 [] [.pv (.sl 1 (bytes key)), .pv (.sl 1 (bytes m)), .pv (.sl 1 (bytes tag))] (fun rs H' => rs = [.pv (.bool (decide (hmac key m = tag)))] ∧ H' = []) := by
  refine Fn.of_body (fn := Try.f20) (n := 12) (res := [.tmp 6]) (by kernel_rfl) rfl rfl rfl rfl rfl (fun C => ?_)
  refine AW.go ?_
  refine AW.callE (fun _ => 0) (mac14_fn key m hkb hkl hm) (.pv _ (.pv _ .nil)) ?_
  refine AW.go ?_
  refine AW.callE (args := [.pv (.sl 1 (bytes (hmac key m))), .pv (.sl 1 (bytes tag))]) (fun _ => 0) (ref01Same_fn _ tag (by rw [hmac_len]; exact le_room _)) (.lend rfl co_5 (.pv _ .nil)) ?_
  refine AW.go ?_
  refine AW.finE (.pv _ .nil) rfl
end Go.Ck

set_option linter.unusedVariables false
set_option maxRecDepth 10000
namespace Go.Ck
open Go.Proofs
theorem refBlocked_fn (l : List Nat) (hl : l.length + 20 ≤ room) : Fn Try.prog 30 [] [.pv (.sl 1 (bytes l))] (fun rs H' => rs = [.own 5 (bytes (leb l.length ++ l))] ∧ H' = []) := by
  refine Fn.of_body (fn := Try.f30) (n := 9) (res := [.tmp 2]) (by kernel_rfl) rfl rfl rfl rfl rfl (fun C => ?_)
  have hr : room < 2 ^ 63 := by decide
  have hu : IntKind.u64.wrap (l.length : Int) = (l.length : Int) := wrap_u64_lt (by omega)
  refine AW.go ?_ (by simp only [go_sem, ↓reduceIte, hu] <;> rfl)
  refine AW.callE (fun _ => 0) (refAppend_fn [] l.length (by omega) (by simp; omega)) (.nilsP 1 (.pv _ .nil)) ?_
  have h10 := leb_len10 (v := l.length) (by omega)
  have hs : (leb l.length).length + l.length ≤ room := by omega
  refine AW.go ?_ (by simp only [go_sem, ↓reduceIte, List.nil_append, hs] <;> rfl)
  refine AW.finE (.move rfl .nil) rfl
end Go.Ck

set_option linter.unusedVariables false
namespace Go.Ck
/-- How many bits a number needs. -/
def blen (v : Nat) : Nat := if v = 0 then 0 else blen (v / 2) + 1
termination_by v
decreasing_by omega
theorem blen_zero : blen 0 = 0 := by rw [blen]; simp
theorem blen_pos {v : Nat} (h : v ≠ 0) : blen v = blen (v / 2) + 1 := by rw [blen, if_neg h]
theorem blen_le {v n : Nat} : blen v ≤ n ↔ v < 2 ^ n := by
  induction n generalizing v with
  | zero =>
    by_cases h : v = 0
    · subst h; simp [blen_zero]
    · rw [blen_pos h]; simp; omega
  | succ n ih =>
    by_cases h : v = 0
    · subst h; simp [blen_zero, Nat.two_pow_pos]
    · rw [blen_pos h, Nat.add_le_add_iff_right, ih, Nat.div_lt_iff_lt_mul (by omega), Nat.pow_succ]
theorem blen_shift (k : Nat) : ∀ {v : Nat}, 2 ^ k ≤ v → blen v = k + blen (v / 2 ^ k) := by
  induction k with
  | zero => intro v _; simp
  | succ k ih =>
    intro v h
    have hp : 2 ^ (k + 1) = 2 ^ k * 2 := Nat.pow_succ ..
    have hpos := Nat.two_pow_pos k
    rw [blen_pos (by omega), ih (v := v / 2) (by omega), Nat.div_div_eq_div_mul, hp, Nat.mul_comm 2]
    omega
def binN (l : List Nat) : Nat := l.foldl (fun a x => a * 2 + x) 0
end Go.Ck
namespace Go.Ck
def bl8 (n : Nat) : Nat := if n < 1 then 0 else if n < 2 then 1 else if n < 4 then 2 else if n < 8 then 3 else if n < 16 then 4 else if n < 32 then 5 else if n < 64 then 6 else if n < 128 then 7 else 8
theorem blen_bl8 {n : Nat} (h : n < 256) : blen n = bl8 n := by
  have h0 := blen_le (v := n) (n := 0)
  have h1 := blen_le (v := n) (n := 1)
  have h2 := blen_le (v := n) (n := 2)
  have h3 := blen_le (v := n) (n := 3)
  have h4 := blen_le (v := n) (n := 4)
  have h5 := blen_le (v := n) (n := 5)
  have h6 := blen_le (v := n) (n := 6)
  have h7 := blen_le (v := n) (n := 7)
  have h8 := blen_le (v := n) (n := 8)
  simp only [Nat.reducePow] at h0 h1 h2 h3 h4 h5 h6 h7 h8
  unfold bl8
  repeat' split
  all_goals omega
theorem bl8_le (n : Nat) : bl8 n ≤ 8 := by
  unfold bl8
  repeat' split
  all_goals omega
end Go.Ck
namespace Go.Ck
end Go.Ck
namespace Go.Ck
/-- So many bits from a place on, as a number. -/
def getB (l : List Nat) (k n : Nat) : Nat := binN ((l.drop k).take n)
end Go.Ck
namespace Go.Ck
end Go.Ck
namespace Go.Ck
end Go.Ck

set_option linter.unusedVariables false
namespace Go.Ck
def plc (v : Nat) : List Nat → Nat → Int
  | [], _ => -1
  | x :: r, i => if x = v then (i : Int) else plc v r (i + 1)
/-- The patterns that there are, as they come. -/
def ddS (d : List Nat) (x : Nat) : List Nat := if plc x d 0 < 0 then d ++ [x] else d
def dd (xs : List Nat) : List Nat := xs.foldl ddS []
end Go.Ck

set_option linter.unusedVariables false
namespace Go.Ck
def dic (r : List Nat) (u : Nat) : List Nat := (List.range u).map fun i => beN ((r.drop (8 * i)).take 8)
end Go.Ck

set_option linter.unusedVariables false
namespace Go.Ck
end Go.Ck
namespace Go.Ck
end Go.Ck

set_option linter.unusedVariables false
namespace Go.Ck
end Go.Ck

set_option linter.unusedVariables false
namespace Go.Ck
end Go.Ck

set_option linter.unusedVariables false
namespace Go.Ck
end Go.Ck
namespace Go.Ck
end Go.Ck
namespace Go.Ck
end Go.Ck

set_option linter.unusedVariables false
namespace Go.Ck
/-- What differs, or why that is not told; the place behind it; the window behind it. -/
structure GN where
  x : Nat
  e : Int
  k : Nat
  a : Int
  z : Int
def gNy (bs : List Nat) (k : Nat) (a z : Int) : GN :=
  if (a = -1 ∧ z = 0) ∨ z < 0 then ⟨0, 3, k, a, z⟩
  else if k + (64 - a - z).toNat ≤ bs.length then ⟨getB bs k (64 - a - z).toNat * 2 ^ z.toNat % 2 ^ 64, 0, k + (64 - a - z).toNat, a, z⟩ else ⟨0, 2, k, a, z⟩
def gNx (bs : List Nat) (k : Nat) (a z : Int) : GN :=
  if bs.length < k + 1 then ⟨0, 2, k, a, z⟩
  else if getB bs k 1 = 0 then ⟨0, 0, k + 1, a, z⟩
  else if bs.length < k + 2 then ⟨0, 2, k + 1, a, z⟩
  else if getB bs (k + 1) 1 = 1 then
    if bs.length < k + 7 then ⟨0, 2, k + 2, a, z⟩
    else if bs.length < k + 13 then ⟨0, 2, k + 7, a, z⟩
    else gNy bs (k + 13) (getB bs (k + 2) 5 : Nat) (63 - (getB bs (k + 2) 5 : Nat) - (getB bs (k + 7) 6 : Nat))
  else gNy bs (k + 2) a z
/-- So many patterns: those so far, why there are no more, the place, the window. -/
structure GS where
  o : List Nat
  e : Int
  k : Nat
  a : Int
  z : Int
def gRs (bs : List Nat) (r : GS) : GS :=
  if r.e ≠ 0 then r
  else if r.o.length = 0 then (if r.k + 64 ≤ bs.length then ⟨[getB bs r.k 64], 0, r.k + 64, r.a, r.z⟩ else ⟨[], 2, r.k, r.a, r.z⟩)
  else ⟨if (gNx bs r.k r.a r.z).e = 0 then r.o ++ [(gNx bs r.k r.a r.z).x ^^^ r.o.getD (r.o.length - 1) 0] else r.o, (gNx bs r.k r.a r.z).e, (gNx bs r.k r.a r.z).k, (gNx bs r.k r.a r.z).a, (gNx bs r.k r.a r.z).z⟩
def gR (bs : List Nat) : Nat → GS
  | 0 => ⟨[], 0, 0, -1, 0⟩
  | n + 1 => gRs bs (gR bs n)
end Go.Ck

set_option linter.unusedVariables false
namespace Go.Ck
def zr (a z : Int) : Int := if a = -1 then -1 else z
/-- The reference's reading, between two rounds. -/
structure RQ where
  i : Nat
  o : List Nat
  rest : List Nat
  bad : Int
  a : Int
  z : Int
def RQ.ok (bs : List Nat) (n : Nat) (q : RQ) : Prop := q.i ≤ n ∧ q.o.length = q.i ∧ (∀ x ∈ q.o, x < 2 ^ 64) ∧ (gR bs q.i).e = q.bad ∧
  (q.bad = 0 → q.o = (gR bs q.i).o ∧ q.rest = bs.drop (gR bs q.i).k ∧ q.a = (gR bs q.i).a ∧ q.z = zr (gR bs q.i).a (gR bs q.i).z)
/-- What fixed reads: the patterns, why not, what is left. -/
def fx (l : List Nat) (n : Nat) : List Nat × Int × List Nat :=
  if 8 * n ≤ l.length then (dic l n, if l.drop (8 * n) = [] then 0 else 3, l.drop (8 * n)) else ([], 2, l.drop (8 * (l.length / 8)))
end Go.Ck

set_option linter.unusedVariables false
namespace Go.Ck
end Go.Ck

set_option linter.unusedVariables false
namespace Go.Ck
theorem foldl_base (b : Nat) : ∀ (l : List Nat) (a : Nat), l.foldl (fun a x => a * b + x) a = a * b ^ l.length + l.foldl (fun a x => a * b + x) 0
  | [], a => by simp
  | x :: r, a => by
    rw [List.foldl_cons, foldl_base b r (a * b + x), List.foldl_cons, foldl_base b r (0 * b + x), List.length_cons, Nat.pow_succ, Nat.zero_mul, Nat.zero_add, Nat.add_mul, Nat.mul_assoc, Nat.mul_comm b (b ^ r.length), Nat.add_assoc]
theorem beN_cons (x : Nat) (l : List Nat) : beN (x :: l) = x * 256 ^ l.length + beN l := by
  have := foldl_base 256 l (0 * 256 + x)
  rw [beN, List.foldl_cons, this, Nat.zero_mul, Nat.zero_add]; rfl
theorem beN_beB (v n : Nat) : beN (beB v n) = v % 256 ^ n := by
  induction n with
  | zero => simp [beB, beN, Nat.mod_one]
  | succ n ih => rw [beB, beN_cons, beB_len, ih, Nat.pow_succ, Nat.mod_mul]; rw [Nat.mul_comm, Nat.add_comm]
theorem rdv_leb (n : Nat) : ∀ (v : Nat), v ≤ n → ∀ (k acc : Nat) (r : List Nat), v * 128 ^ k < 2 ^ 64 → (k = 0 ∨ v ≠ 0) → k ≤ 9 → rdv k acc (leb v ++ r) = (acc + v * 128 ^ k, k + (leb v).length, 0) := by
  induction n using Nat.strongRecOn with
  | _ n ih =>
    intro v hv k acc r hlt h0 hk
    have h9 : k = 9 → v < 2 := by
      rintro rfl
      have : v * 128 ^ 9 < 2 * 128 ^ 9 := by omega
      exact Nat.lt_of_mul_lt_mul_right this
    by_cases h : v < 128
    · rw [leb_lt h, List.singleton_append, rdv, if_neg (by omega), if_neg (by omega), if_neg (by omega)]; rfl
    · rw [leb_ge h, List.cons_append, rdv, if_neg (by omega), if_pos (by omega)]
      have hp : 128 ^ (k + 1) = 128 ^ k * 128 := Nat.pow_succ ..
      have hd : v = v / 128 * 128 + v % 128 := by omega
      have he : v * 128 ^ k = v / 128 * 128 ^ (k + 1) + v % 128 * 128 ^ k := by
        rw [hp, Nat.mul_comm (128 ^ k), ← Nat.mul_assoc, ← Nat.add_mul, ← hd]
      have hk9 : k ≠ 9 := fun e => by have := h9 e; omega
      rw [show (v % 128 + 128) % 128 = v % 128 by omega, ih (v / 128) (by omega) (v / 128) (Nat.le_refl _) (k + 1) _ r (by omega) (.inr (by omega)) (by omega), List.length_cons]
      refine Prod.ext ?_ (Prod.ext ?_ rfl)
      · simp only; omega
      · simp only; omega
theorem readV_leb {v : Nat} (h : v < 2 ^ 64) (r : List Nat) : readV (leb v ++ r) = (v, (leb v).length, 0) := by
  rw [readV_eq, rdv_leb v v (Nat.le_refl _) 0 0 r (by simpa using h) (.inl rfl) (by omega)]
  simp
end Go.Ck

set_option linter.unusedVariables false
namespace Go.Ck
end Go.Ck

set_option linter.unusedVariables false
namespace Go.Ck
end Go.Ck

set_option linter.unusedVariables false
namespace Go.Ck
/-- The lowest bits of an int. -/
theorem and_low (c : Int) (k : Nat) (hk : k ≤ 62) : ∃ m : Nat, m < 2 ^ k ∧ ibits .and .i64 c ((2 ^ k - 1 : Nat) : Int) = (m : Int) := by
  refine ⟨(BitVec.ofInt 64 c).toNat % 2 ^ k, Nat.mod_lt _ (Nat.two_pow_pos k), ?_⟩
  have h1 : 2 ^ k ≤ 2 ^ 62 := Nat.pow_le_pow_right (by omega) hk
  have h0 := Nat.two_pow_pos k
  simp only [ibits, ofInt_nat, BitVec.toNat_and, BitVec.toNat_ofNat]
  rw [show IntKind.i64.bits = 64 from rfl, Nat.mod_eq_of_lt (a := 2 ^ k - 1) (by omega), Nat.and_two_pow_sub_one_eq_mod]
  have h2 := Nat.mod_lt (BitVec.ofInt 64 c).toNat h0
  exact wrap_i64_nat (by omega)
end Go.Ck

set_option linter.unusedVariables false
namespace Go.Ck
def i64r (n : Int) : Prop := -2 ^ 63 ≤ n ∧ n < 2 ^ 63
theorem xor_zero {a : Nat} (h : a < 2 ^ 64) : ibits .xor .u64 (a : Int) 0 = (a : Int) := by
  have := ibits_xor64 (a := a) (b := 0) h (by omega)
  simpa using this
def acc : Int → List Int → List Int
  | _, [] => []
  | p, x :: r => IntKind.i64.wrap (x + p) :: acc (IntKind.i64.wrap (x + p)) r
end Go.Ck
namespace Go.Ck
end Go.Ck

set_option linter.unusedVariables false
namespace Go.Ck
section
variable {α : Type} {D M : List α}
end
end Go.Ck

set_option linter.unusedVariables false
namespace Go.Ck
def lo : List Nat → Nat
  | [] => 0
  | x :: r => r.foldl min x
def hi : List Nat → Nat
  | [] => 0
  | x :: r => r.foldl max x
end Go.Ck

set_option linter.unusedVariables false
namespace Go.Ck
end Go.Ck

set_option linter.unusedVariables false
namespace Go.Ck
end Go.Ck

set_option linter.unusedVariables false
namespace Go.Ck
end Go.Ck
namespace Go.Ck
end Go.Ck
namespace Go.Ck
end Go.Ck
namespace Go.Ck
end Go.Ck

set_option linter.unusedVariables false
namespace Go.Ck
end Go.Ck

set_option linter.unusedVariables false
namespace Go.Ck
end Go.Ck
namespace Go.Ck
end Go.Ck
namespace Go.Ck
end Go.Ck
namespace Go.Ck
end Go.Ck

set_option linter.unusedVariables false
namespace Go.Ck
end Go.Ck
namespace Go.Ck
end Go.Ck

set_option linter.unusedVariables false
namespace Go.Ck
end Go.Ck

set_option linter.unusedVariables false
namespace Go.Ck
end Go.Ck
namespace Go.Ck
end Go.Ck

set_option linter.unusedVariables false
namespace Go.Ck
end Go.Ck

set_option linter.unusedVariables false
namespace Go.Ck
theorem rdv_short : ∀ (l : List Nat) (k acc j : Nat), (rdv k acc l).2.2 = 0 → k + j < (rdv k acc l).2.1 → (rdv k acc (l.take j)).2.2 = 2
  | [], k, acc, j, h, _ => by simp [rdv] at h
  | x :: r, k, acc, 0, h, hj => by rw [List.take_zero]; rfl
  | x :: r, k, acc, j + 1, h, hj => by
    rw [List.take_succ_cons]
    rw [rdv] at h hj ⊢
    split at h
    · simp at h
    · rename_i h1
      rw [if_neg h1] at hj ⊢
      split at h
      · rename_i h2
        rw [if_pos h2] at hj ⊢
        exact rdv_short r (k + 1) _ j h (by omega)
      · rename_i h2
        rw [if_neg h2] at hj ⊢
        split at h
        · simp at h
        · rename_i h3
          rw [if_neg h3] at hj
          simp only at hj
          omega
theorem readV_short {l : List Nat} (h : (readV l).2.2 = 0) {j : Nat} (hj : j < (readV l).2.1) : (readV (l.take j)).2.2 = 2 := by
  rw [readV_eq] at h hj ⊢
  exact rdv_short l 0 0 j h (by omega)
theorem leb_cut {v : Nat} (h : v < 2 ^ 64) (r : List Nat) {j : Nat} (hj : j < (leb v).length) : (readV ((leb v ++ r).take j)).2.2 = 2 := by
  have e := readV_leb h r
  exact readV_short (by rw [e]) (by rw [e]; exact hj)
theorem blk_app {l : List Nat} {m : Nat} (h : l.length ≤ m) (hl : l.length < 2 ^ 64) (r : List Nat) : blk (leb l.length ++ l ++ r) m = (l, 0, r) := by
  unfold blk
  rw [List.append_assoc, readV_leb hl]
  simp only [ne_eq, not_true_eq_false, if_false]
  rw [if_neg (by omega), if_neg (by simp), List.drop_left, List.take_left, ← List.drop_drop, List.drop_left, List.drop_left]
theorem blk_cut {l : List Nat} {m : Nat} (h : l.length ≤ m) (hl : l.length < 2 ^ 64) (r : List Nat) {j : Nat} (hj : j < (leb l.length ++ l).length) : (blk ((leb l.length ++ l ++ r).take j) m).2.1 = 2 := by
  unfold blk
  rw [List.length_append] at hj
  rw [List.append_assoc]
  by_cases h1 : j < (leb l.length).length
  · have := leb_cut hl (l ++ r) h1
    rw [if_pos (by rw [this]; decide), this]
  · have e : (leb l.length ++ (l ++ r)).take j = leb l.length ++ (l ++ r).take (j - (leb l.length).length) := by
      rw [List.take_append, List.take_of_length_le (by omega)]
    rw [e, readV_leb hl]
    simp only [ne_eq, not_true_eq_false, if_false]
    rw [if_neg (by omega), if_pos (by simp; omega)]
theorem blk_byte {l : List Nat} {m : Nat} (hb : ∀ x ∈ l, x < 256) : (∀ x ∈ (blk l m).1, x < 256) ∧ (∀ x ∈ (blk l m).2.2, x < 256) ∧ (blk l m).1.length ≤ l.length ∧ (blk l m).2.2.length ≤ l.length := by
  unfold blk
  split
  · exact ⟨by simp, hb, by simp, Nat.le_refl _⟩
  · split
    · exact ⟨by simp, hb, by simp, Nat.le_refl _⟩
    · split
      · exact ⟨by simp, hb, by simp, Nat.le_refl _⟩
      · exact ⟨fun x hx => hb x (List.mem_of_mem_drop (List.mem_of_mem_take hx)), fun x hx => hb x (List.mem_of_mem_drop hx), by simp; omega, by simp⟩
end Go.Ck

set_option linter.unusedVariables false
namespace Go.Ck
def nb (s : List UInt8) : List Nat := s.map UInt8.toNat
def ub (l : List Nat) : List UInt8 := l.map UInt8.ofNat
theorem nb_len (s : List UInt8) : (nb s).length = s.length := by simp [nb]
theorem nb_byte (s : List UInt8) : ∀ x ∈ nb s, x < 256 := by
  intro x hx
  simp only [nb, List.mem_map] at hx
  obtain ⟨y, _, rfl⟩ := hx
  exact y.toNat_lt
theorem ub_nb (s : List UInt8) : ub (nb s) = s := by
  unfold ub nb
  rw [List.map_map]
  conv => rhs; rw [← List.map_id s]
  exact List.map_congr_left (fun x _ => by simp)
theorem nb_ub {l : List Nat} (h : ∀ x ∈ l, x < 256) : nb (ub l) = l := by
  unfold ub nb
  rw [List.map_map]
  conv => rhs; rw [← List.map_id l]
  refine List.map_congr_left (fun x hx => ?_)
  have := h x hx
  simp only [Function.comp, id]
  show (UInt8.ofNat x).toNat = x
  simp only [UInt8.toNat_ofNat']
  omega
abbrev Sm := Int × Nat
def smOK (xs : List Sm) : Prop := ∀ x ∈ xs, i64r x.1 ∧ x.2 < 2 ^ 64
theorem smOK.v {xs : List Sm} (h : smOK xs) : ∀ x ∈ xs.map Prod.snd, x < 2 ^ 64 := by
  intro x hx
  obtain ⟨y, hy, rfl⟩ := List.mem_map.1 hx
  exact (h y hy).2
theorem take_app {a b : List Nat} {j : Nat} (h : a.length ≤ j) : (a ++ b).take j = a ++ b.take (j - a.length) := by
  rw [List.take_append, List.take_of_length_le h]
end Go.Ck
namespace Go.Ck
def sms (xs : List Sm) : List PV := xs.map fun x => .agg [.int .i64 x.1, .int .u64 (x.2 : Nat)]
def chP (c : List UInt8 × List Sm) : PV := .agg [.str c.1, .sl 2 (sms c.2)]
theorem numsOf_byt (l : List Nat) : numsOf (bytes l) = some (l.map fun n : Nat => (n : Int)) := by
  induction l with
  | nil => rfl
  | cons a r ih => 
    show numsOf (.int .u8 (a : Int) :: bytes r) = _
    rw [numsOf, ih]; rfl
theorem ofNums_ub (l : List Nat) : ofNums (l.map fun n : Nat => (n : Int)) = ub l := by
  unfold ofNums ub
  rw [List.map_map]
  exact List.map_congr_left (fun x _ => by simp)
theorem strBytes_nb (s : List UInt8) : strBytes s = bytes (nb s) := by
  unfold strBytes nb bytes
  rw [List.map_map]; rfl
end Go.Ck

set_option linter.unusedVariables false
set_option maxRecDepth 100000
set_option maxHeartbeats 400000
namespace Go.Ck
open Go.Proofs
theorem AW.absurdC {P : Program} {R : Option Nat} {Φ : Exit → Cx → St → Prop} {e : Exit} {k : List It} {X : Bs → Prop} {s : St} (h : ∀ B, ¬ X B) : AW P R Φ e k (plain X) s := fun B a w ha => absurd ha.1.1.2 (h B)
theorem pieces_fn (key info : List Nat) : Fn Try.prog 99 [] [.pv (.sl 1 (bytes key)), .pv (.sl 1 (bytes info))] (fun rs H' => rs = [.fn 110 [.ptr 2 0, .ptr 3 0]] ∧ H' = [(3, .cells 23 [.pv (.sl 1 (bytes info))]), (2, .cells 23 [.pv (.sl 1 (bytes key))])]) := by
  refine Fn.of_body (fn := Try.f99) (n := 6) (res := [.tmp 4]) (by kernel_rfl) rfl rfl rfl rfl rfl (fun C => ?_)
  refine AW.go ?_
  refine AW.finE (.fn rfl .nil) rfl
theorem pieces_iter (key info : List Nat) (hkb : ∀ x ∈ key, x < 256) (hkl : key.length < 2 ^ 50) (hil : info.length < 2 ^ 50) : Iter Try.prog 110 [.ptr 20 0, .ptr 21 0] [(21, .cells 23 [.pv (.sl 1 (bytes info))]), (20, .cells 23 [.pv (.sl 1 (bytes key))])] (hpcs key info) := by
  refine Iter.of_body (fn := Try.f110) (n := 19) (by kernel_rfl) rfl rfl rfl rfl (fun l X X0 N hY hN => ?_)
  have hN : ∀ B, ¬ X N B := hN.resolve_left (by simp [hpcs])
  have m3 : (3 ≤ maxLen) = True := eq_true (le_maxLen 3)
  refine AW.go ?_
  refine AW.freeze (p := .slot 4) (by simp only [go_sem, ↓reduceIte, freeze, freezeO] <;> rfl) ?_
  refine AW.loopC (n := N) (fun m C s => ∃ i, m = N - i ∧ i ≤ N ∧ C = plain (X i) ∧ keepB [0, 1, 2, 4, 5] [20, 21] s = ⟨19, [(0, .yl l), (1, .ptr 20 0), (2, .ptr 21 0), (4, .pv (.sl 1 (bytes (hpc key info i)))), (5, .pv (.int .u8 (((i + 1) % 256 : Nat) : Int)))], [(20, .cells 23 [.pv (.sl 1 (bytes key))]), (21, .cells 23 [.pv (.sl 1 (bytes info))])]⟩ ∧ keptB none [0, 1, 2, 4, 5] [20, 21] s = true) ⟨0, rfl, Nat.zero_le _, rfl, by simp only [go_sem, ↓reduceIte] <;> rfl, by simp only [go_sem, ↓reduceIte]⟩ ?_
  rintro m C s ⟨i, rfl, hi, rfl, hs, hk⟩
  by_cases hiN : i = N
  · rw [hiN]; exact AW.absurdC hN
  have hlt : i < N := by omega
  obtain ⟨p, hp, hY1⟩ := hY _ hlt
  unfold hpcs at hp
  cases hp
  rw [hpc_flat] at hY1
  have hnx := hpc_flat key info i
  have hpl := hpc_len key info i
  have ei : IntKind.u8.wrap (((i + 1) % 256 : Nat) + 1 : Int) = (((i + 1 + 1) % 256 : Nat) : Int) := by
    rw [show (((i + 1) % 256 : Nat) : Int) + 1 = (((i + 1) % 256 + 1 : Nat) : Int) by omega, wrap_u8]; congr 1; omega
  refine AW.keepB [0, 1, 2, 4, 5] [20, 21] hk hs ?_
  generalize hpc key info i = T at *
  generalize (i + 1) % 256 = kk at *
  refine AW.go ?_ (by simp only [go_sem, ↓reduceIte, freeze, freezeO, m3] <;> rfl)
  refine AW.freeze (p := .slot 13) (by simp only [go_sem, ↓reduceIte, freeze, freezeO] <;> rfl) ?_
  refine AW.callE (args := [.pv (.sl 1 (bytes key)), .pv (.sl 1 (lsP [T, info, [kk]]))]) (fun _ => 0) (all_fn key [T, info, [kk]] hkb (by omega) (by simp; omega) (by simp)) (.pv _ (.pv _ .nil)) ?_
  rw [← hnx] at hY1 ⊢
  refine AW.go ?_
  refine AW.yield hY1 rfl rfl ?_ ?_
  · refine AW.go ?_
    refine AW.condF rfl ?_
    refine AW.go ?_ (by simp only [go_sem, ↓reduceIte, ei] <;> rfl)
    refine AW.stop ⟨N - (i + 1), by omega, i + 1, rfl, by omega, rfl, by simp only [go_sem, ↓reduceIte] <;> rfl, by simp only [go_sem, ↓reduceIte]⟩
  · refine AW.go ?_
    refine AW.condT rfl ?_
    refine AW.go ?_
    exact AW.nil ⟨.inr rfl, .inr rfl⟩
end Go.Ck

set_option linter.unusedVariables false
namespace Go.Ck
def dkInfo (p : Nat) (name : List UInt8) : List Nat := p :: (leb name.length ++ nb name)
def dk (key : List Nat) (p : Nat) (name : List UInt8) : List Nat × Nat :=
  if key.length ≠ 32 then ([], 1) else if 64 < name.length then ([], 4) else (hmac key (dkInfo p name ++ [1]), 0)
theorem dk_lt (key : List Nat) (p : Nat) (name : List UInt8) : ∀ x ∈ (dk key p name).1, x < 256 := by
  unfold dk; split
  · simp
  · split
    · simp
    · exact hmac_lt _ _
theorem dk_len (key : List Nat) (p : Nat) (name : List UInt8) : (dk key p name).1.length ≤ 32 := by
  unfold dk; split
  · simp
  · split
    · simp
    · simp [hmac_len]
end Go.Ck
namespace Go.Ck
theorem bytes_consC (x : Nat) (l : List Nat) : PV.int .u8 (x : Int) :: bytes l = bytes (x :: l) := rfl
theorem dkInfo_eq (p : Nat) (name : List UInt8) : dkInfo p name = p :: (leb name.length ++ nb name) := rfl
end Go.Ck

set_option linter.unusedVariables false
set_option maxRecDepth 100000
set_option maxHeartbeats 400000
namespace Go.Ck
open Go.Proofs
attribute [go_sem] putParams keptH allNames pickH
theorem expand_fn (key info : List Nat) (hkb : ∀ x ∈ key, x < 256) (hkl : key.length < 2 ^ 50) (hil : info.length < 2 ^ 50) : Fn Try.prog 81 [] [.pv (.sl 1 (bytes key)), .pv (.sl 1 (bytes info)), .pv (.int .i64 32)] (fun rs H' => rs = [.pv (.sl 1 (bytes (hmac key (info ++ [1])))), .pv (.int .i64 0)] ∧ H' = []) := by
  refine Fn.of_bodyR (fn := Try.f81) (n := 34) (res := [.tmp 6, .tmp 7]) (by kernel_rfl) rfl rfl rfl rfl rfl (fun C => ?_)
  have hroom : room = 140737488355328 := rfl
  rw [← hpc_1]
  have hpl := hpc_1len key info
  refine AW.gg ?_
  refine AW.condF rfl ?_
  refine AW.go ?_
  refine AW.condF rfl ?_
  refine AW.go ?_
  refine AW.callE (fun o => if o = 2 then 20 else 21) (pieces_fn key info) (.pv _ (.pv _ .nil)) ?_
  refine AW.go ?_
  have hI := pieces_iter key info hkb hkl hil
  refine AW.rangeFunc [5, 8] [5, 8] (fun i hp => i = 0 ∧ hp = [(5, .cells 3 [.pv (.int .i64 32)]), (8, .cells 23 [.own 5 []])]) (fun j hp => j = .exit 0 ∧ hp = [(5, .cells 3 [.pv (.int .i64 32)]), (8, .cells 23 [.own 5 (bytes (hpc key info 1))])]) 1 hI rfl (by simp only [go_sem, ↓reduceIte]) (by simp only [go_sem, ↓reduceIte]) (by simp only [go_sem, ↓reduceIte]) (by simp only [go_sem, ↓reduceIte] <;> rfl) rfl rfl rfl rfl ⟨rfl, rfl⟩ ?_ ?_ (.inr ?_) ?_ ?_ ?_
  · intro i p hp
    unfold hpcs at hp; cases hp; rfl
  · intro i hi
    exact ⟨_, rfl⟩
  · rintro hp ⟨h, _⟩; cases h
  · intro i p hi hp
    have h0 : i = 0 := by omega
    subst h0
    unfold hpcs at hp; cases hp
    simp only [Nat.zero_add]
    generalize hpc key info 1 = T at *
    rintro _ ⟨_, rfl⟩ l C1
    refine AW.go ?_ (by simp only [go_sem, ↓reduceIte, putParams] <;> rfl)
    refine AW.nil ⟨rfl, rfl, fun C2 => ?_⟩
    have r1 : (T.length ≤ room) = True := eq_true (by omega)
    refine AW.go ?_ (by simp only [go_sem, ↓reduceIte, List.length_nil, Nat.zero_add, List.nil_append, r1] <;> rfl)
    have d1 : decide ((T.length : Int) ≥ 32) = true := decide_eq_true (by omega)
    refine AW.cond rfl (fun hc => ?_) (fun hc => ?_)
    rotate_left
    · exfalso; rw [d1] at hc; cases hc
    refine AW.go ?_
    refine AW.nil ⟨rfl, by simp only [go_sem, ↓reduceIte], by simp only [go_sem, ↓reduceIte], .inr ⟨_, rfl, rfl, by simp only [go_sem, ↓reduceIte] <;> rfl⟩⟩
  · rintro hp h; unfold hpcs at h; cases h
  · rintro j hp ⟨rfl, rfl⟩
    generalize hpc key info 1 = T at *
    have nc32 : ((32 : Nat) : Int) = 32 := rfl
    refine AW.go ?_ (by simp only [go_sem, ↓reduceIte, hpl, nc32, Int.reduceLE] <;> rfl)
    have hy : bytes T = ((bytes T).drop 0).take 32 := by rw [List.drop_zero, List.take_of_length_le (by rw [bytes_length]; omega)]
    refine AW.finR (.inr rfl) (.inr rfl) (by simp only [go_sem, ↓reduceIte, retsV] <;> rfl) (.lendV rfl co_5 hy (.pv _ .nil)) (H' := []) (by simp only [go_sem, ↓reduceIte]) (by simp only [go_sem, ↓reduceIte]) (by simp only [go_sem, ↓reduceIte]) ⟨rfl, rfl⟩

theorem derive_fn (key : List Nat) (p : Nat) (name : List UInt8) (hkb : ∀ x ∈ key, x < 256) (hp : p < 256) (hnl : name.length ≤ maxLen) : Fn Try.prog 68 [] [.pv (.sl 1 (bytes key)), .pv (.int .u8 p), .pv (.str name)] (fun rs H' => rs = [.pv (.sl 1 (bytes (dk key p name).1)), .pv (.int .i64 (dk key p name).2)] ∧ H' = []) := by
  refine Fn.of_body (fn := Try.f68) (n := 28) (res := [.tmp 6, .tmp 7]) (by kernel_rfl) rfl rfl rfl rfl rfl (fun C => ?_)
  have hroom : room = 140737488355328 := rfl
  have hml : maxLen < 2 ^ 63 := by unfold maxLen; decide
  unfold dk
  by_cases h1 : key.length = 32
  rotate_left
  · have d1 : ((key.length : Int) != 32) = true := by simp; omega
    have d2 : (key.length != 32) = true := by simp; omega
    rw [if_pos h1]
    refine AW.go ?_ (by simp only [go_sem, ↓reduceIte, d1, d2] <;> rfl)
    refine AW.condT rfl ?_
    refine AW.go ?_
    refine AW.finE (.lend rfl co_5 (.pv _ .nil)) rfl
  have hkl : key.length < 2 ^ 50 := by omega
  have d1 : ((key.length : Int) != 32) = false := by simp; omega
  have d2 : (key.length != 32) = false := by simp; omega
  rw [if_neg (by simp; omega)]
  refine AW.go ?_ (by simp only [go_sem, ↓reduceIte, d1, d2] <;> rfl)
  refine AW.condF rfl ?_
  refine AW.go ?_
  refine AW.cond rfl (fun hc => ?_) (fun hc => ?_)
  · have h2 : 64 < name.length := by have := of_decide_eq_true hc; omega
    rw [if_pos h2]
    refine AW.go ?_
    refine AW.finE (.lend rfl co_5 (.pv _ .nil)) rfl
  have h2 : ¬ 64 < name.length := by have := of_decide_eq_false hc; omega
  rw [if_neg h2]
  refine AW.go ?_
  refine AW.ofStr hnl tk_9 tk_23 tk_5 ?_
  rw [strBytes_nb]
  have hnb : (nb name).length = name.length := by simp [nb]
  have l10 := leb_len10 (v := name.length) (by omega)
  refine AW.go ?_
  refine AW.callE (fun _ => 0) (block_fn (nb name) (by omega)) (.pv _ .nil) ?_
  rw [hnb]
  have hLl : (leb name.length ++ nb name).length ≤ 100 := by rw [List.length_append]; omega
  have hdk := dkInfo_eq p name
  generalize leb name.length ++ nb name = L at *
  have r1 : (1 + L.length ≤ room) = True := eq_true (by omega)
  have hil : (dkInfo p name).length < 2 ^ 50 := by rw [hdk, List.length_cons]; omega
  refine AW.goM 3 ?_ (by simp only [go_sem, ↓reduceIte, List.length_cons, List.length_nil, Nat.zero_add, r1, bytes_consC, ← hdk] <;> rfl)
  generalize dkInfo p name = info at *
  refine AW.freeze (p := .slot 22) (by simp only [go_sem, ↓reduceIte, freeze, freezeO] <;> rfl) ?_
  refine AW.go ?_
  refine AW.callE (fun _ => 0) (expand_fn key info hkb hkl hil) (.pv _ (.pv _ (.pv _ .nil))) ?_
  refine AW.go ?_
  refine AW.finE (.pv _ (.pv _ .nil)) rfl
theorem keyM_fn (key : List Nat) (hkb : ∀ x ∈ key, x < 256) : Fn Try.prog 47 [] [.pv (.sl 1 (bytes key))] (fun rs H' => rs = [.pv (.sl 1 (bytes (dk key 4 []).1)), .pv (.int .i64 (dk key 4 []).2)] ∧ H' = []) := by
  refine Fn.of_body (fn := Try.f47) (n := 8) (res := [.tmp 2, .tmp 3]) (by kernel_rfl) rfl rfl rfl rfl rfl (fun C => ?_)
  refine AW.go ?_
  refine AW.callE (args := [.pv (.sl 1 (bytes key)), .pv (.int .u8 ((4 : Nat) : Int)), .pv (.str [])]) (fun _ => 0) (derive_fn key 4 [] hkb (by decide) (Nat.zero_le _)) (.pv _ (.pv _ (.pv _ .nil))) ?_
  refine AW.go ?_
  refine AW.finE (.pv _ (.pv _ .nil)) rfl

theorem expand14_fn (key info : List Nat) (hkb : ∀ x ∈ key, x < 256) (hkl : key.length < 2 ^ 28) (hil : info.length < 2 ^ 28) : Fn Try.prog 71 [] [.pv (.sl 1 (bytes key)), .pv (.sl 1 (bytes info)), .pv (.int .i64 32)] (fun rs H' => rs = [.pv (.sl 1 (bytes (hmac key (info ++ [1])))), .pv (.int .i64 0)] ∧ H' = []) := by
  refine Fn.of_body (fn := Try.f71) (n := 40) (res := [.tmp 6, .tmp 7]) (by kernel_rfl) rfl rfl rfl rfl rfl (fun C => ?_)
  have hroom : room = 140737488355328 := rfl
  have hml := hmac_len key (info ++ [1])
  refine AW.gg ?_
  refine AW.condF rfl ?_
  refine AW.go ?_
  refine AW.loopS (fun i : Nat => ⟨40, [(0, .pv (.sl 1 (bytes key))), (1, .pv (.sl 1 (bytes info))), (2, .pv (.int .i64 32)), (8, .own 5 (bytes (if i = 0 then [] else hmac key (info ++ [1])))), (9, .own 5 (bytes (if i = 0 then [] else hmac key (info ++ [1])))), (10, .pv (.int .i64 ((i + 1 : Nat) : Int)))], []⟩) (fun i => i ≤ 1) (fun i => 1 - i) [0, 1, 2, 8, 9, 10] [] 0 (by decide) ?_
  rintro i hi K hK
  have hi01 : i = 0 ∨ i = 1 := by omega
  rcases hi01 with rfl | rfl
  · simp only [↓reduceIte]
    refine AW.go ?_
    refine AW.condT rfl ?_
    have a1 : (0 ≤ room) = True := eq_true (by omega)
    have a2 : (info.length ≤ room) = True := eq_true (by omega)
    have a3 : (info.length + 1 ≤ room) = True := eq_true (by omega)
    have e1 : IntKind.u8.wrap ((1 : Nat) : Int) = ((1 : Nat) : Int) := by decide
    have e2 : IntKind.i64.wrap (1 + 1) = 2 := by decide
    have e3 : IntKind.u8.wrap 1 = 1 := by decide
    have hb1 : bytes info ++ [PV.int .u8 1] = bytes (info ++ [1]) := bytes_snoc info 1
    have hb0 : bytes [] = [] := rfl
    refine AW.go ?_ (by simp only [go_sem, ↓reduceIte, List.length_nil, Nat.zero_add, List.nil_append, Nat.zero_mul, le_maxLen0, a1, a2, a3, nc1, e3, hb1, hb0, List.append_nil] <;> rfl)
    refine AW.callE (args := [.pv (.sl 1 (bytes key)), .pv (.sl 1 (bytes (info ++ [1])))]) (fun _ => 0) (mac14_fn key (info ++ [1]) hkb (by omega) (by rw [List.length_append, List.length_singleton]; omega)) (.pv _ (.lend rfl co_5 .nil)) ?_
    generalize hmac key (info ++ [1]) = T at *
    have a4 : (T.length ≤ room) = True := eq_true (by omega)
    refine AW.go ?_ (by simp only [go_sem, ↓reduceIte, List.length_nil, Nat.zero_add, List.nil_append, a4, nc1, hb0, e2] <;> rfl)
    exact AW.again hK 1 (by decide) (by decide)
  · simp only [Nat.one_ne_zero, if_false]
    generalize hmac key (info ++ [1]) = T at *
    have d1 : decide ((T.length : Int) < 32) = false := decide_eq_false (by omega)
    refine AW.go ?_
    refine AW.cond rfl (fun hc => ?_) (fun hc => ?_)
    · exfalso; rw [d1] at hc; cases hc
    have nc32 : ((32 : Nat) : Int) = 32 := rfl
    refine AW.go ?_ (by simp only [go_sem, ↓reduceIte, hml, nc32, Int.reduceLE] <;> rfl)
    have hy : bytes T = ((bytes T).drop 0).take 32 := by rw [List.drop_zero, List.take_of_length_le (by rw [bytes_length]; omega)]
    refine AW.finE (.lendV rfl co_5 hy (.pv _ .nil)) rfl

theorem derive18_fn (key : List Nat) (p : Nat) (name : List UInt8) (hkb : ∀ x ∈ key, x < 256) (hp : p < 256) (hnl : name.length ≤ maxLen) : Fn Try.prog 51 [] [.pv (.sl 1 (bytes key)), .pv (.int .u8 p), .pv (.str name)] (fun rs H' => rs = [.pv (.sl 1 (bytes (dk key p name).1)), .pv (.int .i64 (dk key p name).2)] ∧ H' = []) := by
  refine Fn.of_body (fn := Try.f51) (n := 24) (res := [.tmp 6, .tmp 7]) (by kernel_rfl) rfl rfl rfl rfl rfl (fun C => ?_)
  have hroom : room = 140737488355328 := rfl
  have hml : maxLen < 2 ^ 63 := by unfold maxLen; decide
  unfold dk
  by_cases h1 : key.length = 32
  rotate_left
  · have d1 : ((key.length : Int) != 32) = true := by simp; omega
    have d2 : (key.length != 32) = true := by simp; omega
    rw [if_pos h1]
    refine AW.go ?_ (by simp only [go_sem, ↓reduceIte, d1, d2] <;> rfl)
    refine AW.condT rfl ?_
    refine AW.go ?_
    refine AW.finE (.lend rfl co_5 (.pv _ .nil)) rfl
  have hkl : key.length < 2 ^ 50 := by omega
  have d1 : ((key.length : Int) != 32) = false := by simp; omega
  have d2 : (key.length != 32) = false := by simp; omega
  rw [if_neg (by simp; omega)]
  refine AW.go ?_ (by simp only [go_sem, ↓reduceIte, d1, d2] <;> rfl)
  refine AW.condF rfl ?_
  refine AW.go ?_
  refine AW.cond rfl (fun hc => ?_) (fun hc => ?_)
  · have h2 : 64 < name.length := by have := of_decide_eq_true hc; omega
    rw [if_pos h2]
    refine AW.go ?_
    refine AW.finE (.lend rfl co_5 (.pv _ .nil)) rfl
  have h2 : ¬ 64 < name.length := by have := of_decide_eq_false hc; omega
  rw [if_neg h2]
  refine AW.go ?_
  refine AW.ofStr hnl tk_9 tk_23 tk_5 ?_
  rw [strBytes_nb]
  have hnb : (nb name).length = name.length := by simp [nb]
  have l10 := leb_len10 (v := name.length) (by omega)
  refine AW.go ?_
  refine AW.callE (fun _ => 0) (refBlocked_fn (nb name) (by omega)) (.pv _ .nil) ?_
  rw [hnb]
  have hLl : (leb name.length ++ nb name).length ≤ 100 := by rw [List.length_append]; omega
  have hdk := dkInfo_eq p name
  generalize leb name.length ++ nb name = L at *
  have r1 : (1 + L.length ≤ room) = True := eq_true (by omega)
  have hil : (dkInfo p name).length < 2 ^ 28 := by rw [hdk, List.length_cons]; omega
  refine AW.goM 3 ?_ (by simp only [go_sem, ↓reduceIte, List.length_cons, List.length_nil, Nat.zero_add, r1, bytes_consC, ← hdk] <;> rfl)
  generalize dkInfo p name = info at *
  refine AW.freeze (p := .slot 20) (by simp only [go_sem, ↓reduceIte, freeze, freezeO] <;> rfl) ?_
  refine AW.go ?_
  refine AW.callE (fun _ => 0) (expand14_fn key info hkb (by omega) hil) (.pv _ (.pv _ (.pv _ .nil))) ?_
  refine AW.go ?_
  refine AW.finE (.pv _ (.pv _ .nil)) rfl
theorem keyM18_fn (key : List Nat) (hkb : ∀ x ∈ key, x < 256) : Fn Try.prog 19 [] [.pv (.sl 1 (bytes key))] (fun rs H' => rs = [.pv (.sl 1 (bytes (dk key 4 []).1)), .pv (.int .i64 (dk key 4 []).2)] ∧ H' = []) := by
  refine Fn.of_body (fn := Try.f19) (n := 8) (res := [.tmp 2, .tmp 3]) (by kernel_rfl) rfl rfl rfl rfl rfl (fun C => ?_)
  refine AW.go ?_
  refine AW.callE (args := [.pv (.sl 1 (bytes key)), .pv (.int .u8 ((4 : Nat) : Int)), .pv (.str [])]) (fun _ => 0) (derive18_fn key 4 [] hkb (by decide) (Nat.zero_le _)) (.pv _ (.pv _ (.pv _ .nil))) ?_
  refine AW.go ?_
  refine AW.finE (.pv _ (.pv _ .nil)) rfl
end Go.Ck
