/- What is proved here: parts of the proofs of this seat's statements (a verified evaluator for calls over pure values, its laws, and contracts of functions). No condition. -/
import Derived.Test.YthjibccogjggbaaKn
import Derived.Test.YthjibccogjggbaaKl
import Derived.Recover
import Derived.Defers
set_option linter.all false
set_option linter.unusedVariables false
set_option maxRecDepth 10000
namespace Go.Ck
open Go.Proofs
theorem via {T Q : Prop} (h : (Unit → T) → Q) (t : T) : Q := h (fun _ => t)
theorem read_fn (b : List Nat) (hb : ∀ x ∈ b, x < 256) : Fn Try.prog 79 [] [.pv (.sl 1 (bytes b))] (fun rs H' => rs = [.pv (.int .u64 ((readV b).1 : Nat)), .pv (.int .i64 ((readV b).2.1 : Nat)), .pv (.int .i64 (readV b).2.2)] ∧ H' = []) := by
  refine Fn.of_body (fn := Try.f79) (n := 47) (res := [.tmp 2, .tmp 3, .tmp 4]) (by kernel_rfl) rfl rfl rfl rfl rfl (fun C => ?_)
  have hm : (if (10 : Int) < (b.length : Int) then (10 : Int) else (b.length : Int)) = ((b.take 10).length : Nat) := by
    rw [List.length_take]; split <;> omega
  have h1 : (b.take 10).length ≤ b.length := by simp; omega
  have h2 : b.take (b.take 10).length = b.take 10 := by rw [List.length_take]; simp [List.take_eq_take_iff]
  refine AW.go ?_ (by simp only [go_sem, ↓reduceIte, hm, h1, h2] <;> rfl)
  have hbb : ∀ x ∈ b.take 10, x < 256 := fun x hx => hb x (List.mem_of_mem_take hx)
  have hlen : (b.take 10).length ≤ 10 := by simp; omega
  unfold readV
  generalize b.take 10 = c at hbb hlen ⊢
  refine AW.loopS (fun a : Nat × Nat => ⟨47, [(14, .pv (.int .i64 a.1)), (5, .pv (.int .u64 a.2)), (12, .pv (.sl 1 (bytes c))), (13, .pv (.int .i64 c.length))], []⟩) (fun a => a.1 ≤ c.length ∧ rdv a.1 a.2 (c.drop a.1) = rdv 0 0 c ∧ a.2 < 128 ^ a.1) (fun a => c.length - a.1) [14, 5, 12, 13] [] (0, 0) ⟨Nat.zero_le _, rfl, by simp⟩ ?_
  rintro ⟨i, v⟩ ⟨hi, hr, hv⟩ K hK
  simp only at hi hr hv
  refine AW.go ?_
  refine AW.cond rfl (fun hc => ?_) (fun hc => ?_)
  · have hlt : i < c.length := by simpa using hc
    have hx := hbb c[i] (List.getElem_mem hlt)
    have hget := bytes_get hlt
    rw [List.drop_eq_getElem_cons hlt] at hr
    simp only [rdv] at hr
    generalize c[i] = x at hx hget hr
    have hvlt : v < 2 ^ 64 := by
      have : 128 ^ i ≤ 128 ^ 9 := Nat.pow_le_pow_right (by omega) (by omega)
      omega
    have hp : 128 ^ (i + 1) = 128 ^ i * 128 := Nat.pow_succ ..
    have e9 : ((i : Int) == 9) = decide (i = 9) := by rw [Bool.eq_iff_iff]; simp; omega
    have e1 : decide ((x : Int) > 1) = decide (1 < x) := by rw [Bool.eq_iff_iff]; simp; omega
    have e7 : IntKind.i64.wrap (7 * (i : Int)) = ((7 * i : Nat) : Int) := by rw [wrap_i64_of (by omega) (by omega)]; omega
    have hu : IntKind.u64.wrap ((x % 128 : Nat) : Int) = ((x % 128 : Nat) : Int) := wrap_u64_lt (by omega)
    have ei : IntKind.i64.wrap ((i : Int) + 1) = ((i + 1 : Nat) : Int) := wrap_i64_succ (by omega)
    by_cases h9 : i = 9 ∧ 1 < x
    · obtain ⟨k1, k2⟩ := h9
      rw [if_pos ⟨k1, k2⟩] at hr
      have b1 : decide (i = 9) = true := by simpa using k1
      have b2 : decide (1 < x) = true := by simpa using k2
      refine AW.gg ?_ (by simp only [go_sem, ↓reduceIte, hget, e9, e1, b1, b2] <;> rfl)
      refine AW.condT rfl ?_
      refine AW.go ?_
      refine AW.finE (.pv _ (.pv _ (.pv _ .nil))) ?_
      rw [← hr]; rfl
    · rw [if_neg h9] at hr
      have ea : ibits .andNot .u8 (x : Int) 128 = ((x % 128 : Nat) : Int) := andNot128 hx
      have hi9 : i ≤ 9 := by omega
      have hpw : 128 ^ i ≤ 128 ^ 9 := Nat.pow_le_pow_right (by omega) hi9
      have hxs : x % 128 * 128 ^ i < 2 ^ 64 := by
        by_cases k : i = 9
        · subst k
          have : x ≤ 1 := by omega
          have h1 : x % 128 * 128 ^ 9 ≤ 1 * 128 ^ 9 := Nat.mul_le_mul_right _ (by omega)
          omega
        · have h2 : 128 ^ i ≤ 128 ^ 8 := Nat.pow_le_pow_right (by omega) (by omega)
          have h1 : x % 128 * 128 ^ i ≤ 127 * 128 ^ i := Nat.mul_le_mul_right _ (by omega)
          omega
      have eo := or_shift (a := v) (x := x % 128) (k := i) hv hxs hvlt (by omega)
      refine via (T := ?T) (fun hT => ?_) ?_
      rotate_left
      · by_cases k : i = 9
        · have b1 : decide (i = 9) = true := by simpa using k
          refine AW.gg ?_ (by simp only [go_sem, ↓reduceIte, hget, e9, b1] <;> rfl)
          refine AW.cond rfl (fun hc2 => absurd ⟨k, by simp at hc2; omega⟩ h9) (fun hc2 => ?_)
          refine AW.keepB [5, 6, 7, 12, 13, 14] [] (by simp only [go_sem, ↓reduceIte]) (by simp only [go_sem, ↓reduceIte] <;> rfl) ?_
          exact hT ()
        · have b1 : decide (i = 9) = false := by simpa using k
          refine AW.gg ?_ (by simp only [go_sem, ↓reduceIte, hget, e9, b1] <;> rfl)
          refine AW.condF rfl ?_
          refine AW.keepB [5, 6, 7, 12, 13, 14] [] (by simp only [go_sem, ↓reduceIte]) (by simp only [go_sem, ↓reduceIte] <;> rfl) ?_
          exact hT ()
      refine AW.go ?_ (by simp only [go_sem, ↓reduceIte, ea, e7, hu, eo] <;> rfl)
      refine AW.cond rfl (fun hc2 => ?_) (fun hc2 => ?_)
      · have h128 : 128 ≤ x := by simp at hc2; omega
        rw [if_pos h128] at hr
        refine AW.go ?_ (by simp only [go_sem, ↓reduceIte, ei] <;> rfl)
        refine AW.again hK (i + 1, v + x % 128 * 128 ^ i) ⟨hlt, hr, ?_⟩ (by simp only; omega)
        simp only
        rw [hp]
        have h1 : x % 128 * 128 ^ i ≤ 127 * 128 ^ i := Nat.mul_le_mul_right _ (by omega)
        omega
      · have h128 : ¬ 128 ≤ x := by simp at hc2; omega
        rw [if_neg h128] at hr
        have hxm : x % 128 = x := Nat.mod_eq_of_lt (by omega)
        have e0 : ((x : Int) == 0) = decide (x = 0) := by rw [Bool.eq_iff_iff]; simp
        have ep : decide ((i : Int) > 0) = decide (0 < i) := by rw [Bool.eq_iff_iff]; simp
        rw [hxm]
        by_cases k0 : x = 0
        · have b1 : decide (x = 0) = true := by simpa using k0
          refine AW.gg ?_ (by simp only [go_sem, ↓reduceIte, e0, b1] <;> rfl)
          refine AW.cond rfl (fun hc3 => ?_) (fun hc3 => ?_)
          · have : 0 < i := by simp at hc3; omega
            rw [if_pos ⟨k0, this⟩] at hr
            refine AW.go ?_
            refine AW.finE (.pv _ (.pv _ (.pv _ .nil))) ?_
            rw [← hr]; rfl
          · have : ¬ 0 < i := by simp at hc3; omega
            rw [if_neg (fun h => this h.2)] at hr
            refine AW.go ?_ (by simp only [go_sem, ↓reduceIte, ei] <;> rfl)
            refine AW.finE (.pv _ (.pv _ (.pv _ .nil))) ?_
            rw [← hr]
        · have b1 : decide (x = 0) = false := by simpa using k0
          refine AW.gg ?_ (by simp only [go_sem, ↓reduceIte, e0, b1] <;> rfl)
          refine AW.condF rfl ?_
          rw [if_neg (fun h => k0 h.1)] at hr
          refine AW.go ?_ (by simp only [go_sem, ↓reduceIte, ei] <;> rfl)
          refine AW.finE (.pv _ (.pv _ (.pv _ .nil))) ?_
          rw [← hr]
  · have hge : ¬ i < c.length := by simpa using hc
    rw [List.drop_eq_nil_of_le (by omega), rdv] at hr
    refine AW.go ?_
    refine AW.finE (.pv _ (.pv _ (.pv _ .nil))) ?_
    rw [← hr]; rfl
end Go.Ck

set_option linter.unusedVariables false
namespace Go.Ck
/-- Bytes, the first the greatest. -/
def beN (l : List Nat) : Nat := l.foldl (fun a x => a * 256 + x) 0
theorem beN_snoc (l : List Nat) (x : Nat) : beN (l ++ [x]) = beN l * 256 + x := by simp [beN]
theorem beN_lt (l : List Nat) (h : ∀ x ∈ l, x < 256) : beN l < 256 ^ l.length := by
  have : ∀ (n : Nat) (l : List Nat), l.length = n → (∀ x ∈ l, x < 256) → beN l < 256 ^ n := by
    intro n
    induction n with
    | zero => intro l hl _; rw [List.length_eq_zero_iff.1 hl]; simp [beN]
    | succ n ih =>
      intro l hl h
      have hne : l ≠ [] := by rintro rfl; simp at hl
      rw [← List.dropLast_concat_getLast hne, beN_snoc]
      have h1 := ih l.dropLast (by simp; omega) (fun x hx => h x (List.dropLast_subset l hx))
      have h2 := h _ (List.getLast_mem hne)
      rw [Nat.pow_succ]
      omega
  exact this _ l rfl h
/-- A number in n bytes. -/
def beB (v : Nat) : Nat → List Nat
  | 0 => []
  | n + 1 => (v / 256 ^ n % 256) :: beB v n
theorem beB_len (v n : Nat) : (beB v n).length = n := by induction n with | zero => rfl | succ n ih => simp [beB, ih]
theorem or_lt256 {a x : Nat} (ha : a < 2 ^ 56) (hx : x < 256) : ibits .or .u64 (shlI .u64 (a : Int) 8) (x : Int) = ((a * 256 + x : Nat) : Int) := by
  have h8 : ((8 : Nat) : Int) = 8 := rfl
  have := shlI_nat64 a 8 (by omega)
  rw [h8] at this
  rw [this, show (2 : Nat) ^ 8 = 256 from rfl, Nat.mod_eq_of_lt (by omega), ibits_or64 (by omega) (by omega)]
  congr 1
  have := Nat.two_pow_add_eq_or_of_lt (i := 8) (b := x) (by omega) a
  rw [Nat.mul_comm a, ← this]
/-- The next block: bytes, why not, what is left. -/
def blk (l : List Nat) (m : Nat) : List Nat × Int × List Nat :=
  if (readV l).2.2 ≠ 0 then ([], (readV l).2.2, l) else if m < (readV l).1 then ([], 4, l) else if l.length - (readV l).2.1 < (readV l).1 then ([], 2, l)
  else ((l.drop (readV l).2.1).take (readV l).1, 0, l.drop ((readV l).2.1 + (readV l).1))
end Go.Ck
namespace Go.Ck
theorem rdv_take : ∀ (l : List Nat) (k acc n : Nat), k ≤ 9 → k + n = 10 → rdv k acc (l.take n) = rdv k acc l
  | [], k, acc, n, hk, h => by simp
  | x :: r, k, acc, 0, hk, h => by omega
  | x :: r, k, acc, n + 1, hk, h => by
    rw [List.take_succ_cons]
    simp only [rdv]
    split
    · rfl
    · rename_i h9
      split
      · rw [rdv_take r (k + 1) _ n (by omega) (by omega)]
      · rfl
theorem readV_eq (l : List Nat) : readV l = rdv 0 0 l := rdv_take l 0 0 10 (by omega) (by omega)
theorem beB_succ (v n : Nat) : beB v (n + 1) = (v / 256 ^ n % 256) :: beB v n := rfl
end Go.Ck

set_option linter.unusedVariables false
set_option maxRecDepth 10000
namespace Go.Ck
open Go.Proofs
theorem curVarint_fn (l : List Nat) (hl : l.length ≤ room) (hb : ∀ x ∈ l, x < 256) : Fn Try.prog 63 (curO l) [.ptr 1000 0]
    (fun rs H' => rs = [.pv (.int .u64 ((readV l).1 : Nat)), .pv (.int .i64 (readV l).2.2)] ∧ H' = curO (l.drop (readV l).2.1)) := by
  refine Fn.of_body (fn := Try.f63) (n := 26) (res := [.tmp 2, .tmp 3]) (by kernel_rfl) rfl rfl rfl rfl rfl (fun C => ?_)
  refine AW.go ?_
  refine AW.condF rfl ?_
  refine AW.go ?_
  refine AW.callE (fun _ => 0) (read_fn l hb) (.pv _ .nil) ?_
  refine AW.go ?_
  refine AW.callE id (take_fn l _ (readV_le l) hl) (.ptr rfl (.pv _ .nil)) ?_
  refine AW.go ?_
  refine AW.finE (.pv _ (.pv _ .nil)) rfl

theorem block_fn (l : List Nat) (hl : l.length + 20 ≤ room) : Fn Try.prog 25 [] [.pv (.sl 1 (bytes l))] (fun rs H' => rs = [.own 5 (bytes (leb l.length ++ l))] ∧ H' = []) := by
  refine Fn.of_body (fn := Try.f25) (n := 9) (res := [.tmp 2]) (by kernel_rfl) rfl rfl rfl rfl rfl (fun C => ?_)
  have hr : room < 2 ^ 63 := by decide
  have hu : IntKind.u64.wrap (l.length : Int) = (l.length : Int) := wrap_u64_lt (by omega)
  refine AW.go ?_ (by simp only [go_sem, ↓reduceIte, hu] <;> rfl)
  refine AW.callE (fun _ => 0) (append_fn [] l.length (by omega) (by simp; omega)) (.nilsP 1 (.pv _ .nil)) ?_
  have h10 := leb_len10 (v := l.length) (by omega)
  have hs : (leb l.length).length + l.length ≤ room := by omega
  refine AW.go ?_ (by simp only [go_sem, ↓reduceIte, List.nil_append, hs] <;> rfl)
  refine AW.finE (.move rfl .nil) rfl

theorem curBlock_fn (l : List Nat) (m : Nat) (hm : m < 2 ^ 63) (hl : l.length ≤ room) (hb : ∀ x ∈ l, x < 256) : Fn Try.prog 62 (curO l) [.ptr 1000 0, .pv (.int .i64 m)]
    (fun rs H' => rs = [.own 5 (bytes (blk l m).1), .pv (.int .i64 (blk l m).2.1)] ∧ H' = curO (blk l m).2.2) := by
  refine Fn.of_body (fn := Try.f62) (n := 55) (res := [.tmp 4, .tmp 5]) (by kernel_rfl) rfl rfl rfl rfl rfl (fun C => ?_)
  have hr : room < 2 ^ 63 := by decide
  have hle := readV_le l
  have hlt := readV_lt hb
  refine AW.gg ?_
  refine AW.condF rfl ?_
  refine AW.go ?_
  refine AW.callE (fun _ => 0) (read_fn l hb) (.pv _ .nil) ?_
  refine AW.go ?_
  unfold blk
  generalize (readV l).1 = v at *
  generalize (readV l).2.2 = e at *
  generalize (readV l).2.1 = k at *
  refine AW.cond rfl (fun hc => ?_) (fun hc => ?_)
  · have he : e ≠ 0 := by simpa using hc
    simp only [if_pos he]
    refine AW.go ?_
    refine AW.finE (.move rfl (.pv _ .nil)) rfl
  have he : ¬ e ≠ 0 := by simpa using hc
  simp only [if_neg he]
  have hu : IntKind.u64.wrap (m : Int) = (m : Int) := wrap_u64_lt (by omega)
  refine AW.go ?_ (by simp only [go_sem, ↓reduceIte, hu] <;> rfl)
  refine AW.cond rfl (fun hc => ?_) (fun hc => ?_)
  · have he : m < v := by simp at hc; omega
    simp only [if_pos he]
    refine AW.go ?_
    refine AW.finE (.move rfl (.pv _ .nil)) rfl
  have hmv : ¬ m < v := by simp at hc; omega
  simp only [if_neg hmv]
  refine AW.go ?_
  refine AW.callE id (left_fn l) (.ptr rfl .nil) ?_
  have h1 : IntKind.u64.wrap (IntKind.i64.wrap ((l.length : Int) - (k : Int))) = ((l.length - k : Nat) : Int) := by
    rw [← Int.ofNat_sub hle, wrap_i64_nat (by omega), wrap_u64_lt (by omega)]
  refine AW.go ?_ (by simp only [go_sem, ↓reduceIte, h1] <;> rfl)
  refine AW.cond rfl (fun hc => ?_) (fun hc => ?_)
  · have he : l.length - k < v := by simp at hc; omega
    simp only [if_pos he]
    refine AW.go ?_
    refine AW.finE (.move rfl (.pv _ .nil)) rfl
  have hlv : ¬ l.length - k < v := by simp at hc; omega
  simp only [if_neg hlv]
  rw [show l.drop (k + v) = (l.drop k).drop v by rw [List.drop_drop]]
  refine AW.go ?_
  refine AW.callE id (take_fn l k hle hl) (.ptr rfl (.pv _ .nil)) ?_
  have h2 : IntKind.i64.wrap (v : Int) = (v : Int) := wrap_i64_nat (by omega)
  refine AW.go ?_ (by simp only [go_sem, ↓reduceIte, h2] <;> rfl)
  refine AW.callE id (take_fn (l.drop k) v (by simp; omega) (by simp; omega)) (.ptr rfl (.pv _ .nil)) ?_
  refine AW.go ?_
  refine AW.finE (.move rfl (.pv _ .nil)) rfl

theorem curFixed_fn (l : List Nat) (n : Nat) (hn : n ≤ 8) (hl : l.length ≤ room) (hb : ∀ x ∈ l, x < 256) : Fn Try.prog 37 (curO l) [.ptr 1000 0, .pv (.int .i64 n)]
    (fun rs H' => rs = [.pv (.int .u64 ((if n ≤ l.length then beN (l.take n) else 0) : Nat)), .pv (.int .i64 (if n ≤ l.length then 0 else 2))] ∧ H' = curO (if n ≤ l.length then l.drop n else l)) := by
  refine Fn.of_body (fn := Try.f37) (n := 33) (res := [.tmp 4, .tmp 5]) (by kernel_rfl) rfl rfl rfl rfl rfl (fun C => ?_)
  refine AW.go ?_
  refine AW.condF (by simp only [go_sem, ↓reduceIte]; congr 3; simp; omega) ?_
  refine AW.go ?_
  refine AW.callE id (curBytes_fn l n hl) (.ptr rfl (.pv _ .nil)) ?_
  have e0 : (if n ≤ l.length then beN (l.take n) else 0) = beN (if n ≤ l.length then l.take n else []) := by split <;> rfl
  rw [e0]
  have hxl : (if n ≤ l.length then l.take n else []).length ≤ 8 := by split <;> simp <;> omega
  have hxb : ∀ x ∈ (if n ≤ l.length then l.take n else []), x < 256 := by
    split
    · exact fun x hx => hb x (List.mem_of_mem_take hx)
    · simp
  generalize (if n ≤ l.length then l.take n else []) = xs at *
  generalize hE : (if n ≤ l.length then 0 else 2 : Int) = er
  generalize hR : (if n ≤ l.length then l.drop n else l) = lr
  refine AW.go ?_
  have hr : room < 2 ^ 63 := by decide
  refine AW.loopS (fun i : Nat => ⟨33, [(21, .pv (.int .i64 i)), (8, .pv (.int .u64 (beN (xs.take i) : Nat))), (19, .al (.slot 6)), (20, .pv (.int .i64 xs.length)), (6, .own 5 (bytes xs)), (7, .pv (.int .i64 er))], curO lr⟩) (fun i => i ≤ xs.length) (fun i => xs.length - i) [21, 8, 19, 20, 6, 7] [1000] 0 (Nat.zero_le _) ?_
  rintro i hi K hK
  refine AW.go ?_
  refine AW.cond rfl (fun hc => ?_) (fun hc => ?_)
  · have hlt : i < xs.length := by simpa using hc
    have hget := bytes_get hlt
    have hx := hxb _ (List.getElem_mem hlt)
    have hti : xs.take (i + 1) = xs.take i ++ [xs[i]] := by simp
    have hbl := beN_lt (xs.take i) (fun x hx => hxb x (List.mem_of_mem_take hx))
    have hp : 256 ^ (xs.take i).length ≤ 256 ^ 7 := Nat.pow_le_pow_right (by omega) (by simp; omega)
    have eo := or_lt256 (a := beN (xs.take i)) (x := xs[i]) (by omega) hx
    have eu : IntKind.u64.wrap ((xs[i] : Nat) : Int) = (xs[i] : Nat) := wrap_u64_lt (by omega)
    have ei : IntKind.i64.wrap ((i : Int) + 1) = ((i + 1 : Nat) : Int) := wrap_i64_succ (by omega)
    rw [← beN_snoc, ← hti] at eo
    refine AW.go ?_ (by simp only [go_sem, ↓reduceIte, hget, hlt, eu, eo, ei] <;> rfl)
    refine AW.again hK (i + 1) hlt (by omega)
  · have hge : ¬ i < xs.length := by simpa using hc
    rw [List.take_of_length_le (by omega)]
    refine AW.go ?_
    refine AW.finE (.pv _ (.pv _ .nil)) rfl
end Go.Ck

set_option linter.unusedVariables false
set_option maxRecDepth 10000
namespace Go.Ck
open Go.Proofs
theorem shr_byte {v j : Nat} (hj : j < 8) : IntKind.u8.wrap (shrI .u64 (v : Int) ((8 * j : Nat) : Int)) = ((v / 256 ^ j % 256 : Nat) : Int) := by
  rw [shrI_nat .u64 v (8 * j) (by show 8 * j ≤ 64; omega), wrap_u8, Nat.pow_mul]

theorem fix_fn (v n : Nat) (hv : v < 2 ^ 64) (hn : n ≤ 8) : Fn Try.prog 23 [] [.pv (.int .u64 v), .pv (.int .i64 n)] (fun rs H' => rs = [.own 5 (bytes (beB v n))] ∧ H' = []) := by
  refine Fn.of_body (fn := Try.f23) (n := 33) (res := [.tmp 4]) (by kernel_rfl) rfl rfl rfl rfl rfl (fun C => ?_)
  refine AW.gg ?_
  refine AW.condF (by simp only [go_sem, ↓reduceIte]; congr 3; simp; omega) ?_
  have hr : n ≤ room := Nat.le_trans hn (le_room 8)
  have hrep : List.replicate n (PV.int .u8 0) = bytes (List.replicate n 0) := by simp [bytes]
  refine AW.go ?_ (by simp only [go_sem, ↓reduceIte, hr, Nat.le_refl, hrep, List.length_replicate] <;> rfl)
  refine AW.loopS (fun a : List Nat × Nat => ⟨33, [(17, .pv (.int .i64 a.2)), (16, .pv (.int .i64 n)), (5, .own 5 (bytes a.1)), (1, .pv (.int .i64 n)), (0, .pv (.int .u64 v))], []⟩) (fun a => a.1 = List.replicate (n - a.2) 0 ++ beB v a.2 ∧ a.2 ≤ n) (fun a => n - a.2) [17, 16, 5, 1, 0] [] (List.replicate n 0, 0) ⟨by simp [beB], Nat.zero_le _⟩ ?_
  rintro ⟨l, i⟩ ⟨hl, hi⟩ K hK
  simp only at hl hi
  have hlen : l.length = n := by rw [hl]; simp [beB_len]; omega
  refine AW.go ?_
  refine AW.cond rfl (fun hc => ?_) (fun hc => ?_)
  · have hlt : i < n := by simpa using hc
    have e0 : IntKind.i64.wrap (IntKind.i64.wrap ((n : Int) - 1) - (i : Int)) = ((n - 1 - i : Nat) : Int) := by
      rw [wrap_i64_of (n := (n : Int) - 1) (by omega) (by omega), wrap_i64_of (by omega) (by omega)]; omega
    have e1 : IntKind.i64.wrap (8 * (i : Int)) = ((8 * i : Nat) : Int) := by rw [wrap_i64_of (by omega) (by omega)]; omega
    have e3 := shr_byte (v := v) (j := i) (by omega)
    have e4 : IntKind.i64.wrap ((i : Int) + 1) = ((i + 1 : Nat) : Int) := wrap_i64_succ (by omega)
    have hlt2 : n - 1 - i < l.length := by omega
    have hget := bytes_get hlt2
    refine AW.go ?_ (by simp only [go_sem, ↓reduceIte, e0, e1, e3, e4, hlt2, hget, bytes_set] <;> rfl)
    refine AW.again hK (l.set (n - 1 - i) (v / 256 ^ i % 256), i + 1) ⟨?_, hlt⟩ (by simp only; omega)
    simp only
    rw [hl, beB_succ, show n - i = (n - (i + 1)) + 1 by omega, List.replicate_succ', List.append_assoc, show n - 1 - i = n - (i + 1) by omega, List.set_append_right _ _ (by simp)]
    simp
  · have hge : ¬ i < n := by simpa using hc
    refine AW.go ?_
    refine AW.finE (.move rfl .nil) ?_
    have : i = n := by omega
    rw [hl, this]; simp

theorem refRead_fn (b : List Nat) (hl : b.length ≤ room) (hb : ∀ x ∈ b, x < 256) : Fn Try.prog 80 [] [.pv (.sl 1 (bytes b))] (fun rs H' => rs = [.pv (.int .u64 ((readV b).1 : Nat)), .pv (.int .i64 ((readV b).2.1 : Nat)), .pv (.int .i64 (readV b).2.2)] ∧ H' = []) := by
  refine Fn.of_body (fn := Try.f80) (n := 51) (res := [.tmp 2, .tmp 3, .tmp 4]) (by kernel_rfl) rfl rfl rfl rfl rfl (fun C => ?_)
  have hr : room < 2 ^ 63 := by decide
  refine AW.go ?_
  rw [readV_eq]
  refine AW.loopS (fun a : Nat × Nat => ⟨51, [(6, .pv (.int .i64 a.1)), (5, .pv (.int .u64 a.2)), (0, .pv (.sl 1 (bytes b)))], []⟩) (fun a => a.1 ≤ b.length ∧ a.1 ≤ 10 ∧ (a.1 = 10 → a.1 = b.length) ∧ rdv a.1 a.2 (b.drop a.1) = rdv 0 0 b ∧ a.2 < 128 ^ a.1) (fun a => b.length - a.1) [6, 5, 0] [] (0, 0) ⟨Nat.zero_le _, by simp, by simp, rfl, by simp⟩ ?_
  rintro ⟨i, v⟩ ⟨hi, hi10, hi11, hr, hv⟩ K hK
  simp only at hi hi10 hi11 hr hv
  refine AW.go ?_
  refine AW.cond rfl (fun hc => ?_) (fun hc => ?_)
  · have hlt : i < b.length := by simpa using hc
    have hi9 : i ≤ 9 := by omega
    have hx := hb b[i] (List.getElem_mem hlt)
    have hget := bytes_get hlt
    rw [List.drop_eq_getElem_cons hlt] at hr
    simp only [rdv] at hr
    generalize b[i] = x at hx hget hr
    have hvlt : v < 2 ^ 63 := by
      have : 128 ^ i ≤ 128 ^ 9 := Nat.pow_le_pow_right (by omega) (by omega)
      omega
    have hp : 128 ^ (i + 1) = 128 ^ i * 128 := Nat.pow_succ ..
    have e9 : ((i : Int) == 9) = decide (i = 9) := by rw [Bool.eq_iff_iff]; simp; omega
    have ei : IntKind.i64.wrap ((i : Int) + 1) = ((i + 1 : Nat) : Int) := wrap_i64_succ (by omega)
    by_cases h9 : i = 9 ∧ 1 < x
    · obtain ⟨k1, k2⟩ := h9
      rw [if_pos ⟨k1, k2⟩] at hr
      have b1 : decide (i = 9) = true := by simpa using k1
      refine AW.gg ?_ (by simp only [go_sem, ↓reduceIte, hget, e9, b1] <;> rfl)
      refine AW.cond rfl (fun hc2 => ?_) (fun hc2 => absurd k2 (by have h := of_decide_eq_false hc2; omega))
      refine AW.go ?_
      refine AW.finE (.pv _ (.pv _ (.pv _ .nil))) ?_
      rw [← hr]; rfl
    · rw [if_neg h9] at hr
      have hxs : x % 128 * 128 ^ i < 2 ^ 64 - 2 ^ 63 + 1 := by
        by_cases k : i = 9
        · subst k
          have : x ≤ 1 := by omega
          have h1 : x % 128 * 128 ^ 9 ≤ 1 * 128 ^ 9 := Nat.mul_le_mul_right _ (by omega)
          omega
        · have h2 : 128 ^ i ≤ 128 ^ 8 := Nat.pow_le_pow_right (by omega) (by omega)
          have h1 : x % 128 * 128 ^ i ≤ 127 * 128 ^ i := Nat.mul_le_mul_right _ (by omega)
          omega
      have em : Int.tmod (x : Int) 128 = ((x % 128 : Nat) : Int) := rfl
      have eu : IntKind.u64.wrap ((x % 128 : Nat) : Int) = ((x % 128 : Nat) : Int) := wrap_u64_lt (by omega)
      have e7 : IntKind.u64.wrap (IntKind.i64.wrap (7 * (i : Int))) = ((7 * i : Nat) : Int) := by
        rw [wrap_i64_of (by omega) (by omega)]
        exact wrap_u64_lt (n := 7 * i) (by omega)
      have es : shlI .u64 ((x % 128 : Nat) : Int) ((7 * i : Nat) : Int) = ((x % 128 * 128 ^ i : Nat) : Int) := by
        rw [shlI_nat64 _ _ (by omega), show (2 : Nat) ^ (7 * i) = 128 ^ i by rw [Nat.pow_mul], Nat.mod_eq_of_lt (by omega)]
      have ea : IntKind.u64.wrap ((v : Int) + ((x % 128 * 128 ^ i : Nat) : Int)) = ((v + x % 128 * 128 ^ i : Nat) : Int) := wrap_u64_lt (n := v + x % 128 * 128 ^ i) (by omega)
      refine via (T := ?T) (fun hT => ?_) ?_
      rotate_left
      · by_cases k : i = 9
        · have b1 : decide (i = 9) = true := by simpa using k
          refine AW.gg ?_ (by simp only [go_sem, ↓reduceIte, hget, e9, b1] <;> rfl)
          refine AW.cond rfl (fun hc2 => absurd ⟨k, by simp at hc2; omega⟩ h9) (fun hc2 => ?_)
          refine AW.keepB [0, 5, 6] [] (by simp only [go_sem, ↓reduceIte]) (by simp only [go_sem, ↓reduceIte] <;> rfl) ?_
          exact hT ()
        · have b1 : decide (i = 9) = false := by simpa using k
          refine AW.gg ?_ (by simp only [go_sem, ↓reduceIte, hget, e9, b1] <;> rfl)
          refine AW.condF rfl ?_
          refine AW.keepB [0, 5, 6] [] (by simp only [go_sem, ↓reduceIte]) (by simp only [go_sem, ↓reduceIte] <;> rfl) ?_
          exact hT ()
      refine AW.go ?_ (by simp only [go_sem, ↓reduceIte, hget, em, eu, e7, es, ea] <;> rfl)
      refine AW.cond rfl (fun hc2 => ?_) (fun hc2 => ?_)
      · have h128 : ¬ 128 ≤ x := by simp at hc2; omega
        rw [if_neg h128] at hr
        have hxm : x % 128 = x := Nat.mod_eq_of_lt (by omega)
        rw [hxm]
        have ep : decide ((i : Int) > 0) = decide (0 < i) := by rw [Bool.eq_iff_iff]; simp
        by_cases k0 : 0 < i
        · have b1 : decide (0 < i) = true := by simpa using k0
          refine AW.gg ?_ (by simp only [go_sem, ↓reduceIte, hget, ep, b1] <;> rfl)
          refine AW.cond rfl (fun hc3 => ?_) (fun hc3 => ?_)
          · have hx0 : x = 0 := by simp at hc3; omega
            rw [if_pos ⟨hx0, k0⟩] at hr
            refine AW.go ?_
            refine AW.finE (.pv _ (.pv _ (.pv _ .nil))) ?_
            rw [← hr]; rfl
          · have hx0 : ¬ x = 0 := by simp at hc3; omega
            rw [if_neg (fun h => hx0 h.1)] at hr
            refine AW.go ?_ (by simp only [go_sem, ↓reduceIte, ei] <;> rfl)
            refine AW.finE (.pv _ (.pv _ (.pv _ .nil))) ?_
            rw [← hr]
        · have b1 : decide (0 < i) = false := by simpa using k0
          refine AW.gg ?_ (by simp only [go_sem, ↓reduceIte, ep, b1] <;> rfl)
          refine AW.condF rfl ?_
          rw [if_neg (fun h => k0 h.2)] at hr
          refine AW.go ?_ (by simp only [go_sem, ↓reduceIte, ei] <;> rfl)
          refine AW.finE (.pv _ (.pv _ (.pv _ .nil))) ?_
          rw [← hr]
      · have h128 : 128 ≤ x := by simp at hc2; omega
        rw [if_pos h128] at hr
        refine AW.go ?_ (by simp only [go_sem, ↓reduceIte, ei] <;> rfl)
        refine AW.again hK (i + 1, v + x % 128 * 128 ^ i) ⟨hlt, by simp only; omega, by simp only; omega, hr, ?_⟩ (by simp only; omega)
        simp only
        rw [hp]
        have h1 : x % 128 * 128 ^ i ≤ 127 * 128 ^ i := Nat.mul_le_mul_right _ (by omega)
        omega
  · have hge : ¬ i < b.length := by simpa using hc
    rw [List.drop_eq_nil_of_le (by omega), rdv] at hr
    refine AW.go ?_
    refine AW.finE (.pv _ (.pv _ (.pv _ .nil))) ?_
    rw [← hr]; rfl
end Go.Ck

set_option linter.unusedVariables false
set_option maxRecDepth 10000
namespace Go.Ck
open Go.Proofs
theorem refVarint_fn (b : List Nat) (hl : b.length ≤ room) (hb : ∀ x ∈ b, x < 256) : Fn Try.prog 67 [] [.pv (.sl 1 (bytes b))] (fun rs H' => rs = [.pv (.int .u64 ((readV b).1 : Nat)), .pv (.sl 1 (bytes (b.drop (readV b).2.1))), .pv (.int .i64 (readV b).2.2)] ∧ H' = []) := by
  refine Fn.of_body (fn := Try.f67) (n := 19) (res := [.tmp 2, .tmp 3, .tmp 4]) (by kernel_rfl) rfl rfl rfl rfl rfl (fun C => ?_)
  have hr : room < 2 ^ 63 := by decide
  have hle := readV_le b
  refine AW.go ?_
  refine AW.callE (fun _ => 0) (refRead_fn b hl hb) (.pv _ .nil) ?_
  refine AW.go ?_
  have e : (((b.length : Int) - ((readV b).2.1 : Nat)).toNat) = b.length - (readV b).2.1 := by omega
  have e2 : (bytes (b.drop (readV b).2.1)).take (b.length - (readV b).2.1) = bytes (b.drop (readV b).2.1) := List.take_of_length_le (by simp [bytes])
  refine AW.sr mixed (by decide +kernel) ?_ (by simp only [go_sem, ↓reduceIte, hle, e]; rw [← bytes_take, e2] <;> rfl)
  refine AW.go ?_
  refine AW.finE (.pv _ (.pv _ (.pv _ .nil))) rfl

theorem refBytes_fn (b : List Nat) (n : Nat) (hn : n < 2 ^ 63) (hl : b.length ≤ room) : Fn Try.prog 65 [] [.pv (.sl 1 (bytes b)), .pv (.int .i64 n)]
    (fun rs H' => rs = [.own 5 (bytes (if n ≤ b.length then b.take n else [])), .pv (.sl 1 (bytes (if n ≤ b.length then b.drop n else b))), .pv (.int .i64 (if n ≤ b.length then 0 else 2))] ∧ H' = []) := by
  refine Fn.of_body (fn := Try.f65) (n := 23) (res := [.tmp 4, .tmp 5, .tmp 6]) (by kernel_rfl) rfl rfl rfl rfl rfl (fun C => ?_)
  refine AW.go ?_
  refine AW.condF rfl ?_
  refine AW.go ?_
  refine AW.cond rfl (fun hc => ?_) (fun hc => ?_)
  · have hle : ¬ n ≤ b.length := by simp at hc; omega
    simp only [if_neg hle]
    refine AW.go ?_
    refine AW.finE (.move rfl (.pv _ (.pv _ .nil))) rfl
  · have hle : n ≤ b.length := by simp at hc; omega
    simp only [if_pos hle]
    refine AW.go ?_
    have e : (((b.length : Int) - (n : Nat)).toNat) = b.length - n := by omega
    have e2 : (bytes (b.drop n)).take (b.length - n) = bytes (b.drop n) := List.take_of_length_le (by simp [bytes])
    refine AW.ts [1, 2, 3, 5, 6, 7] [0, 4, 8, 9, 10] mixed (by decide +kernel) ?_ (by simp only [go_sem, ↓reduceIte, hle, e]; rw [← bytes_take, e2] <;> rfl)
    have h3 : (b.take n).length ≤ room := by simp; omega
    refine AW.go ?_ (by simp only [go_sem, ↓reduceIte, h3, Nat.zero_add, List.nil_append] <;> rfl)
    refine AW.finE (.move rfl (.pv _ (.pv _ .nil))) rfl

theorem refBlock_fn (l : List Nat) (m : Nat) (hm : m < 2 ^ 63) (hl : l.length ≤ room) (hb : ∀ x ∈ l, x < 256) : Fn Try.prog 66 [] [.pv (.sl 1 (bytes l)), .pv (.int .i64 m)]
    (fun rs H' => rs = [.own 5 (bytes (blk l m).1), .pv (.sl 1 (bytes (blk l m).2.2)), .pv (.int .i64 (blk l m).2.1)] ∧ H' = []) := by
  refine Fn.of_body (fn := Try.f66) (n := 45) (res := [.tmp 4, .tmp 5, .tmp 6]) (by kernel_rfl) rfl rfl rfl rfl rfl (fun C => ?_)
  have hr : room < 2 ^ 63 := by decide
  have hle := readV_le l
  have hlt := readV_lt hb
  refine AW.go ?_
  refine AW.condF rfl ?_
  refine AW.go ?_
  refine AW.callE (fun _ => 0) (refVarint_fn l hl hb) (.pv _ .nil) ?_
  refine AW.go ?_
  unfold blk
  generalize (readV l).1 = v at *
  generalize (readV l).2.2 = e at *
  generalize (readV l).2.1 = k at *
  refine AW.cond rfl (fun hc => ?_) (fun hc => ?_)
  · have he : e ≠ 0 := by simpa using hc
    simp only [if_pos he]
    refine AW.go ?_
    refine AW.finE (.move rfl (.pv _ (.pv _ .nil))) rfl
  have he : ¬ e ≠ 0 := by simpa using hc
  simp only [if_neg he]
  have hu : IntKind.u64.wrap (m : Int) = (m : Int) := wrap_u64_lt (by omega)
  refine AW.go ?_ (by simp only [go_sem, ↓reduceIte, hu] <;> rfl)
  refine AW.cond rfl (fun hc => ?_) (fun hc => ?_)
  · have he : m < v := by simp at hc; omega
    simp only [if_pos he]
    refine AW.go ?_
    refine AW.finE (.move rfl (.pv _ (.pv _ .nil))) rfl
  have hmv : ¬ m < v := by simp at hc; omega
  simp only [if_neg hmv]
  have h2 : IntKind.i64.wrap (v : Int) = (v : Int) := wrap_i64_nat (by omega)
  refine AW.go ?_ (by simp only [go_sem, ↓reduceIte, h2] <;> rfl)
  refine AW.callE (fun _ => 0) (refBytes_fn (l.drop k) v (by omega) (by simp; omega)) (.pv _ (.pv _ .nil)) ?_
  refine AW.go ?_
  by_cases hx : v ≤ (l.drop k).length
  · have hlv : ¬ l.length - k < v := by simp at hx; omega
    simp only [if_pos hx, if_neg hlv]
    refine AW.condF rfl ?_
    refine AW.go ?_
    refine AW.finE (.move rfl (.pv _ (.pv _ .nil))) ?_
    rw [List.drop_drop]
  · have hlv : l.length - k < v := by simp at hx; omega
    simp only [if_neg hx, if_pos hlv]
    refine AW.condT rfl ?_
    refine AW.go ?_
    refine AW.finE (.move rfl (.pv _ (.pv _ .nil))) rfl

end Go.Ck

set_option linter.unusedVariables false
namespace Go.Ck
section
variable {P : Program} {R : Option Nat} {Φ : Exit → Cx → St → Prop} {k : List It} {C : Cx} {s : St}
end
end Go.Ck

set_option linter.unusedVariables false
namespace Go.Ck
open Go.RowKit
mutual
/-- A value that reads no memory. -/
def PV.solid : PV → Bool
  | .sl _ _ => false
  | .agg cs => solidL cs
  | .iface _ v => v.solid
  | _ => true
def solidL : List PV → Bool
  | [] => true
  | p :: r => p.solid && solidL r
end
theorem solidL_mem : ∀ {l : List PV}, solidL l = true → ∀ p ∈ l, p.solid = true
  | [], _, _, h => by cases h
  | q :: r, hl, p, h => by
    simp only [solidL, Bool.and_eq_true] at hl
    rcases List.mem_cons.1 h with rfl | h
    · exact hl.1
    · exact solidL_mem hl.2 p h
theorem RO.solid {A A' : Nat → Prop} {w w' : World} {p : PV} {x : Value} (hr : RO A w p x) (hc : p.solid = true) : RO A' w' p x := by
  induction hr with
  | int k n => exact .int k n
  | bool b => exact .bool b
  | str s => exact .str s
  | sl z xs vs a cap hl h1 hr hm hz hb hcap ih => simp [PV.solid] at hc
  | agg cs vs hl h1 hr ih =>
    simp only [PV.solid] at hc
    exact .agg cs vs hl h1 (fun i c v hi hv => ih i c v hi hv (solidL_mem hc c (List.mem_of_getElem? hi)))
  | iface t v x h ih => simp only [PV.solid] at hc; exact .iface t v x (ih hc)
  | nili => exact .nili
  | nilp => exact .nilp
  | nilf => exact .nilf
/-- A panic of a value. -/
def Pan (ch : List PanicEntry) (p : PV) : Prop := ∃ x, ch = [{ v := x, recovered := false }] ∧ p.solid = true ∧ ∃ A w, RO A w p x

section
variable {P : Program} {O0 : Base} {F : Nat → Prop} {w0 w : World} {s : St} {E : Env} {a : Act}
/-- A call: what it is handed, and what it leaves. -/
theorem call_core (h : Rel P O0 w0 F s E a.tmps w) (hG : GOK P (fun b => E.om b ∨ F b) w) {ρ : Nat → Nat} {H : List (Nat × HO)} {svs args : List SV} {L : List Place} {m : Option Place} {vals : List Value}
    (hl : vals.length = svs.length) (hv : ∀ (i : Nat) (v : SV) (x : Value), svs[i]? = some v → vals[i]? = some x → RS P (fun b => E.om b ∨ F b) E w v x) (hp : Pass P s ρ svs args L m) (hok : CallOK s ρ H args L m) :
    ∃ (F' : Nat → Prop) (E0 : Env), GOK P (fun b => E0.om b ∨ F' b) w ∧ Rel P ⟨E0.om, obOf E0 H⟩ w F' ⟨vals.length, zslots args 0, H⟩ E0 vals.toArray w ∧ vals.length = args.length ∧
      ∀ (rs : List SV) (H' : List (Nat × HO)) (E' : Env) (us : List Value) (w' : World), us.length = rs.length → Rel P ⟨E0.om, obOf E0 H⟩ w F' ⟨us.length, zslots rs 0, H'⟩ E' us.toArray w' →
        (namesOf H').Nodup → (∀ o ∈ namesOf H', ∀ o' ∈ namesOf H', ρ o = ρ o' → o = o') → (∀ o ∈ namesOf H', look o H = none → look (ρ o) s.hp = none) → (L = [] ∨ (rs.all SV.clo = true ∧ H'.all (fun y => y.2.clo) = true)) →
        (∃ E1, Rel P O0 w0 F ⟨s.n, (handOver s ρ m H).sl, updHp ρ H' (handOver s ρ m H).hp⟩ E1 a.tmps w') ∧
        (rs.all resOK = true → ∀ d, ∃ E2, Rel P O0 w0 F (afterCall ρ d rs ⟨s.n, (handOver s ρ m H).sl, updHp ρ H' (handOver s ρ m H).hp⟩) E2 (a.tmps.setIfInBounds d (pack us)) w') := by
  let Lt : Nat → Prop := fun b => ∃ p ∈ L, Lends s E p b
  have haf := Pass.af h (Lt := Lt) hp hl hv (fun p hp' b hb => ⟨p, hp', hb⟩)
  obtain ⟨f1, f2, f3, f4⟩ := haf.facts
  -- ahead: the list that is given away is taken out
  have hpown : ∀ p, m = some p → ∃ e xs, s.at p = some (.own e xs) := by
    intro p hm
    subst hm
    have key : ∀ {svs args L m}, Pass P s ρ svs args L m → ∀ p, m = some p → ∃ e xs, s.at p = some (.own e xs) := by
      intro svs args L m hp
      induction hp with
      | nil => simp
      | move hp _ _ => intro p h1; cases h1; exact ⟨_, _, hp⟩
      | pv _ _ ih => exact ih
      | nilsP _ _ ih => exact ih
      | nilsO _ _ ih => exact ih
      | nils _ ih => exact ih
      | lend _ _ _ ih => exact ih
      | lendV _ _ _ _ ih => exact ih
      | lendO _ _ _ _ _ _ ih => exact ih
      | ptr _ _ ih => exact ih
      | mp _ _ ih => exact ih
      | os _ _ ih => exact ih
      | fn _ _ ih => exact ih
      | agg _ _ ih => exact ih
    exact key hp p rfl
  have hgive : Rel P O0 w0 F (giveUp m s) E a.tmps w ∧ (∀ p e xs, (giveUp m s).at p = some (.own e xs) → s.at p = some (.own e xs) ∧ m ≠ some p) ∧ (∀ q y, look q (giveUp m s).hp = some y → ∃ y', look q s.hp = some y') ∧
      (∀ q, (∀ p i, m = some p → p ≠ .cell q i) → look q (giveUp m s).hp = look q s.hp) ∧ (giveUp m s).n = s.n := by
    cases m with
    | none => exact ⟨h, fun p e xs h1 => ⟨h1, by simp⟩, fun q y hy => ⟨y, hy⟩, fun q _ => rfl, rfl⟩
    | some p =>
      obtain ⟨e, xs, hpo⟩ := hpown p rfl
      obtain ⟨_, _, _, h4⟩ := h.take hpo
      refine ⟨h4, fun q e' ys hq => ?_, fun q y hy => del_hp' hy, fun q hq => del_hp (fun i => hq p i rfl), ?_⟩
      · obtain ⟨h5, h6⟩ := del_own (e := e) (xs := xs) hpo rfl hq ⟨_, kill_own p s hpo, rfl⟩
        exact ⟨h6, by simpa using fun h7 => h5 h7.symm⟩
      · show (del p s).n = s.n
        unfold del; rw [setAt_n]; rfl
  obtain ⟨g1, g2, g3, g4, g5⟩ := hgive
  obtain ⟨k1, k2, k3, k4, k4', k5⟩ := killOs_facts ((namesOf H).map ρ) g1
  have hs1 : handOver s ρ m H = killOs ((namesOf H).map ρ) (giveUp m s) := rfl
  have hH1 : ∀ o y, look o H = some y → look (ρ o) (handOver s ρ m H).hp = some (y.ren ρ) := by
    intro o y hy
    rw [hs1, k2, g4 (ρ o) (fun p i hm => hok.moved p hm o y i hy)]
    exact hok.hH o y hy
  have hown1 : ∀ p e xs, (handOver s ρ m H).at p = some (.own e xs) → s.at p = some (.own e xs) ∧ m ≠ some p := fun p e xs hp' => g2 p e xs (k4 p e xs hp')
  -- the arguments
  have hmv : ∀ {i : Nat} {e : TypeId} {xs : List PV} {x : Value}, args[i]? = some (SV.own e xs) → vals[i]? = some x → (xs = [] ∧ x = .slice none 0 0) ∨ ∃ p, m = some p ∧ s.at p = some (.own e xs) ∧ x = E.hdr p := by
    intro i e xs x hi hx
    rcases f2 i _ x hi hx with ⟨e', h1, h2⟩ | ⟨e', ys, p, h1, h2, h3, h4⟩ | ⟨h1, _⟩
    · cases h1; exact .inl ⟨rfl, h2⟩
    · cases h1; exact .inr ⟨p, h2, h3, h4⟩
    · simp [SV.easy] at h1
  have ha : Args P (fun b => E.om b ∨ F b) (handOver s ρ m H) E ρ H Lt w args vals := by
    refine ⟨f1, fun i e xs x hi hx => ?_, fun i c x hi hx => ?_, fun i c o hi ho => hok.pts c (List.mem_of_getElem? hi) o ho, fun i j e xs e' ys x y b hi hj hx hy hb hb' => f4 i j e xs e' ys x y b b hi hj hx hy hb hb'⟩
    · rcases hmv hi hx with ⟨rfl, rfl⟩ | ⟨p, hm, hpo, rfl⟩
      · exact ⟨⟨[], World.ownsRow_nil w 0 _ _, ROs.nil _ _, by simp, by simp⟩, by simp [Value.ownBlock]⟩
      · obtain ⟨_, t2, t3, _⟩ := h.take hpo
        refine ⟨t2, fun b hb => ⟨(t3 b hb).1, ⟨fun o y hy => ?_, fun q e' ys hq hqb => ?_⟩⟩⟩
        · rw [hs1, k2] at hy
          obtain ⟨y', hy'⟩ := g3 o y hy
          exact h.i3 p e xs o y' b hpo hy' hb
        · obtain ⟨h5, h6⟩ := hown1 q e' ys hq
          have := h.i2 q p e' ys e xs b h5 hpo hqb hb
          subst this
          exact h6 hm
    · rcases f2 i c x hi hx with ⟨e', h1, h2⟩ | ⟨e', ys, p, h1, h2, h3, h4⟩ | ⟨h1, h2, h3⟩
      · exact .inl ⟨_, _, h1⟩
      · exact .inl ⟨_, _, h1⟩
      · exact .inr ⟨h1, h2, h3 _ (fun _ => rfl)⟩
  have hLown : ∀ p ∈ L, (∃ e xs, s.at p = some (.own e xs)) ∨ ∃ o i y, p = .part o i ∧ look o s.hp = some y := by
    have key : ∀ {svs args L m}, Pass P s ρ svs args L m → ∀ p ∈ L, (∃ e xs, s.at p = some (.own e xs)) ∨ ∃ o i y, p = .part o i ∧ look o s.hp = some y := by
      intro svs args L m hp
      induction hp with
      | nil => simp
      | lend hp _ _ ih => exact fun q hq => (List.mem_cons.1 hq).elim (fun h1 => h1 ▸ .inl ⟨_, _, hp⟩) (ih q)
      | lendV hp _ _ _ ih => exact fun q hq => (List.mem_cons.1 hq).elim (fun h1 => h1 ▸ .inl ⟨_, _, hp⟩) (ih q)
      | lendO hp _ _ _ _ _ ih => exact fun q hq => (List.mem_cons.1 hq).elim (fun h1 => h1 ▸ .inr ⟨_, _, _, rfl, hp⟩) (ih q)
      | move _ _ ih => exact ih
      | pv _ _ ih => exact ih
      | nilsP _ _ ih => exact ih
      | nilsO _ _ ih => exact ih
      | nils _ ih => exact ih
      | ptr _ _ ih => exact ih
      | mp _ _ ih => exact ih
      | os _ _ ih => exact ih
      | fn _ _ ih => exact ih
      | agg _ _ ih => exact ih
    exact key hp
  have hLtom : ∀ b, Lt b → E.om b := by
    rintro b ⟨p, hpL, ⟨hb, e, xs, hpo⟩ | ⟨o, i, y, rfl, hy, rfl⟩⟩
    · obtain ⟨_, _, _, _, h4⟩ := h.place p _ hpo
      exact h4 b hb
    · exact (h.obj o y hy).1
  have hLt : ∀ b, Lt b → ¬ OmC E ρ H args vals b := by
    rintro b ⟨p, hpL, hb⟩ hc
    obtain ⟨hl1, hl2⟩ := hok.lent p hpL
    rcases hb with ⟨hb, e, xs, hpo⟩ | ⟨o0, i0, y0, rfl, hy0, rfl⟩
    · rcases hc with ⟨o, y, h1, h2⟩ | ⟨o, y, i, e', ys, h1, h2, h3⟩ | ⟨i, e', ys, x, h1, h2, h3⟩
      · exact h.i3 p e xs _ _ b hpo (hok.hH o y h1) hb h2
      · have hat : s.at (.cell (ρ o) i) = some (.own e' ys) := by
          rw [at_cell, hok.hH o y h1]
          simp only [HO.ren_list, List.getElem?_map, h2, Option.map_some]; rfl
        exact (hl2 o y i h1).1 (h.i2 _ _ _ _ _ _ b hpo hat hb h3)
      · rcases hmv h1 h2 with ⟨rfl, rfl⟩ | ⟨q, hm, hqo, rfl⟩
        · simp [Value.ownBlock] at h3
        · have := h.i2 _ _ _ _ _ _ b hpo hqo hb h3
          subst this
          exact hl1 hm
    · rcases hc with ⟨o, y, h1, h2⟩ | ⟨o, y, i, e', ys, h1, h2, h3⟩ | ⟨i, e', ys, x, h1, h2, h3⟩
      · have := h.i1 _ _ _ _ hy0 (hok.hH o y h1) h2.symm
        subst this
        exact (hl2 o y i0 h1).2 rfl
      · have hat : s.at (.cell (ρ o) i) = some (.own e' ys) := by
          rw [at_cell, hok.hH o y h1]
          simp only [HO.ren_list, List.getElem?_map, h2, Option.map_some]; rfl
        exact h.i3 _ _ _ _ _ _ hat hy0 h3 rfl
      · rcases hmv h1 h2 with ⟨rfl, rfl⟩ | ⟨q, hm, hqo, rfl⟩
        · simp [Value.ownBlock] at h3
        · exact h.i3 _ _ _ _ _ _ hqo hy0 h3 rfl
  have hent := entry k1 (ρ := ρ) (H := H) (Lt := Lt) (args := args) (vals := vals) hH1 hok.inj hok.hp hLt ha
  have hGc : GOK P (fun b => OmC E ρ H args vals b ∨ ((E.om b ∨ F b) ∧ ¬ OmC E ρ H args vals b ∧ ¬ Lt b)) w := hG.mono (fun b _ hn => ⟨fun hc => hn (hc.elim (fun h1 => .inl (OmC_om k1 ha hH1 h1)) (fun h1 => h1.1)), rfl⟩) (Nat.le_refl _)
  refine ⟨_, _, hGc, hent, f1, fun rs H' E' us w' hul hR q2 q3 q4 q5 => ?_⟩
  have hmem : ∀ {o : Nat} {y : HO} {G : List (Nat × HO)}, look o G = some y → o ∈ namesOf G := fun hy => List.mem_map.2 ⟨_, look_mem hy, rfl⟩
  have hinj' : ∀ o o' y y', look o H' = some y → look o' H' = some y' → ρ o = ρ o' → o = o' := fun o o' y y' hy hy' he => q3 o (hmem hy) o' (hmem hy') he
  have hnone : ∀ q, look q s.hp = none → look q (handOver s ρ m H).hp = none := by
    intro q hq
    cases hc : look q (handOver s ρ m H).hp with
    | none => rfl
    | some y =>
      rw [hs1, k2] at hc
      obtain ⟨y', hy'⟩ := g3 q y hc
      rw [hq] at hy'; cases hy'
  obtain ⟨r1, r2⟩ := leave k1 (ρ := ρ) (H := H) (H' := H') (Lt := Lt) (args := args) (rs := rs) (vals := vals) (us := us) hH1 hLtom ha hinj'
    (fun o y hy hn => hnone _ (q4 o (hmem hy) hn))
    (fun p v q hpv hq o y i hy he => by
      cases hl : look o H with
      | some z => exact k5 p v q hpv hq (ρ o) (List.mem_map.2 ⟨o, hmem hl, rfl⟩) i he
      | none =>
        obtain ⟨_, ⟨e, xs, h7⟩, _⟩ := k1.na p v q hpv hq
        subst he
        rw [at_cell] at h7
        have h8 := hnone _ (q4 o (hmem hy) hl)
        rw [hs1] at h8
        rw [h8] at h7
        cases h7)
    hR (q5.imp (fun hL b ⟨p, hpL, _⟩ => by rw [hL] at hpL; cases hpL) (fun hc => ⟨fun r hr => List.all_eq_true.1 hc.1 r hr, fun o y hy => (by have := List.all_eq_true.1 hc.2 (o, y) (look_mem hy); exact this)⟩))
    (hp := updHp ρ H' (handOver s ρ m H).hp) (fun o y hy => updHp_in ρ H' _ o y q2 q3 hy) (fun q hq => updHp_out ρ H' _ q (fun o ho he => by
      obtain ⟨y, hy⟩ := look_some_of_mem ho
      exact hq o y hy he))
  have hn1 : (killOs ((namesOf H).map ρ) (giveUp m s)).n = s.n := by rw [k3, g5]
  rw [hn1] at r1 r2
  refine ⟨⟨_, r1⟩, fun q1 d => ?_⟩
  obtain ⟨E2, hE2⟩ := afterCall_sound r1 (ρ := ρ) d hul q1 r2
  exact ⟨E2, hE2⟩
end
/-- A call of f may come back, or panic with a value. -/
def FnP (P : Program) (f : FuncId) (H : List (Nat × HO)) (args : List SV) (Ψ : List SV → List (Nat × HO) → Prop) (Υ : PV → List (Nat × HO) → Prop) : Prop :=
  (∃ fn, P.funcs[f]? = some fn ∧ (fn.name == "runtime.NumGoroutine") = false ∧ fn.body.isNone = false) ∧ ∀ (F : Nat → Prop) (w : World) (E : Env) (vals : List Value), vals.length = args.length → GOK P (fun b => E.om b ∨ F b) w → Rel P ⟨E.om, obOf E H⟩ w F ⟨vals.length, zslots args 0, H⟩ E vals.toArray w →
    Calls P f vals.toArray w (fun
      | .returned v, w' => ∃ rs H' E' us, Ψ rs H' ∧ us.length = rs.length ∧ v = pack us ∧ Rel P ⟨E.om, obOf E H⟩ w F ⟨us.length, zslots rs 0, H'⟩ E' us.toArray w'
      | .panicked ch, w' => ∃ p H' E', Υ p H' ∧ Pan ch p ∧ Rel P ⟨E.om, obOf E H⟩ w F ⟨0, [], H'⟩ E' #[] w'
      | .outgrown, _ => False)

section
variable {P : Program} {R : Option Nat} {Φ : Exit → Cx → St → Prop} {k : List It} {C : Cx} {s : St}
theorem AW.out {ch : List PanicEntry} : ∀ {k : List It}, AW P R Φ (.panic ch) [] C s → AW P R Φ (.panic ch) k C s
  | [], h => h
  | x :: k, h => fun B a w ha => by
    have := AW.out (k := k) h B a w ha
    cases x <;> exact this

/-- A call that may panic. -/
theorem AW.callP {all : Array Oper} {o : Oper} {r : List Oper} {c : Call} {fx : Operand} {f : FuncId} {caps svs : List SV} {ρ : Nat → Nat} {H : List (Nat × HO)} {args : List SV} {L : List Place} {m : Option Place} {Ψ : List SV → List (Nat × HO) → Prop} {Υ : PV → List (Nat × HO) → Prop} {d : Nat}
    (hg : o.guard = none) (ho : o.op = .call c) (hd : o.dst = some d) (hc : c.callee = .value fx) (hf : ev s fx = some (.fn f caps)) (hx : evs s c.args.toList = some svs)
    (hp : Pass P s ρ (svs ++ caps) args L m) (hok : CallOK s ρ H args L m) (hF : FnP P f H args Ψ Υ)
    (hk : ∀ rs H', Ψ rs H' → rs.all resOK = true ∧ (namesOf H').Nodup ∧ (∀ o ∈ namesOf H', ∀ o' ∈ namesOf H', ρ o = ρ o' → o = o') ∧ (∀ o ∈ namesOf H', look o H = none → look (ρ o) s.hp = none) ∧ (L = [] ∨ (rs.all SV.clo = true ∧ H'.all (fun y => y.2.clo) = true)) ∧
      AW P R Φ .normal (.ops all r :: k) C (afterCall ρ d rs ⟨s.n, (handOver s ρ m H).sl, updHp ρ H' (handOver s ρ m H).hp⟩))
    (hq : ∀ p H', Υ p H' → (namesOf H').Nodup ∧ (∀ o ∈ namesOf H', ∀ o' ∈ namesOf H', ρ o = ρ o' → o = o') ∧ (∀ o ∈ namesOf H', look o H = none → look (ρ o) s.hp = none) ∧ (L = [] ∨ H'.all (fun y => y.2.clo) = true) ∧
      ∀ ch, Pan ch p → AW P R Φ (.panic ch) [] C ⟨s.n, (handOver s ρ m H).sl, updHp ρ H' (handOver s ρ m H).hp⟩) :
    AW P R Φ .normal (.ops all (o :: r) :: k) C s := fun B a w ha => by
  simp only [den]
  refine wpListIn_want (by simp [Region.wanted, hg]) (fun c' hc' => by rw [ho] at hc'; cases hc') ?_
  obtain ⟨fn, hfn, hname, hbody⟩ := hF.1
  obtain ⟨hdf, E, h⟩ := ha
  obtain ⟨cvs, e1, e2, e3⟩ := (ev_rs h hf).fn_inv
  obtain ⟨h1, h2⟩ := evs_sound h hx
  have hrun : (execOp a.eval o).run P w = .ok (.enter f (c.args.toList.map a.eval ++ cvs).toArray) w := by
    have hargs : c.args.map a.eval ++ cvs.toArray = (c.args.toList.map a.eval ++ cvs).toArray := by apply Array.ext'; simp
    have hbody' : ∃ b, fn.body = some b := by cases hb : fn.body with | none => simp [hb] at hbody | some b => exact ⟨b, rfl⟩
    obtain ⟨b, hb⟩ := hbody'
    have hname' : ¬ fn.name = "runtime.NumGoroutine" := by simpa using hname
    simp [execOp, ho, resolve, hc, e1, Deferred.ofValue, invoke, callFunc, hfn, hname', hb, hargs]
  rw [hrun, Oper.uponIn_enter]
  refine ⟨fun h => by simp [fence, Fence.wide] at h, callsIn_fence ?_⟩
  obtain ⟨F', E0, hGc, hent, f1, hback⟩ := call_core h (Rel.gok hdf.2.2 h) (ρ := ρ) (H := H) (svs := svs ++ caps) (args := args) (L := L) (m := m) (vals := c.args.toList.map a.eval ++ cvs) (by simp [e2, h1]) (fun i v x hi hxi => by
      by_cases hlt : i < svs.length
      · rw [List.getElem?_append_left hlt] at hi
        rw [List.getElem?_append_left (by simp [← h1]; exact hlt), List.getElem?_map, Option.map_eq_some_iff] at hxi
        obtain ⟨x0, hx0, rfl⟩ := hxi
        exact ev_rs h (h2 i x0 v hx0 hi)
      · rw [List.getElem?_append_right (by omega)] at hi
        rw [List.getElem?_append_right (by simp [← h1]; omega)] at hxi
        have : i - (c.args.toList.map a.eval).length = i - svs.length := by simp [← h1]
        rw [this] at hxi
        exact e3 _ v x hi hxi) hp hok
  refine (hF.2 F' w E0 _ f1 hGc hent).mono (fun e w' he => ?_)
  cases e with
  | outgrown => exact he.elim
  | panicked ch =>
    obtain ⟨p, H', E', hU, hpan, hR⟩ := he
    obtain ⟨q2, q3, q4, q5, q6⟩ := hq p H' hU
    obtain ⟨⟨E1, h1⟩, _⟩ := hback [] H' E' [] w' rfl hR q2 q3 q4 (q5.imp id fun h => ⟨rfl, h⟩)
    exact AW.out (k := k) (q6 ch hpan) B a w' ⟨hdf, E1, h1⟩
  | returned v =>
    obtain ⟨rs, H', E', us, hΨ, hul, rfl, hR⟩ := he
    obtain ⟨q1, q2, q3, q4, q5, q6⟩ := hk rs H' hΨ
    obtain ⟨E2, hE2⟩ := (hback rs H' E' us w' hul hR q2 q3 q4 q5).2 q1 d
    refine q6 B _ w' ⟨by rw [put_defers]; exact hdf, E2, ?_⟩
    rw [hd]; exact hE2

def okPn (s : St) (ρ : Nat → Nat) (H : List (Nat × HO)) (L : List Place) (H' : List (Nat × HO)) : Bool :=
  nodupB ((namesOf H').map ρ) && freshO s ρ H H' && (nilL L || H'.all (fun y => y.2.clo))
def behindP (s : St) (ρ : Nat → Nat) (m : Option Place) (H : List (Nat × HO)) (H' : List (Nat × HO)) : St :=
  ⟨s.n, (handOver s ρ m H).sl, updHp ρ H' (handOver s ρ m H).hp⟩
theorem AW.callPX {all : Array Oper} {o : Oper} {r : List Oper} {f : FuncId} {svs : List SV} {H : List (Nat × HO)} {args : List SV} {L : List Place} {m : Option Place} {Ψ : List SV → List (Nat × HO) → Prop} {Υ : PV → List (Nat × HO) → Prop} {d : Nat} (ρ : Nat → Nat)
    (hg : o.guard = none) (hd : o.dst = some d) (hc : callOp s o.op = some (f, svs)) (hF : FnP P f H args Ψ Υ) (hP : Pass P s ρ svs args L m) (hM : HM s ρ H) (hB : okB ρ H args L m = true)
    (hk : ∀ rs H', Ψ rs H' → okA s ρ H L rs H' = true ∧ AW P R Φ .normal (.ops all r :: k) C (behind s ρ m H d rs H'))
    (hq : ∀ p H', Υ p H' → okPn s ρ H L H' = true ∧ ∀ ch, Pan ch p → AW P R Φ (.panic ch) [] C (behindP s ρ m H H')) :
    AW P R Φ .normal (.ops all (o :: r) :: k) C s := by
  cases ho : o.op with
  | call c =>
    rw [ho] at hc
    simp only [callOp] at hc
    split at hc
    · rename_i fx hcal
      unfold callO at hc
      split at hc
      · rename_i g caps hfx
        split at hc
        · rename_i vs hvs
          cases hc
          refine AW.callP hg ho hd hcal hfx hvs hP (.ofB hM hB) hF (fun rs H' hΨ => ?_) (fun p H' hU => ?_)
          · obtain ⟨h1, h2⟩ := hk rs H' hΨ
            simp only [okA, Bool.and_eq_true, Bool.or_eq_true] at h1
            obtain ⟨⟨⟨a1, a2⟩, a3⟩, a4⟩ := h1
            obtain ⟨b1, b2⟩ := nodupB_inj a2
            refine ⟨a1, b1, b2, freshO_spec a3, a4.imp (fun h => ?_) (fun h => h), h2⟩
            cases L with
            | nil => rfl
            | cons p r => cases h
          · obtain ⟨h1, h2⟩ := hq p H' hU
            simp only [okPn, Bool.and_eq_true, Bool.or_eq_true] at h1
            obtain ⟨⟨a2, a3⟩, a4⟩ := h1
            obtain ⟨b1, b2⟩ := nodupB_inj a2
            refine ⟨b1, b2, freshO_spec a3, a4.imp (fun h => ?_) (fun h => h), h2⟩
            cases L with
            | nil => rfl
            | cons p r => cases h
        · cases hc
      · cases hc
    · cases hc
  | _ => rw [ho] at hc; simp [callOp] at hc

/-- A call that comes back in one way, or panics in one way. -/
theorem AW.callPE {all : Array Oper} {o : Oper} {r : List Oper} {f : FuncId} {svs : List SV} {H H' H'' : List (Nat × HO)} {args rs : List SV} {L : List Place} {m : Option Place} {d : Nat} {s' s'' : St} {c1 c2 : Prop} {p : PV} (ρ : Nat → Nat)
    (hF : FnP P f H args (fun rs' h => c1 ∧ rs' = rs ∧ h = H') (fun p' h => c2 ∧ p' = p ∧ h = H'')) (hP : Pass P s ρ svs args L m) (h2 : c2 → ∀ ch, Pan ch p → AW P R Φ (.panic ch) [] C s'') (h : c1 → AW P R Φ .normal (.ops all r :: k) C s') (hg : o.guard = none := by rfl) (hd : o.dst = some d := by rfl) (hc : callOp s o.op = some (f, svs) := by simp only [go_sem, ↓reduceIte] <;> rfl) (hM : HM s ρ H := by simp only [go_sem, ↓reduceIte]) (hB : okB ρ H args L m = true := by simp only [go_sem, ↓reduceIte])
    (hA : okA s ρ H L rs H' = true := by simp only [go_sem, ↓reduceIte]) (hs : behind s ρ m H d rs H' = s' := by simp only [go_sem, ↓reduceIte] <;> rfl) (hA' : okPn s ρ H L H'' = true := by simp only [go_sem, ↓reduceIte, okPn]) (hs' : behindP s ρ m H H'' = s'' := by simp only [go_sem, ↓reduceIte, behindP] <;> rfl) :
    AW P R Φ .normal (.ops all (o :: r) :: k) C s := AW.callPX ρ hg hd hc hF hP hM hB (fun rs' h' ⟨hc1, e1, e2⟩ => by subst e1; subst e2; exact ⟨hA, by rw [hs]; exact h hc1⟩) (fun p' h' ⟨hc2, e1, e2⟩ => by subst e1; subst e2; exact ⟨hA', by rw [hs']; exact h2 hc2⟩)

/-- panic(x) -/
theorem AW.panicO {all : Array Oper} {o : Oper} {r : List Oper} {x : Operand} {t : TypeId} {p : PV} (h : ∀ ch, Pan ch (.iface t p) → AW P R Φ (.panic ch) [] C s) (hg : o.guard = none := by rfl) (ho : o.op = .panic x := by rfl) (hx : ev s x = some (.pv (.iface t p)) := by simp only [go_sem, ↓reduceIte] <;> rfl) (hs : p.solid = true := by rfl) :
    AW P R Φ .normal (.ops all (o :: r) :: k) C s := fun B a w ha => by
  simp only [den]
  refine wpListIn_want (by simp [Region.wanted, hg]) (fun c' hc' => by rw [ho] at hc'; cases hc') ?_
  obtain ⟨hd, E, hE⟩ := ha
  have h1 := ev_pv hE hx
  generalize hxe : a.eval x = y at h1
  cases h1 with | iface _ _ z hz => ?_
  have hrun : (execOp a.eval o).run P w = .halt (.panic (.iface t z)) w := by simp [execOp, ho, hxe, Instr.panic, goPanic]
  rw [hrun, Oper.uponIn_panic]
  exact AW.out (h _ ⟨_, rfl, by simpa only [PV.solid] using hs, _, _, .iface t p z hz⟩) B a w ⟨hd, E, hE⟩
end
section
variable {P : Program} {F : Nat → Prop} {w w' : World} {E E' : Env} {s' : St} {a : Act} {H H' : List (Nat × HO)}
/-- What a body leaves. -/
theorem body_out (hE : Rel P ⟨E.om, obOf E H⟩ w F s' E' a.tmps w') {svs rs : List SV} {us : List Value} {L : List Place} {m : Option Place} (k2 : us.length = svs.length) (k3 : ∀ (i : Nat) (v : SV) (x : Value), svs[i]? = some v → us[i]? = some x → RS P (fun b => E'.om b ∨ F b) E' w' v x) (h2 : Pass P s' id svs rs L m) (h3 : CallOK s' id H' rs L m) (h4 : ∀ o y, look o H = some y → ∃ z, look o H' = some z) :
    us.length = rs.length ∧ ∃ E'', Rel P ⟨E.om, obOf E H⟩ w F ⟨us.length, zslots rs 0, H'⟩ E'' us.toArray w' := by
  obtain ⟨Lt, p1, p2, p3, p4, p5⟩ := prep hE k2 k3 h2 h3
  have hent := entry p4 (ρ := id) (H := H') (Lt := Lt) (args := rs) (vals := us) p5 h3.inj h3.hp p2 p3
  have hom : ∀ b, OmC E' id H' rs us b → E'.om b := fun b hb => OmC_om p4 p3 p5 hb
  have hfin := hent.rebase (O0 := ⟨E.om, obOf E H⟩) (w0 := w) (F := F) (fun b hb => ⟨.inr hb, fun hc => (hE.om_lt b (hom b hc)).2 hb, fun hc => (hE.om_lt b (p1 b hc)).2 hb⟩) (fun b hb => hE.om0 b (hom b hb)) hE.gr hE.flt (fun o b hb => by
    obtain ⟨q1, _⟩ := hE.ob o b hb
    refine ⟨q1, ?_⟩
    simp only [obOf] at hb
    split at hb
    · rename_i y hy; exact h4 o y hy
    · cases hb)
  exact ⟨p3.len, _, hfin⟩
end
/-- How a body may end that may panic. -/
def EndsP (P : Program) (res : List ResultVar) (H : List (Nat × HO)) (Ψ : List SV → List (Nat × HO) → Prop) (Υ : PV → List (Nat × HO) → Prop) (C : Cx) (e : Exit) (C' : Cx) (s' : St) : Prop :=
  Ends P res H Ψ C e C' s' ∨ (C' = C ∧ ∃ p ch H', e = .panic ch ∧ Pan ch p ∧ CallOK s' id H' [] [] none ∧ (∀ o y, look o H = some y → ∃ z, look o H' = some z) ∧ Υ p H')

theorem FnP.of_body {P : Program} {f : FuncId} {fn : Func} {c : Code} {H : List (Nat × HO)} {args : List SV} {Ψ : List SV → List (Nat × HO) → Prop} {Υ : PV → List (Nat × HO) → Prop} {n : Nat} {res : List ResultVar} (hf : P.funcs[f]? = some fn) (hb : fn.body = some c) (hn : n = args.length + (fn.ntmps - args.length)) (hres : fn.results.toList = res) (hname : (fn.name == "runtime.NumGoroutine") = false) (hH : H.all (fun y => decide (1000 ≤ y.1)) = true)
    (h : ∀ C, AW P none (EndsP P res H Ψ Υ C) .normal [.code c] C ⟨n, zslots args 0, H⟩) : FnP P f H args Ψ Υ := ⟨⟨fn, hf, hname, by simp [hb]⟩, fun F w E vals hl hG hR => by
  subst hres
  refine calls_of_wp hf hb ?_
  have h0 := hR.extend (u := Array.replicate (fn.ntmps - vals.toArray.size) undef) (n := n) (by simp [hn, hl])
  let B0 : Bs := ⟨⟨E.om, obOf E H⟩, w, F⟩
  have hw := h (fun B d => B = B0 ∧ d = []) B0 { tmps := vals.toArray ++ Array.replicate (fn.ntmps - vals.toArray.size) undef, defers := [] } w ⟨⟨⟨rfl, rfl⟩, (fun o ho => by
    show obOf E H o = none
    unfold obOf
    split
    · rename_i y hy
      have := List.all_eq_true.1 hH _ (look_mem hy)
      simp at this
      simp only [lim] at ho
      omega
    · rfl), hG⟩, E, h0⟩
  simp only [den] at hw
  refine wp_mono ((wpIn_wide (n := 0)).1 hw) (fun e a w' hq => ?_)
  obtain ⟨C', s', B, hend, ⟨⟨hC, _⟩, E', hE⟩⟩ := hq
  rcases hend with ⟨rfl, he, svs, rs, H', L, m, h1, h2, h3, h4, h5⟩ | ⟨rfl, p, ch, H', rfl, hpan, h3, h4, h5⟩
  · obtain ⟨rfl, hd⟩ := hC
    obtain ⟨us, k1, k2, k3⟩ := h1.sound hE
    obtain ⟨q1, E'', q2⟩ := body_out hE k2 k3 h2 h3 h4
    have hfin' : a.defers = [] ∧ ∃ v, (results fn a.tmps).run P w' = .ok v w' ∧ ∃ rs H' E' us, Ψ rs H' ∧ us.length = rs.length ∧ v = pack us ∧ Rel P ⟨E.om, obOf E H⟩ w F ⟨us.length, zslots rs 0, H'⟩ E' us.toArray w' :=
      ⟨hd, pack us, run_results k1, rs, H', _, us, h5, q1, rfl, q2⟩
    rcases he with rfl | rfl
    · exact hfin'
    · exact hfin'
  · obtain ⟨rfl, hd⟩ := hC
    obtain ⟨q1, E'', q2⟩ := body_out hE (svs := []) (us := []) rfl (by simp) .nil h3 h4
    exact ⟨hd, p, H', E'', h5, hpan, q2⟩⟩

section
variable {P : Program} {R : Option Nat} {C : Cx} {s : St}
theorem AW.finP {res : List ResultVar} {H H' : List (Nat × HO)} {Ψ : List SV → List (Nat × HO) → Prop} {Υ : PV → List (Nat × HO) → Prop} {e : Exit} {svs rs : List SV} {L : List Place} {m : Option Place} (hP : Pass P s id svs rs L m) (hΨ : Ψ rs H') (he : e = .normal ∨ e = .ret := by first | exact .inl rfl | exact .inr rfl) (hv : retsV P s res = some svs := by simp only [go_sem, ↓reduceIte] <;> rfl) (hM : HM s id H' := by simp only [go_sem, ↓reduceIte]; try trivial) (hB : okB id H' rs L m = true := by simp only [go_sem, ↓reduceIte])
    (hn : allIn H H' = true := by simp only [go_sem, ↓reduceIte]) : AW P R (EndsP P res H Ψ Υ C) e [] C s :=
  AW.nil (.inl ⟨rfl, he, svs, rs, H', L, m, retsV_spec hv, hP, .ofB hM hB, (fun o y hy => by
    have := List.all_eq_true.1 hn (o, y) (look_mem hy)
    simp only at this
    split at this
    · rename_i z hz; exact ⟨z, hz⟩
    · cases this), hΨ⟩)
theorem AW.endP {res : List ResultVar} {H H' : List (Nat × HO)} {Ψ : List SV → List (Nat × HO) → Prop} {Υ : PV → List (Nat × HO) → Prop} {ch : List PanicEntry} {p : PV} (hpan : Pan ch p) (hU : Υ p H') (hM : HM s id H' := by simp only [go_sem, ↓reduceIte]; try trivial) (hB : okB id H' [] [] none = true := by simp only [go_sem, ↓reduceIte])
    (hn : allIn H H' = true := by simp only [go_sem, ↓reduceIte]) : AW P R (EndsP P res H Ψ Υ C) (.panic ch) [] C s :=
  AW.nil (.inr ⟨rfl, p, ch, H', rfl, hpan, .ofB hM hB, (fun o y hy => by
    have := List.all_eq_true.1 hn (o, y) (look_mem hy)
    simp only at this
    split at this
    · rename_i z hz; exact ⟨z, hz⟩
    · cases this), hU⟩)
end
end Go.Ck
