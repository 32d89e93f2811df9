/- What is proved here: parts of the proofs of this seat's statements (a verified evaluator for calls over pure values, its laws, and contracts of functions). No condition. -/
import Derived.Test.YthjibccogjggbaaKs
import Derived.Test.YthjibccogjggbaaKo
set_option linter.all false
set_option linter.unusedVariables false
set_option maxRecDepth 10000
namespace Go.Ck
open Go.Proofs
theorem via {T Q : Prop} (h : (Unit → T) → Q) (t : T) : Q := h (fun _ => t)
theorem read_fn (b : List Nat) (hb : ∀ x ∈ b, x < 256) : Fn Try.prog 79 [] [.pv (.sl 1 (bytes b))] (fun rs H' => rs = [.pv (.int .u64 ((readV b).1 : Nat)), .pv (.int .i64 ((readV b).2.1 : Nat)), .pv (.int .i64 (readV b).2.2)] ∧ H' = []) := by
  refine Fn.of_body (fn := Try.f79) (n := 47) (res := [.tmp 2, .tmp 3, .tmp 4]) (by kernel_rfl) rfl rfl rfl rfl rfl (fun C => ?_)
  have hm : (if (10 : Int) < (b.length : Int) then (10 : Int) else (b.length : Int)) = ((b.take 10).length : Nat) := by
    rw [List.length_take]; split <;> omega
  have h1 : (b.take 10).length ≤ b.length := by simp; omega
  have h2 : b.take (b.take 10).length = b.take 10 := by rw [List.length_take]; simp [List.take_eq_take_iff]
  refine AW.go ?_ (by simp only [go_sem, ↓reduceIte, hm, h1, h2] <;> rfl)
  have hbb : ∀ x ∈ b.take 10, x < 256 := fun x hx => hb x (List.mem_of_mem_take hx)
  have hlen : (b.take 10).length ≤ 10 := by simp; omega
  unfold readV
  generalize b.take 10 = c at hbb hlen ⊢
  refine AW.loopS (fun a : Nat × Nat => ⟨47, [(14, .pv (.int .i64 a.1)), (5, .pv (.int .u64 a.2)), (12, .pv (.sl 1 (bytes c))), (13, .pv (.int .i64 c.length))], []⟩) (fun a => a.1 ≤ c.length ∧ rdv a.1 a.2 (c.drop a.1) = rdv 0 0 c ∧ a.2 < 128 ^ a.1) (fun a => c.length - a.1) [14, 5, 12, 13] [] (0, 0) ⟨Nat.zero_le _, rfl, by simp⟩ ?_
  rintro ⟨i, v⟩ ⟨hi, hr, hv⟩ K hK
  simp only at hi hr hv
  refine AW.go ?_
  refine AW.cond rfl (fun hc => ?_) (fun hc => ?_)
  · have hlt : i < c.length := by simpa using hc
    have hx := hbb c[i] (List.getElem_mem hlt)
    have hget := bytes_get hlt
    rw [List.drop_eq_getElem_cons hlt] at hr
    simp only [rdv] at hr
    generalize c[i] = x at hx hget hr
    have hvlt : v < 2 ^ 64 := by
      have : 128 ^ i ≤ 128 ^ 9 := Nat.pow_le_pow_right (by omega) (by omega)
      omega
    have hp : 128 ^ (i + 1) = 128 ^ i * 128 := Nat.pow_succ ..
    have e9 : ((i : Int) == 9) = decide (i = 9) := by rw [Bool.eq_iff_iff]; simp; omega
    have e1 : decide ((x : Int) > 1) = decide (1 < x) := by rw [Bool.eq_iff_iff]; simp; omega
    have e7 : IntKind.i64.wrap (7 * (i : Int)) = ((7 * i : Nat) : Int) := by rw [wrap_i64_of (by omega) (by omega)]; omega
    have hu : IntKind.u64.wrap ((x % 128 : Nat) : Int) = ((x % 128 : Nat) : Int) := wrap_u64_lt (by omega)
    have ei : IntKind.i64.wrap ((i : Int) + 1) = ((i + 1 : Nat) : Int) := wrap_i64_succ (by omega)
    by_cases h9 : i = 9 ∧ 1 < x
    · obtain ⟨k1, k2⟩ := h9
      rw [if_pos ⟨k1, k2⟩] at hr
      have b1 : decide (i = 9) = true := by simpa using k1
      have b2 : decide (1 < x) = true := by simpa using k2
      refine AW.gg ?_ (by simp only [go_sem, ↓reduceIte, hget, e9, e1, b1, b2] <;> rfl)
      refine AW.condT rfl ?_
      refine AW.go ?_
      refine AW.finE (.pv _ (.pv _ (.pv _ .nil))) ?_
      rw [← hr]; rfl
    · rw [if_neg h9] at hr
      have ea : ibits .andNot .u8 (x : Int) 128 = ((x % 128 : Nat) : Int) := andNot128 hx
      have hi9 : i ≤ 9 := by omega
      have hpw : 128 ^ i ≤ 128 ^ 9 := Nat.pow_le_pow_right (by omega) hi9
      have hxs : x % 128 * 128 ^ i < 2 ^ 64 := by
        by_cases k : i = 9
        · subst k
          have : x ≤ 1 := by omega
          have h1 : x % 128 * 128 ^ 9 ≤ 1 * 128 ^ 9 := Nat.mul_le_mul_right _ (by omega)
          omega
        · have h2 : 128 ^ i ≤ 128 ^ 8 := Nat.pow_le_pow_right (by omega) (by omega)
          have h1 : x % 128 * 128 ^ i ≤ 127 * 128 ^ i := Nat.mul_le_mul_right _ (by omega)
          omega
      have eo := or_shift (a := v) (x := x % 128) (k := i) hv hxs hvlt (by omega)
      refine via (T := ?T) (fun hT => ?_) ?_
      rotate_left
      · by_cases k : i = 9
        · have b1 : decide (i = 9) = true := by simpa using k
          refine AW.gg ?_ (by simp only [go_sem, ↓reduceIte, hget, e9, b1] <;> rfl)
          refine AW.cond rfl (fun hc2 => absurd ⟨k, by simp at hc2; omega⟩ h9) (fun hc2 => ?_)
          refine AW.keepB [5, 6, 7, 12, 13, 14] [] (by simp only [go_sem, ↓reduceIte]) (by simp only [go_sem, ↓reduceIte] <;> rfl) ?_
          exact hT ()
        · have b1 : decide (i = 9) = false := by simpa using k
          refine AW.gg ?_ (by simp only [go_sem, ↓reduceIte, hget, e9, b1] <;> rfl)
          refine AW.condF rfl ?_
          refine AW.keepB [5, 6, 7, 12, 13, 14] [] (by simp only [go_sem, ↓reduceIte]) (by simp only [go_sem, ↓reduceIte] <;> rfl) ?_
          exact hT ()
      refine AW.go ?_ (by simp only [go_sem, ↓reduceIte, ea, e7, hu, eo] <;> rfl)
      refine AW.cond rfl (fun hc2 => ?_) (fun hc2 => ?_)
      · have h128 : 128 ≤ x := by simp at hc2; omega
        rw [if_pos h128] at hr
        refine AW.go ?_ (by simp only [go_sem, ↓reduceIte, ei] <;> rfl)
        refine AW.again hK (i + 1, v + x % 128 * 128 ^ i) ⟨hlt, hr, ?_⟩ (by simp only; omega)
        simp only
        rw [hp]
        have h1 : x % 128 * 128 ^ i ≤ 127 * 128 ^ i := Nat.mul_le_mul_right _ (by omega)
        omega
      · have h128 : ¬ 128 ≤ x := by simp at hc2; omega
        rw [if_neg h128] at hr
        have hxm : x % 128 = x := Nat.mod_eq_of_lt (by omega)
        have e0 : ((x : Int) == 0) = decide (x = 0) := by rw [Bool.eq_iff_iff]; simp
        have ep : decide ((i : Int) > 0) = decide (0 < i) := by rw [Bool.eq_iff_iff]; simp
        rw [hxm]
        by_cases k0 : x = 0
        · have b1 : decide (x = 0) = true := by simpa using k0
          refine AW.gg ?_ (by simp only [go_sem, ↓reduceIte, e0, b1] <;> rfl)
          refine AW.cond rfl (fun hc3 => ?_) (fun hc3 => ?_)
          · have : 0 < i := by simp at hc3; omega
            rw [if_pos ⟨k0, this⟩] at hr
            refine AW.go ?_
            refine AW.finE (.pv _ (.pv _ (.pv _ .nil))) ?_
            rw [← hr]; rfl
          · have : ¬ 0 < i := by simp at hc3; omega
            rw [if_neg (fun h => this h.2)] at hr
            refine AW.go ?_ (by simp only [go_sem, ↓reduceIte, ei] <;> rfl)
            refine AW.finE (.pv _ (.pv _ (.pv _ .nil))) ?_
            rw [← hr]
        · have b1 : decide (x = 0) = false := by simpa using k0
          refine AW.gg ?_ (by simp only [go_sem, ↓reduceIte, e0, b1] <;> rfl)
          refine AW.condF rfl ?_
          rw [if_neg (fun h => k0 h.1)] at hr
          refine AW.go ?_ (by simp only [go_sem, ↓reduceIte, ei] <;> rfl)
          refine AW.finE (.pv _ (.pv _ (.pv _ .nil))) ?_
          rw [← hr]
  · have hge : ¬ i < c.length := by simpa using hc
    rw [List.drop_eq_nil_of_le (by omega), rdv] at hr
    refine AW.go ?_
    refine AW.finE (.pv _ (.pv _ (.pv _ .nil))) ?_
    rw [← hr]; rfl
end Go.Ck

set_option linter.unusedVariables false
namespace Go.Ck
/-- Bytes, the first the greatest. -/
def beN (l : List Nat) : Nat := l.foldl (fun a x => a * 256 + x) 0
theorem beN_snoc (l : List Nat) (x : Nat) : beN (l ++ [x]) = beN l * 256 + x := by simp [beN]
theorem beN_lt (l : List Nat) (h : ∀ x ∈ l, x < 256) : beN l < 256 ^ l.length := by
  have : ∀ (n : Nat) (l : List Nat), l.length = n → (∀ x ∈ l, x < 256) → beN l < 256 ^ n := by
    intro n
    induction n with
    | zero => intro l hl _; rw [List.length_eq_zero_iff.1 hl]; simp [beN]
    | succ n ih =>
      intro l hl h
      have hne : l ≠ [] := by rintro rfl; simp at hl
      rw [← List.dropLast_concat_getLast hne, beN_snoc]
      have h1 := ih l.dropLast (by simp; omega) (fun x hx => h x (List.dropLast_subset l hx))
      have h2 := h _ (List.getLast_mem hne)
      rw [Nat.pow_succ]
      omega
  exact this _ l rfl h
/-- A number in n bytes. -/
def beB (v : Nat) : Nat → List Nat
  | 0 => []
  | n + 1 => (v / 256 ^ n % 256) :: beB v n
theorem beB_len (v n : Nat) : (beB v n).length = n := by induction n with | zero => rfl | succ n ih => simp [beB, ih]
theorem beB_byte (v n : Nat) : ∀ x ∈ beB v n, x < 256 := by
  induction n with
  | zero => simp [beB]
  | succ n ih => intro x hx; rcases List.mem_cons.1 hx with rfl | hx
                 · omega
                 · exact ih x hx
theorem or_lt256 {a x : Nat} (ha : a < 2 ^ 56) (hx : x < 256) : ibits .or .u64 (shlI .u64 (a : Int) 8) (x : Int) = ((a * 256 + x : Nat) : Int) := by
  have h8 : ((8 : Nat) : Int) = 8 := rfl
  have := shlI_nat64 a 8 (by omega)
  rw [h8] at this
  rw [this, show (2 : Nat) ^ 8 = 256 from rfl, Nat.mod_eq_of_lt (by omega), ibits_or64 (by omega) (by omega)]
  congr 1
  have := Nat.two_pow_add_eq_or_of_lt (i := 8) (b := x) (by omega) a
  rw [Nat.mul_comm a, ← this]
/-- The next block: bytes, why not, what is left. -/
def blk (l : List Nat) (m : Nat) : List Nat × Int × List Nat :=
  if (readV l).2.2 ≠ 0 then ([], (readV l).2.2, l) else if m < (readV l).1 then ([], 4, l) else if l.length - (readV l).2.1 < (readV l).1 then ([], 2, l)
  else ((l.drop (readV l).2.1).take (readV l).1, 0, l.drop ((readV l).2.1 + (readV l).1))
end Go.Ck
namespace Go.Ck
theorem rdv_take : ∀ (l : List Nat) (k acc n : Nat), k ≤ 9 → k + n = 10 → rdv k acc (l.take n) = rdv k acc l
  | [], k, acc, n, hk, h => by simp
  | x :: r, k, acc, 0, hk, h => by omega
  | x :: r, k, acc, n + 1, hk, h => by
    rw [List.take_succ_cons]
    simp only [rdv]
    split
    · rfl
    · rename_i h9
      split
      · rw [rdv_take r (k + 1) _ n (by omega) (by omega)]
      · rfl
theorem readV_eq (l : List Nat) : readV l = rdv 0 0 l := rdv_take l 0 0 10 (by omega) (by omega)
theorem beB_succ (v n : Nat) : beB v (n + 1) = (v / 256 ^ n % 256) :: beB v n := rfl
end Go.Ck

set_option linter.unusedVariables false
set_option maxRecDepth 10000
namespace Go.Ck
open Go.Proofs
theorem curVarint_fn (l : List Nat) (hl : l.length ≤ room) (hb : ∀ x ∈ l, x < 256) : Fn Try.prog 63 (curO l) [.ptr 1000 0]
    (fun rs H' => rs = [.pv (.int .u64 ((readV l).1 : Nat)), .pv (.int .i64 (readV l).2.2)] ∧ H' = curO (l.drop (readV l).2.1)) := by
  refine Fn.of_body (fn := Try.f63) (n := 26) (res := [.tmp 2, .tmp 3]) (by kernel_rfl) rfl rfl rfl rfl rfl (fun C => ?_)
  refine AW.go ?_
  refine AW.condF rfl ?_
  refine AW.go ?_
  refine AW.callE (fun _ => 0) (read_fn l hb) (.pv _ .nil) ?_
  refine AW.go ?_
  refine AW.callE id (take_fn l _ (readV_le l) hl) (.ptr rfl (.pv _ .nil)) ?_
  refine AW.go ?_
  refine AW.finE (.pv _ (.pv _ .nil)) rfl

theorem block_fn (l : List Nat) (hl : l.length + 20 ≤ room) : Fn Try.prog 25 [] [.pv (.sl 1 (bytes l))] (fun rs H' => rs = [.own 5 (bytes (leb l.length ++ l))] ∧ H' = []) := by
  refine Fn.of_body (fn := Try.f25) (n := 9) (res := [.tmp 2]) (by kernel_rfl) rfl rfl rfl rfl rfl (fun C => ?_)
  have hr : room < 2 ^ 63 := by decide
  have hu : IntKind.u64.wrap (l.length : Int) = (l.length : Int) := wrap_u64_lt (by omega)
  refine AW.go ?_ (by simp only [go_sem, ↓reduceIte, hu] <;> rfl)
  refine AW.callE (fun _ => 0) (append_fn [] l.length (by omega) (by simp; omega)) (.nilsP 1 (.pv _ .nil)) ?_
  have h10 := leb_len10 (v := l.length) (by omega)
  have hs : (leb l.length).length + l.length ≤ room := by omega
  refine AW.go ?_ (by simp only [go_sem, ↓reduceIte, List.nil_append, hs] <;> rfl)
  refine AW.finE (.move rfl .nil) rfl

theorem curBlock_fn (l : List Nat) (m : Nat) (hm : m < 2 ^ 63) (hl : l.length ≤ room) (hb : ∀ x ∈ l, x < 256) : Fn Try.prog 62 (curO l) [.ptr 1000 0, .pv (.int .i64 m)]
    (fun rs H' => rs = [.own 5 (bytes (blk l m).1), .pv (.int .i64 (blk l m).2.1)] ∧ H' = curO (blk l m).2.2) := by
  refine Fn.of_body (fn := Try.f62) (n := 55) (res := [.tmp 4, .tmp 5]) (by kernel_rfl) rfl rfl rfl rfl rfl (fun C => ?_)
  have hr : room < 2 ^ 63 := by decide
  have hle := readV_le l
  have hlt := readV_lt hb
  refine AW.gg ?_
  refine AW.condF rfl ?_
  refine AW.go ?_
  refine AW.callE (fun _ => 0) (read_fn l hb) (.pv _ .nil) ?_
  refine AW.go ?_
  unfold blk
  generalize (readV l).1 = v at *
  generalize (readV l).2.2 = e at *
  generalize (readV l).2.1 = k at *
  refine AW.cond rfl (fun hc => ?_) (fun hc => ?_)
  · have he : e ≠ 0 := by simpa using hc
    simp only [if_pos he]
    refine AW.go ?_
    refine AW.finE (.move rfl (.pv _ .nil)) rfl
  have he : ¬ e ≠ 0 := by simpa using hc
  simp only [if_neg he]
  have hu : IntKind.u64.wrap (m : Int) = (m : Int) := wrap_u64_lt (by omega)
  refine AW.go ?_ (by simp only [go_sem, ↓reduceIte, hu] <;> rfl)
  refine AW.cond rfl (fun hc => ?_) (fun hc => ?_)
  · have he : m < v := by simp at hc; omega
    simp only [if_pos he]
    refine AW.go ?_
    refine AW.finE (.move rfl (.pv _ .nil)) rfl
  have hmv : ¬ m < v := by simp at hc; omega
  simp only [if_neg hmv]
  refine AW.go ?_
  refine AW.callE id (left_fn l) (.ptr rfl .nil) ?_
  have h1 : IntKind.u64.wrap (IntKind.i64.wrap ((l.length : Int) - (k : Int))) = ((l.length - k : Nat) : Int) := by
    rw [← Int.ofNat_sub hle, wrap_i64_nat (by omega), wrap_u64_lt (by omega)]
  refine AW.go ?_ (by simp only [go_sem, ↓reduceIte, h1] <;> rfl)
  refine AW.cond rfl (fun hc => ?_) (fun hc => ?_)
  · have he : l.length - k < v := by simp at hc; omega
    simp only [if_pos he]
    refine AW.go ?_
    refine AW.finE (.move rfl (.pv _ .nil)) rfl
  have hlv : ¬ l.length - k < v := by simp at hc; omega
  simp only [if_neg hlv]
  rw [show l.drop (k + v) = (l.drop k).drop v by rw [List.drop_drop]]
  refine AW.go ?_
  refine AW.callE id (take_fn l k hle hl) (.ptr rfl (.pv _ .nil)) ?_
  have h2 : IntKind.i64.wrap (v : Int) = (v : Int) := wrap_i64_nat (by omega)
  refine AW.go ?_ (by simp only [go_sem, ↓reduceIte, h2] <;> rfl)
  refine AW.callE id (take_fn (l.drop k) v (by simp; omega) (by simp; omega)) (.ptr rfl (.pv _ .nil)) ?_
  refine AW.go ?_
  refine AW.finE (.move rfl (.pv _ .nil)) rfl

theorem curFixed_fn (l : List Nat) (n : Nat) (hn : n ≤ 8) (hl : l.length ≤ room) (hb : ∀ x ∈ l, x < 256) : Fn Try.prog 37 (curO l) [.ptr 1000 0, .pv (.int .i64 n)]
    (fun rs H' => rs = [.pv (.int .u64 ((if n ≤ l.length then beN (l.take n) else 0) : Nat)), .pv (.int .i64 (if n ≤ l.length then 0 else 2))] ∧ H' = curO (if n ≤ l.length then l.drop n else l)) := by
  refine Fn.of_body (fn := Try.f37) (n := 33) (res := [.tmp 4, .tmp 5]) (by kernel_rfl) rfl rfl rfl rfl rfl (fun C => ?_)
  refine AW.go ?_
  refine AW.condF (by simp only [go_sem, ↓reduceIte]; congr 3; simp; omega) ?_
  refine AW.go ?_
  refine AW.callE id (curBytes_fn l n hl) (.ptr rfl (.pv _ .nil)) ?_
  have e0 : (if n ≤ l.length then beN (l.take n) else 0) = beN (if n ≤ l.length then l.take n else []) := by split <;> rfl
  rw [e0]
  have hxl : (if n ≤ l.length then l.take n else []).length ≤ 8 := by split <;> simp <;> omega
  have hxb : ∀ x ∈ (if n ≤ l.length then l.take n else []), x < 256 := by
    split
    · exact fun x hx => hb x (List.mem_of_mem_take hx)
    · simp
  generalize (if n ≤ l.length then l.take n else []) = xs at *
  generalize hE : (if n ≤ l.length then 0 else 2 : Int) = er
  generalize hR : (if n ≤ l.length then l.drop n else l) = lr
  refine AW.go ?_
  have hr : room < 2 ^ 63 := by decide
  refine AW.loopS (fun i : Nat => ⟨33, [(21, .pv (.int .i64 i)), (8, .pv (.int .u64 (beN (xs.take i) : Nat))), (19, .al (.slot 6)), (20, .pv (.int .i64 xs.length)), (6, .own 5 (bytes xs)), (7, .pv (.int .i64 er))], curO lr⟩) (fun i => i ≤ xs.length) (fun i => xs.length - i) [21, 8, 19, 20, 6, 7] [1000] 0 (Nat.zero_le _) ?_
  rintro i hi K hK
  refine AW.go ?_
  refine AW.cond rfl (fun hc => ?_) (fun hc => ?_)
  · have hlt : i < xs.length := by simpa using hc
    have hget := bytes_get hlt
    have hx := hxb _ (List.getElem_mem hlt)
    have hti : xs.take (i + 1) = xs.take i ++ [xs[i]] := by simp
    have hbl := beN_lt (xs.take i) (fun x hx => hxb x (List.mem_of_mem_take hx))
    have hp : 256 ^ (xs.take i).length ≤ 256 ^ 7 := Nat.pow_le_pow_right (by omega) (by simp; omega)
    have eo := or_lt256 (a := beN (xs.take i)) (x := xs[i]) (by omega) hx
    have eu : IntKind.u64.wrap ((xs[i] : Nat) : Int) = (xs[i] : Nat) := wrap_u64_lt (by omega)
    have ei : IntKind.i64.wrap ((i : Int) + 1) = ((i + 1 : Nat) : Int) := wrap_i64_succ (by omega)
    rw [← beN_snoc, ← hti] at eo
    refine AW.go ?_ (by simp only [go_sem, ↓reduceIte, hget, hlt, eu, eo, ei] <;> rfl)
    refine AW.again hK (i + 1) hlt (by omega)
  · have hge : ¬ i < xs.length := by simpa using hc
    rw [List.take_of_length_le (by omega)]
    refine AW.go ?_
    refine AW.finE (.pv _ (.pv _ .nil)) rfl
end Go.Ck

set_option linter.unusedVariables false
set_option maxRecDepth 10000
namespace Go.Ck
open Go.Proofs
theorem shr_byte {v j : Nat} (hj : j < 8) : IntKind.u8.wrap (shrI .u64 (v : Int) ((8 * j : Nat) : Int)) = ((v / 256 ^ j % 256 : Nat) : Int) := by
  rw [shrI_nat .u64 v (8 * j) (by show 8 * j ≤ 64; omega), wrap_u8, Nat.pow_mul]

theorem fix_fn (v n : Nat) (hv : v < 2 ^ 64) (hn : n ≤ 8) : Fn Try.prog 23 [] [.pv (.int .u64 v), .pv (.int .i64 n)] (fun rs H' => rs = [.own 5 (bytes (beB v n))] ∧ H' = []) := by
  refine Fn.of_body (fn := Try.f23) (n := 33) (res := [.tmp 4]) (by kernel_rfl) rfl rfl rfl rfl rfl (fun C => ?_)
  refine AW.gg ?_
  refine AW.condF (by simp only [go_sem, ↓reduceIte]; congr 3; simp; omega) ?_
  have hr : n ≤ room := Nat.le_trans hn (le_room 8)
  have hrep : List.replicate n (PV.int .u8 0) = bytes (List.replicate n 0) := by simp [bytes]
  refine AW.go ?_ (by simp only [go_sem, ↓reduceIte, hr, Nat.le_refl, hrep, List.length_replicate] <;> rfl)
  refine AW.loopS (fun a : List Nat × Nat => ⟨33, [(17, .pv (.int .i64 a.2)), (16, .pv (.int .i64 n)), (5, .own 5 (bytes a.1)), (1, .pv (.int .i64 n)), (0, .pv (.int .u64 v))], []⟩) (fun a => a.1 = List.replicate (n - a.2) 0 ++ beB v a.2 ∧ a.2 ≤ n) (fun a => n - a.2) [17, 16, 5, 1, 0] [] (List.replicate n 0, 0) ⟨by simp [beB], Nat.zero_le _⟩ ?_
  rintro ⟨l, i⟩ ⟨hl, hi⟩ K hK
  simp only at hl hi
  have hlen : l.length = n := by rw [hl]; simp [beB_len]; omega
  refine AW.go ?_
  refine AW.cond rfl (fun hc => ?_) (fun hc => ?_)
  · have hlt : i < n := by simpa using hc
    have e0 : IntKind.i64.wrap (IntKind.i64.wrap ((n : Int) - 1) - (i : Int)) = ((n - 1 - i : Nat) : Int) := by
      rw [wrap_i64_of (n := (n : Int) - 1) (by omega) (by omega), wrap_i64_of (by omega) (by omega)]; omega
    have e1 : IntKind.i64.wrap (8 * (i : Int)) = ((8 * i : Nat) : Int) := by rw [wrap_i64_of (by omega) (by omega)]; omega
    have e3 := shr_byte (v := v) (j := i) (by omega)
    have e4 : IntKind.i64.wrap ((i : Int) + 1) = ((i + 1 : Nat) : Int) := wrap_i64_succ (by omega)
    have hlt2 : n - 1 - i < l.length := by omega
    have hget := bytes_get hlt2
    refine AW.go ?_ (by simp only [go_sem, ↓reduceIte, e0, e1, e3, e4, hlt2, hget, bytes_set] <;> rfl)
    refine AW.again hK (l.set (n - 1 - i) (v / 256 ^ i % 256), i + 1) ⟨?_, hlt⟩ (by simp only; omega)
    simp only
    rw [hl, beB_succ, show n - i = (n - (i + 1)) + 1 by omega, List.replicate_succ', List.append_assoc, show n - 1 - i = n - (i + 1) by omega, List.set_append_right _ _ (by simp)]
    simp
  · have hge : ¬ i < n := by simpa using hc
    refine AW.go ?_
    refine AW.finE (.move rfl .nil) ?_
    have : i = n := by omega
    rw [hl, this]; simp

theorem refFix_fn (v n : Nat) (hv : v < 2 ^ 64) (hn : n ≤ 8) : Fn Try.prog 27 [] [.pv (.int .u64 v), .pv (.int .i64 n)] (fun rs H' => rs = [.own 5 (bytes (beB v n))] ∧ H' = []) := by
  refine Fn.of_body (fn := Try.f27) (n := 29) (res := [.tmp 4]) (by kernel_rfl) rfl rfl rfl rfl rfl (fun C => ?_)
  refine AW.gg ?_
  refine AW.condF (by simp only [go_sem, ↓reduceIte]; congr 3; simp; omega) ?_
  refine AW.go ?_
  refine AW.loopS (fun a : List Nat × Nat => ⟨29, [(5, .own 5 (bytes a.1)), (6, .pv (.int .i64 ((a.2 : Int) - 1))), (0, .pv (.int .u64 v))], []⟩) (fun a => a.1 ++ beB v a.2 = beB v n ∧ a.2 ≤ n) (fun a => a.2) [5, 6, 0] [] ([], n) ⟨rfl, Nat.le_refl _⟩ ?_ (by simp only [go_sem, ↓reduceIte]) (by simp only [go_sem, ↓reduceIte]; rw [wrap_i64_of (by omega) (by omega)] <;> rfl)
  rintro ⟨o, j⟩ ⟨ho, hj⟩ K hK
  simp only at ho hj
  refine AW.go ?_
  refine AW.cond rfl (fun hc => ?_) (fun hc => ?_)
  · cases j with
    | zero => simp at hc
    | succ j =>
      have e0 : (((j + 1 : Nat) : Int) - 1) = (j : Nat) := by omega
      have e1 : IntKind.i64.wrap (8 * (j : Int)) = ((8 * j : Nat) : Int) := by rw [wrap_i64_of (by omega) (by omega)]; omega
      have e2 : IntKind.u64.wrap ((8 * j : Nat) : Int) = ((8 * j : Nat) : Int) := wrap_u64_lt (by omega)
      have e4 : IntKind.i64.wrap ((j : Int) - 1) = (j : Int) - 1 := wrap_i64_of (by omega) (by omega)
      have e3 := shr_byte (v := v) (j := j) (by omega)
      have hlen : o.length + 1 ≤ room := by
        have := congrArg List.length ho
        simp [beB_len] at this
        have := le_room 8
        omega
      refine AW.go ?_ (by simp only [go_sem, ↓reduceIte, e0, e1, e2, e3, e4, Nat.one_mul, bytes_one, hlen] <;> rfl)
      refine AW.again hK (o ++ [v / 256 ^ j % 256], j) ⟨?_, by simp only; omega⟩ (by simp only; omega)
      rw [← ho, beB_succ]; simp
  · cases j with
    | zero =>
      refine AW.go ?_
      refine AW.finE (.move rfl .nil) ?_
      rw [← ho]; simp [beB]
    | succ j => exact absurd hc (by simp)

theorem refAppend_fn (b : List Nat) (v : Nat) (hv : v < 2 ^ 64) (hl : b.length + 10 ≤ room) : Fn Try.prog 29 [] [.pv (.sl 1 (bytes b)), .pv (.int .u64 v)] (fun rs H' => rs = [.own 5 (bytes (b ++ leb v))] ∧ H' = []) := by
  refine Fn.of_body (fn := Try.f29) (n := 26) (res := [.tmp 4]) (by kernel_rfl) rfl rfl rfl rfl rfl (fun C => ?_)
  have hb0 : b.length ≤ room := by omega
  refine AW.go ?_ (by simp only [go_sem, ↓reduceIte, hb0, Nat.zero_add, List.nil_append] <;> rfl)
  have hlen := leb_len10 hv
  refine AW.loopS (fun a : List Nat × Nat => ⟨26, [(5, .own 5 (bytes a.1)), (1, .pv (.int .u64 a.2))], []⟩) (fun a => a.1 ++ leb a.2 = b ++ leb v ∧ a.2 < 2 ^ 64) (fun a => a.2) [5, 1] [] (b, v) ⟨rfl, hv⟩ ?_
  rintro ⟨o, u⟩ ⟨ho, hu⟩ K hK
  simp only at ho hu
  have hol : o.length + (leb u).length = b.length + (leb v).length := by rw [← List.length_append, ho, List.length_append]
  have hup := leb_pos u
  have ho1 : o.length + 1 ≤ room := by omega
  have e128 : IntKind.u64.wrap (Int.tdiv (u : Int) 128) = ((u / 128 : Nat) : Int) := by rw [show Int.tdiv (u : Int) 128 = ((u / 128 : Nat) : Int) from rfl, wrap_u64_lt (by omega)]
  refine AW.go ?_ (by simp only [go_sem, ↓reduceIte, e128] <;> rfl)
  refine AW.cond rfl (fun hc => ?_) (fun hc => ?_)
  · have hge : ¬ u < 128 := by simp at hc; omega
    have e1 : IntKind.u8.wrap (IntKind.u8.wrap (Int.tmod (u : Int) 128) + 128) = ((u % 128 + 128 : Nat) : Int) := by
      rw [show Int.tmod (u : Int) 128 = ((u % 128 : Nat) : Int) from rfl, wrap_u8_lt (by omega)]
      exact wrap_u8_lt (n := u % 128 + 128) (by omega)
    refine AW.go ?_ (by simp only [go_sem, ↓reduceIte, e128, e1, bytes_one, ho1] <;> rfl)
    refine AW.again hK (o ++ [u % 128 + 128], u / 128) ⟨?_, by simp only; omega⟩ (by simp only; omega)
    simp only [List.append_assoc, List.singleton_append]
    rw [← leb_ge hge, ho]
  · have hlt : u < 128 := by simp at hc; omega
    have e1 : IntKind.u8.wrap (u : Int) = ((u : Nat) : Int) := wrap_u8_lt (by omega)
    refine AW.go ?_ (by simp only [go_sem, ↓reduceIte, e1, bytes_one, ho1] <;> rfl)
    refine AW.finE (.move rfl .nil) ?_
    rw [← ho, leb_lt hlt]

end Go.Ck

set_option linter.unusedVariables false
set_option maxRecDepth 10000
namespace Go.Ck
open Go.Proofs
end Go.Ck

set_option linter.unusedVariables false
set_option maxRecDepth 10000
namespace Go.Ck
open Go.Proofs
theorem ref01Same_fn (a b : List Nat) (hl : a.length ≤ room) : Fn Try.prog 13 [] [.pv (.sl 1 (bytes a)), .pv (.sl 1 (bytes b))] (fun rs H' => rs = [.pv (.bool (decide (a = b)))] ∧ H' = []) := by
  refine Fn.of_body (fn := Try.f13) (n := 26) (res := [.tmp 4]) (by kernel_rfl) rfl rfl rfl rfl rfl (fun C => ?_)
  have hr : room < 2 ^ 62 := by decide
  refine AW.go ?_
  refine AW.cond rfl (fun hc => ?_) (fun hc => ?_)
  · have hne : a ≠ b := by rintro rfl; simp at hc
    refine AW.go ?_
    refine AW.finE (.pv _ .nil) ?_
    rw [decide_eq_false hne]
  have hlen : a.length = b.length := by simp at hc; omega
  refine AW.go ?_
  refine AW.loopS (fun i : Nat => ⟨26, [(5, .pv (.int .i64 i)), (0, .pv (.sl 1 (bytes a))), (1, .pv (.sl 1 (bytes b)))], []⟩) (fun i => i ≤ a.length ∧ a.take i = b.take i) (fun i => a.length - i) [5, 0, 1] [] 0 ⟨Nat.zero_le _, rfl⟩ ?_
  rintro i ⟨hi, ht⟩ K hK
  refine AW.go ?_
  refine AW.cond rfl (fun hc => ?_) (fun hc => ?_)
  · have hlt : i < a.length := by simpa using hc
    have hlt2 : i < b.length := by omega
    have h1 := bytes_get hlt
    have h2 := bytes_get hlt2
    have ei : IntKind.i64.wrap ((i : Int) + 1) = ((i + 1 : Nat) : Int) := wrap_i64_succ (by omega)
    refine AW.go ?_
    refine AW.sr mixed (by decide +kernel) ?_ (by simp only [go_sem, ↓reduceIte, h1, h2] <;> rfl)
    refine AW.go ?_
    refine AW.cond rfl (fun hc => ?_) (fun hc => ?_)
    · have hne : a ≠ b := by rintro rfl; simp at hc
      refine AW.go ?_
      refine AW.finE (.pv _ .nil) ?_
      rw [decide_eq_false hne]
    · have he : a[i] = b[i] := by simp at hc; omega
      refine AW.go ?_ (by simp only [go_sem, ↓reduceIte, ei] <;> rfl)
      refine AW.again hK (i + 1) ⟨hlt, ?_⟩ (by omega)
      rw [List.take_succ_eq_append_getElem hlt, List.take_succ_eq_append_getElem hlt2, ht, he]
  · have hge : ¬ i < a.length := by simpa using hc
    rw [List.take_of_length_le (by omega), List.take_of_length_le (by omega)] at ht
    refine AW.go ?_
    refine AW.finE (.pv _ .nil) ?_
    rw [decide_eq_true ht]

end Go.Ck

set_option linter.unusedVariables false
set_option maxRecDepth 100000
set_option maxHeartbeats 400000
namespace Go.Ck
open Go.Proofs
end Go.Ck

set_option linter.unusedVariables false
set_option maxRecDepth 10000
namespace Go.Ck
open Go.Proofs
theorem refBlocked_fn (l : List Nat) (hl : l.length + 20 ≤ room) : Fn Try.prog 30 [] [.pv (.sl 1 (bytes l))] (fun rs H' => rs = [.own 5 (bytes (leb l.length ++ l))] ∧ H' = []) := by
  refine Fn.of_body (fn := Try.f30) (n := 9) (res := [.tmp 2]) (by kernel_rfl) rfl rfl rfl rfl rfl (fun C => ?_)
  have hr : room < 2 ^ 63 := by decide
  have hu : IntKind.u64.wrap (l.length : Int) = (l.length : Int) := wrap_u64_lt (by omega)
  refine AW.go ?_ (by simp only [go_sem, ↓reduceIte, hu] <;> rfl)
  refine AW.callE (fun _ => 0) (refAppend_fn [] l.length (by omega) (by simp; omega)) (.nilsP 1 (.pv _ .nil)) ?_
  have h10 := leb_len10 (v := l.length) (by omega)
  have hs : (leb l.length).length + l.length ≤ room := by omega
  refine AW.go ?_ (by simp only [go_sem, ↓reduceIte, List.nil_append, hs] <;> rfl)
  refine AW.finE (.move rfl .nil) rfl
end Go.Ck

set_option linter.unusedVariables false
namespace Go.Ck
/-- How many bits a number needs. -/
def blen (v : Nat) : Nat := if v = 0 then 0 else blen (v / 2) + 1
termination_by v
decreasing_by omega
theorem blen_zero : blen 0 = 0 := by rw [blen]; simp
theorem blen_pos {v : Nat} (h : v ≠ 0) : blen v = blen (v / 2) + 1 := by rw [blen, if_neg h]
theorem blen_le {v n : Nat} : blen v ≤ n ↔ v < 2 ^ n := by
  induction n generalizing v with
  | zero =>
    by_cases h : v = 0
    · subst h; simp [blen_zero]
    · rw [blen_pos h]; simp; omega
  | succ n ih =>
    by_cases h : v = 0
    · subst h; simp [blen_zero, Nat.two_pow_pos]
    · rw [blen_pos h, Nat.add_le_add_iff_right, ih, Nat.div_lt_iff_lt_mul (by omega), Nat.pow_succ]
theorem blen_shift (k : Nat) : ∀ {v : Nat}, 2 ^ k ≤ v → blen v = k + blen (v / 2 ^ k) := by
  induction k with
  | zero => intro v _; simp
  | succ k ih =>
    intro v h
    have hp : 2 ^ (k + 1) = 2 ^ k * 2 := Nat.pow_succ ..
    have hpos := Nat.two_pow_pos k
    rw [blen_pos (by omega), ih (v := v / 2) (by omega), Nat.div_div_eq_div_mul, hp, Nat.mul_comm 2]
    omega
def binN (l : List Nat) : Nat := l.foldl (fun a x => a * 2 + x) 0
end Go.Ck
namespace Go.Ck
def bl8 (n : Nat) : Nat := if n < 1 then 0 else if n < 2 then 1 else if n < 4 then 2 else if n < 8 then 3 else if n < 16 then 4 else if n < 32 then 5 else if n < 64 then 6 else if n < 128 then 7 else 8
theorem blen_bl8 {n : Nat} (h : n < 256) : blen n = bl8 n := by
  have h0 := blen_le (v := n) (n := 0)
  have h1 := blen_le (v := n) (n := 1)
  have h2 := blen_le (v := n) (n := 2)
  have h3 := blen_le (v := n) (n := 3)
  have h4 := blen_le (v := n) (n := 4)
  have h5 := blen_le (v := n) (n := 5)
  have h6 := blen_le (v := n) (n := 6)
  have h7 := blen_le (v := n) (n := 7)
  have h8 := blen_le (v := n) (n := 8)
  simp only [Nat.reducePow] at h0 h1 h2 h3 h4 h5 h6 h7 h8
  unfold bl8
  repeat' split
  all_goals omega
theorem bl8_le (n : Nat) : bl8 n ≤ 8 := by
  unfold bl8
  repeat' split
  all_goals omega
end Go.Ck
namespace Go.Ck
end Go.Ck
namespace Go.Ck
/-- So many bits from a place on, as a number. -/
def getB (l : List Nat) (k n : Nat) : Nat := binN ((l.drop k).take n)
end Go.Ck
namespace Go.Ck
end Go.Ck
namespace Go.Ck
end Go.Ck

set_option linter.unusedVariables false
namespace Go.Ck
def plc (v : Nat) : List Nat → Nat → Int
  | [], _ => -1
  | x :: r, i => if x = v then (i : Int) else plc v r (i + 1)
/-- The patterns that there are, as they come. -/
def ddS (d : List Nat) (x : Nat) : List Nat := if plc x d 0 < 0 then d ++ [x] else d
def dd (xs : List Nat) : List Nat := xs.foldl ddS []
end Go.Ck

set_option linter.unusedVariables false
namespace Go.Ck
def dic (r : List Nat) (u : Nat) : List Nat := (List.range u).map fun i => beN ((r.drop (8 * i)).take 8)
end Go.Ck

set_option linter.unusedVariables false
namespace Go.Ck
end Go.Ck
namespace Go.Ck
end Go.Ck

set_option linter.unusedVariables false
namespace Go.Ck
end Go.Ck

set_option linter.unusedVariables false
namespace Go.Ck
end Go.Ck

set_option linter.unusedVariables false
namespace Go.Ck
end Go.Ck
namespace Go.Ck
end Go.Ck
namespace Go.Ck
end Go.Ck

set_option linter.unusedVariables false
namespace Go.Ck
/-- What differs, or why that is not told; the place behind it; the window behind it. -/
structure GN where
  x : Nat
  e : Int
  k : Nat
  a : Int
  z : Int
def gNy (bs : List Nat) (k : Nat) (a z : Int) : GN :=
  if (a = -1 ∧ z = 0) ∨ z < 0 then ⟨0, 3, k, a, z⟩
  else if k + (64 - a - z).toNat ≤ bs.length then ⟨getB bs k (64 - a - z).toNat * 2 ^ z.toNat % 2 ^ 64, 0, k + (64 - a - z).toNat, a, z⟩ else ⟨0, 2, k, a, z⟩
def gNx (bs : List Nat) (k : Nat) (a z : Int) : GN :=
  if bs.length < k + 1 then ⟨0, 2, k, a, z⟩
  else if getB bs k 1 = 0 then ⟨0, 0, k + 1, a, z⟩
  else if bs.length < k + 2 then ⟨0, 2, k + 1, a, z⟩
  else if getB bs (k + 1) 1 = 1 then
    if bs.length < k + 7 then ⟨0, 2, k + 2, a, z⟩
    else if bs.length < k + 13 then ⟨0, 2, k + 7, a, z⟩
    else gNy bs (k + 13) (getB bs (k + 2) 5 : Nat) (63 - (getB bs (k + 2) 5 : Nat) - (getB bs (k + 7) 6 : Nat))
  else gNy bs (k + 2) a z
/-- So many patterns: those so far, why there are no more, the place, the window. -/
structure GS where
  o : List Nat
  e : Int
  k : Nat
  a : Int
  z : Int
def gRs (bs : List Nat) (r : GS) : GS :=
  if r.e ≠ 0 then r
  else if r.o.length = 0 then (if r.k + 64 ≤ bs.length then ⟨[getB bs r.k 64], 0, r.k + 64, r.a, r.z⟩ else ⟨[], 2, r.k, r.a, r.z⟩)
  else ⟨if (gNx bs r.k r.a r.z).e = 0 then r.o ++ [(gNx bs r.k r.a r.z).x ^^^ r.o.getD (r.o.length - 1) 0] else r.o, (gNx bs r.k r.a r.z).e, (gNx bs r.k r.a r.z).k, (gNx bs r.k r.a r.z).a, (gNx bs r.k r.a r.z).z⟩
def gR (bs : List Nat) : Nat → GS
  | 0 => ⟨[], 0, 0, -1, 0⟩
  | n + 1 => gRs bs (gR bs n)
end Go.Ck

set_option linter.unusedVariables false
namespace Go.Ck
def zr (a z : Int) : Int := if a = -1 then -1 else z
/-- The reference's reading, between two rounds. -/
structure RQ where
  i : Nat
  o : List Nat
  rest : List Nat
  bad : Int
  a : Int
  z : Int
def RQ.ok (bs : List Nat) (n : Nat) (q : RQ) : Prop := q.i ≤ n ∧ q.o.length = q.i ∧ (∀ x ∈ q.o, x < 2 ^ 64) ∧ (gR bs q.i).e = q.bad ∧
  (q.bad = 0 → q.o = (gR bs q.i).o ∧ q.rest = bs.drop (gR bs q.i).k ∧ q.a = (gR bs q.i).a ∧ q.z = zr (gR bs q.i).a (gR bs q.i).z)
/-- What fixed reads: the patterns, why not, what is left. -/
def fx (l : List Nat) (n : Nat) : List Nat × Int × List Nat :=
  if 8 * n ≤ l.length then (dic l n, if l.drop (8 * n) = [] then 0 else 3, l.drop (8 * n)) else ([], 2, l.drop (8 * (l.length / 8)))
end Go.Ck

set_option linter.unusedVariables false
namespace Go.Ck
end Go.Ck

set_option linter.unusedVariables false
namespace Go.Ck
theorem foldl_base (b : Nat) : ∀ (l : List Nat) (a : Nat), l.foldl (fun a x => a * b + x) a = a * b ^ l.length + l.foldl (fun a x => a * b + x) 0
  | [], a => by simp
  | x :: r, a => by
    rw [List.foldl_cons, foldl_base b r (a * b + x), List.foldl_cons, foldl_base b r (0 * b + x), List.length_cons, Nat.pow_succ, Nat.zero_mul, Nat.zero_add, Nat.add_mul, Nat.mul_assoc, Nat.mul_comm b (b ^ r.length), Nat.add_assoc]
theorem beN_cons (x : Nat) (l : List Nat) : beN (x :: l) = x * 256 ^ l.length + beN l := by
  have := foldl_base 256 l (0 * 256 + x)
  rw [beN, List.foldl_cons, this, Nat.zero_mul, Nat.zero_add]; rfl
theorem beN_beB (v n : Nat) : beN (beB v n) = v % 256 ^ n := by
  induction n with
  | zero => simp [beB, beN, Nat.mod_one]
  | succ n ih => rw [beB, beN_cons, beB_len, ih, Nat.pow_succ, Nat.mod_mul]; rw [Nat.mul_comm, Nat.add_comm]
theorem rdv_leb (n : Nat) : ∀ (v : Nat), v ≤ n → ∀ (k acc : Nat) (r : List Nat), v * 128 ^ k < 2 ^ 64 → (k = 0 ∨ v ≠ 0) → k ≤ 9 → rdv k acc (leb v ++ r) = (acc + v * 128 ^ k, k + (leb v).length, 0) := by
  induction n using Nat.strongRecOn with
  | _ n ih =>
    intro v hv k acc r hlt h0 hk
    have h9 : k = 9 → v < 2 := by
      rintro rfl
      have : v * 128 ^ 9 < 2 * 128 ^ 9 := by omega
      exact Nat.lt_of_mul_lt_mul_right this
    by_cases h : v < 128
    · rw [leb_lt h, List.singleton_append, rdv, if_neg (by omega), if_neg (by omega), if_neg (by omega)]; rfl
    · rw [leb_ge h, List.cons_append, rdv, if_neg (by omega), if_pos (by omega)]
      have hp : 128 ^ (k + 1) = 128 ^ k * 128 := Nat.pow_succ ..
      have hd : v = v / 128 * 128 + v % 128 := by omega
      have he : v * 128 ^ k = v / 128 * 128 ^ (k + 1) + v % 128 * 128 ^ k := by
        rw [hp, Nat.mul_comm (128 ^ k), ← Nat.mul_assoc, ← Nat.add_mul, ← hd]
      have hk9 : k ≠ 9 := fun e => by have := h9 e; omega
      rw [show (v % 128 + 128) % 128 = v % 128 by omega, ih (v / 128) (by omega) (v / 128) (Nat.le_refl _) (k + 1) _ r (by omega) (.inr (by omega)) (by omega), List.length_cons]
      refine Prod.ext ?_ (Prod.ext ?_ rfl)
      · simp only; omega
      · simp only; omega
theorem readV_leb {v : Nat} (h : v < 2 ^ 64) (r : List Nat) : readV (leb v ++ r) = (v, (leb v).length, 0) := by
  rw [readV_eq, rdv_leb v v (Nat.le_refl _) 0 0 r (by simpa using h) (.inl rfl) (by omega)]
  simp
end Go.Ck

set_option linter.unusedVariables false
namespace Go.Ck
end Go.Ck

set_option linter.unusedVariables false
namespace Go.Ck
end Go.Ck

set_option linter.unusedVariables false
namespace Go.Ck
end Go.Ck

set_option linter.unusedVariables false
namespace Go.Ck
def i64r (n : Int) : Prop := -2 ^ 63 ≤ n ∧ n < 2 ^ 63
def acc : Int → List Int → List Int
  | _, [] => []
  | p, x :: r => IntKind.i64.wrap (x + p) :: acc (IntKind.i64.wrap (x + p)) r
end Go.Ck
namespace Go.Ck
end Go.Ck

set_option linter.unusedVariables false
namespace Go.Ck
section
variable {α : Type} {D M : List α}
end
end Go.Ck

set_option linter.unusedVariables false
namespace Go.Ck
def lo : List Nat → Nat
  | [] => 0
  | x :: r => r.foldl min x
def hi : List Nat → Nat
  | [] => 0
  | x :: r => r.foldl max x
end Go.Ck

set_option linter.unusedVariables false
namespace Go.Ck
end Go.Ck

set_option linter.unusedVariables false
namespace Go.Ck
end Go.Ck

set_option linter.unusedVariables false
namespace Go.Ck
end Go.Ck
namespace Go.Ck
end Go.Ck
namespace Go.Ck
end Go.Ck
namespace Go.Ck
end Go.Ck

set_option linter.unusedVariables false
namespace Go.Ck
end Go.Ck

set_option linter.unusedVariables false
namespace Go.Ck
end Go.Ck
namespace Go.Ck
end Go.Ck
namespace Go.Ck
end Go.Ck
namespace Go.Ck
end Go.Ck

set_option linter.unusedVariables false
namespace Go.Ck
end Go.Ck
namespace Go.Ck
end Go.Ck

set_option linter.unusedVariables false
namespace Go.Ck
end Go.Ck

set_option linter.unusedVariables false
namespace Go.Ck
end Go.Ck
namespace Go.Ck
end Go.Ck

set_option linter.unusedVariables false
namespace Go.Ck
end Go.Ck

set_option linter.unusedVariables false
namespace Go.Ck
theorem rdv_canon2 : ∀ (l : List Nat) (k acc : Nat), (∀ x ∈ l, x < 256) → (rdv k acc l).2.2 = 0 → ∃ v r, (k = 0 ∨ v ≠ 0) ∧ l = leb v ++ r ∧ rdv k acc l = (acc + v * 128 ^ k, k + (leb v).length, 0)
  | [], k, acc, _, h => by simp [rdv] at h
  | x :: r, k, acc, hb, h => by
    have hx := hb x (by simp)
    rw [rdv] at h ⊢
    split at h
    · simp at h
    · rename_i h1
      rw [if_neg h1]
      split at h
      · rename_i h2
        rw [if_pos h2]
        obtain ⟨v, r', h3, h4, h5⟩ := rdv_canon2 r (k + 1) _ (fun y hy => hb y (by simp [hy])) h
        have hv : v ≠ 0 := h3.resolve_left (by omega)
        have e1 : (v * 128 + x % 128) % 128 + 128 = x := by omega
        have e2 : (v * 128 + x % 128) / 128 = v := by omega
        refine ⟨v * 128 + x % 128, r', .inr (by omega), ?_, ?_⟩
        · rw [leb_ge (by omega), e1, e2, List.cons_append, ← h4]
        · have hp : 128 ^ (k + 1) = 128 ^ k * 128 := Nat.pow_succ ..
          have e3 : (v * 128 + x % 128) * 128 ^ k = v * 128 ^ (k + 1) + x % 128 * 128 ^ k := by rw [hp, Nat.add_mul, Nat.mul_assoc, Nat.mul_comm 128]
          rw [h5, leb_ge (v := v * 128 + x % 128) (by omega), e2, e3, List.length_cons]
          refine Prod.ext ?_ (Prod.ext ?_ rfl) <;> simp only <;> omega
      · rename_i h2
        rw [if_neg h2]
        split at h
        · simp at h
        · rename_i h3
          rw [if_neg h3]
          refine ⟨x, r, by omega, ?_, ?_⟩
          · rw [leb_lt (by omega)]; rfl
          · rw [leb_lt (by omega)]; rfl
theorem readV_canon2 {l : List Nat} (hb : ∀ x ∈ l, x < 256) (h : (readV l).2.2 = 0) : l = leb (readV l).1 ++ l.drop (readV l).2.1 ∧ (readV l).2.1 = (leb (readV l).1).length := by
  rw [readV_eq] at h ⊢
  obtain ⟨v, r, _, h1, h2⟩ := rdv_canon2 l 0 0 hb h
  rw [h2]
  simp only [Nat.zero_add, Nat.pow_zero, Nat.mul_one]
  refine ⟨?_, trivial⟩
  conv => rhs; rw [h1]
  rw [List.drop_left]
  exact h1
theorem blk_app {l : List Nat} {m : Nat} (h : l.length ≤ m) (hl : l.length < 2 ^ 64) (r : List Nat) : blk (leb l.length ++ l ++ r) m = (l, 0, r) := by
  unfold blk
  rw [List.append_assoc, readV_leb hl]
  simp only [ne_eq, not_true_eq_false, if_false]
  rw [if_neg (by omega), if_neg (by simp), List.drop_left, List.take_left, ← List.drop_drop, List.drop_left, List.drop_left]
theorem blk_canon {l : List Nat} {m : Nat} (hb : ∀ x ∈ l, x < 256) (h : (blk l m).2.1 = 0) : l = leb (blk l m).1.length ++ (blk l m).1 ++ (blk l m).2.2 ∧ (blk l m).1.length ≤ m := by
  unfold blk at h ⊢
  split at h
  · rename_i h1; exact absurd h h1
  · rename_i h1
    rw [if_neg h1]
    split at h
    · simp at h
    · rename_i h2
      rw [if_neg h2]
      split at h
      · simp at h
      · rename_i h3
        rw [if_neg h3]
        simp only
        obtain ⟨h4, h5⟩ := readV_canon2 hb (by simpa using h1)
        have hlen : ((l.drop (readV l).2.1).take (readV l).1).length = (readV l).1 := by rw [List.length_take, List.length_drop]; omega
        rw [hlen]
        refine ⟨?_, by omega⟩
        conv => lhs; rw [h4]
        rw [List.append_assoc]
        congr 1
        rw [← List.drop_drop, List.take_append_drop]
theorem blk_byte {l : List Nat} {m : Nat} (hb : ∀ x ∈ l, x < 256) : (∀ x ∈ (blk l m).1, x < 256) ∧ (∀ x ∈ (blk l m).2.2, x < 256) ∧ (blk l m).1.length ≤ l.length ∧ (blk l m).2.2.length ≤ l.length := by
  unfold blk
  split
  · exact ⟨by simp, hb, by simp, Nat.le_refl _⟩
  · split
    · exact ⟨by simp, hb, by simp, Nat.le_refl _⟩
    · split
      · exact ⟨by simp, hb, by simp, Nat.le_refl _⟩
      · exact ⟨fun x hx => hb x (List.mem_of_mem_drop (List.mem_of_mem_take hx)), fun x hx => hb x (List.mem_of_mem_drop hx), by simp; omega, by simp⟩
end Go.Ck

set_option linter.unusedVariables false
namespace Go.Ck
def nb (s : List UInt8) : List Nat := s.map UInt8.toNat
def ub (l : List Nat) : List UInt8 := l.map UInt8.ofNat
theorem nb_len (s : List UInt8) : (nb s).length = s.length := by simp [nb]
theorem ub_len (l : List Nat) : (ub l).length = l.length := by simp [ub]
theorem nb_byte (s : List UInt8) : ∀ x ∈ nb s, x < 256 := by
  intro x hx
  simp only [nb, List.mem_map] at hx
  obtain ⟨y, _, rfl⟩ := hx
  exact y.toNat_lt
theorem ub_nb (s : List UInt8) : ub (nb s) = s := by
  unfold ub nb
  rw [List.map_map]
  conv => rhs; rw [← List.map_id s]
  exact List.map_congr_left (fun x _ => by simp)
theorem nb_ub {l : List Nat} (h : ∀ x ∈ l, x < 256) : nb (ub l) = l := by
  unfold ub nb
  rw [List.map_map]
  conv => rhs; rw [← List.map_id l]
  refine List.map_congr_left (fun x hx => ?_)
  have := h x hx
  simp only [Function.comp, id]
  show (UInt8.ofNat x).toNat = x
  simp only [UInt8.toNat_ofNat']
  omega
abbrev Sm := Int × Nat
def smOK (xs : List Sm) : Prop := ∀ x ∈ xs, i64r x.1 ∧ x.2 < 2 ^ 64
theorem smOK.v {xs : List Sm} (h : smOK xs) : ∀ x ∈ xs.map Prod.snd, x < 2 ^ 64 := by
  intro x hx
  obtain ⟨y, hy, rfl⟩ := List.mem_map.1 hx
  exact (h y hy).2
end Go.Ck
namespace Go.Ck
def sms (xs : List Sm) : List PV := xs.map fun x => .agg [.int .i64 x.1, .int .u64 (x.2 : Nat)]
def chP (c : List UInt8 × List Sm) : PV := .agg [.str c.1, .sl 2 (sms c.2)]
theorem numsOf_byt (l : List Nat) : numsOf (bytes l) = some (l.map fun n : Nat => (n : Int)) := by
  induction l with
  | nil => rfl
  | cons a r ih => 
    show numsOf (.int .u8 (a : Int) :: bytes r) = _
    rw [numsOf, ih]; rfl
theorem ofNums_ub (l : List Nat) : ofNums (l.map fun n : Nat => (n : Int)) = ub l := by
  unfold ofNums ub
  rw [List.map_map]
  exact List.map_congr_left (fun x _ => by simp)
theorem strBytes_nb (s : List UInt8) : strBytes s = bytes (nb s) := by
  unfold strBytes nb bytes
  rw [List.map_map]; rfl
end Go.Ck

set_option linter.unusedVariables false
set_option maxRecDepth 100000
set_option maxHeartbeats 400000
namespace Go.Ck
open Go.Proofs
theorem AW.absurdC {P : Program} {R : Option Nat} {Φ : Exit → Cx → St → Prop} {e : Exit} {k : List It} {X : Bs → Prop} {s : St} (h : ∀ B, ¬ X B) : AW P R Φ e k (plain X) s := fun B a w ha => absurd ha.1.1.2 (h B)
theorem pieces_fn (key info : List Nat) : Fn Try.prog 99 [] [.pv (.sl 1 (bytes key)), .pv (.sl 1 (bytes info))] (fun rs H' => rs = [.fn 110 [.ptr 2 0, .ptr 3 0]] ∧ H' = [(3, .cells 23 [.pv (.sl 1 (bytes info))]), (2, .cells 23 [.pv (.sl 1 (bytes key))])]) := by
  refine Fn.of_body (fn := Try.f99) (n := 6) (res := [.tmp 4]) (by kernel_rfl) rfl rfl rfl rfl rfl (fun C => ?_)
  refine AW.go ?_
  refine AW.finE (.fn rfl .nil) rfl
theorem pieces_iter (key info : List Nat) (hkb : ∀ x ∈ key, x < 256) (hkl : key.length < 2 ^ 50) (hil : info.length < 2 ^ 50) : Iter Try.prog 110 [.ptr 20 0, .ptr 21 0] [(21, .cells 23 [.pv (.sl 1 (bytes info))]), (20, .cells 23 [.pv (.sl 1 (bytes key))])] (hpcs key info) := by
  refine Iter.of_body (fn := Try.f110) (n := 19) (by kernel_rfl) rfl rfl rfl rfl (fun l X X0 N hY hN => ?_)
  have hN : ∀ B, ¬ X N B := hN.resolve_left (by simp [hpcs])
  have m3 : (3 ≤ maxLen) = True := eq_true (le_maxLen 3)
  refine AW.go ?_
  refine AW.freeze (p := .slot 4) (by simp only [go_sem, ↓reduceIte, freeze, freezeO] <;> rfl) ?_
  refine AW.loopC (n := N) (fun m C s => ∃ i, m = N - i ∧ i ≤ N ∧ C = plain (X i) ∧ keepB [0, 1, 2, 4, 5] [20, 21] s = ⟨19, [(0, .yl l), (1, .ptr 20 0), (2, .ptr 21 0), (4, .pv (.sl 1 (bytes (hpc key info i)))), (5, .pv (.int .u8 (((i + 1) % 256 : Nat) : Int)))], [(20, .cells 23 [.pv (.sl 1 (bytes key))]), (21, .cells 23 [.pv (.sl 1 (bytes info))])]⟩ ∧ keptB none [0, 1, 2, 4, 5] [20, 21] s = true) ⟨0, rfl, Nat.zero_le _, rfl, by simp only [go_sem, ↓reduceIte] <;> rfl, by simp only [go_sem, ↓reduceIte]⟩ ?_
  rintro m C s ⟨i, rfl, hi, rfl, hs, hk⟩
  by_cases hiN : i = N
  · rw [hiN]; exact AW.absurdC hN
  have hlt : i < N := by omega
  obtain ⟨p, hp, hY1⟩ := hY _ hlt
  unfold hpcs at hp
  cases hp
  rw [hpc_flat] at hY1
  have hnx := hpc_flat key info i
  have hpl := hpc_len key info i
  have ei : IntKind.u8.wrap (((i + 1) % 256 : Nat) + 1 : Int) = (((i + 1 + 1) % 256 : Nat) : Int) := by
    rw [show (((i + 1) % 256 : Nat) : Int) + 1 = (((i + 1) % 256 + 1 : Nat) : Int) by omega, wrap_u8]; congr 1; omega
  refine AW.keepB [0, 1, 2, 4, 5] [20, 21] hk hs ?_
  generalize hpc key info i = T at *
  generalize (i + 1) % 256 = kk at *
  refine AW.go ?_ (by simp only [go_sem, ↓reduceIte, freeze, freezeO, m3] <;> rfl)
  refine AW.freeze (p := .slot 13) (by simp only [go_sem, ↓reduceIte, freeze, freezeO] <;> rfl) ?_
  refine AW.callE (args := [.pv (.sl 1 (bytes key)), .pv (.sl 1 (lsP [T, info, [kk]]))]) (fun _ => 0) (all_fn key [T, info, [kk]] hkb (by omega) (by simp; omega) (by simp)) (.pv _ (.pv _ .nil)) ?_
  rw [← hnx] at hY1 ⊢
  refine AW.go ?_
  refine AW.yield hY1 rfl rfl ?_ ?_
  · refine AW.go ?_
    refine AW.condF rfl ?_
    refine AW.go ?_ (by simp only [go_sem, ↓reduceIte, ei] <;> rfl)
    refine AW.stop ⟨N - (i + 1), by omega, i + 1, rfl, by omega, rfl, by simp only [go_sem, ↓reduceIte] <;> rfl, by simp only [go_sem, ↓reduceIte]⟩
  · refine AW.go ?_
    refine AW.condT rfl ?_
    refine AW.go ?_
    exact AW.nil ⟨.inr rfl, .inr rfl⟩
end Go.Ck

set_option linter.unusedVariables false
namespace Go.Ck
def dkInfo (p : Nat) (name : List UInt8) : List Nat := p :: (leb name.length ++ nb name)
def dk (key : List Nat) (p : Nat) (name : List UInt8) : List Nat × Nat :=
  if key.length ≠ 32 then ([], 1) else if 64 < name.length then ([], 4) else (hmac key (dkInfo p name ++ [1]), 0)
theorem dk_lt (key : List Nat) (p : Nat) (name : List UInt8) : ∀ x ∈ (dk key p name).1, x < 256 := by
  unfold dk; split
  · simp
  · split
    · simp
    · exact hmac_lt _ _
theorem dk_len (key : List Nat) (p : Nat) (name : List UInt8) : (dk key p name).1.length ≤ 32 := by
  unfold dk; split
  · simp
  · split
    · simp
    · simp [hmac_len]
end Go.Ck
namespace Go.Ck
theorem bytes_consC (x : Nat) (l : List Nat) : PV.int .u8 (x : Int) :: bytes l = bytes (x :: l) := rfl
theorem dkInfo_eq (p : Nat) (name : List UInt8) : dkInfo p name = p :: (leb name.length ++ nb name) := rfl
end Go.Ck

set_option linter.unusedVariables false
set_option maxRecDepth 100000
set_option maxHeartbeats 400000
namespace Go.Ck
open Go.Proofs
attribute [go_sem] putParams keptH allNames pickH
theorem expand_fn (key info : List Nat) (hkb : ∀ x ∈ key, x < 256) (hkl : key.length < 2 ^ 50) (hil : info.length < 2 ^ 50) : Fn Try.prog 81 [] [.pv (.sl 1 (bytes key)), .pv (.sl 1 (bytes info)), .pv (.int .i64 32)] (fun rs H' => rs = [.pv (.sl 1 (bytes (hmac key (info ++ [1])))), .pv (.int .i64 0)] ∧ H' = []) := by
  refine Fn.of_bodyR (fn := Try.f81) (n := 34) (res := [.tmp 6, .tmp 7]) (by kernel_rfl) rfl rfl rfl rfl rfl (fun C => ?_)
  have hroom : room = 140737488355328 := rfl
  rw [← hpc_1]
  have hpl := hpc_1len key info
  refine AW.gg ?_
  refine AW.condF rfl ?_
  refine AW.go ?_
  refine AW.condF rfl ?_
  refine AW.go ?_
  refine AW.callE (fun o => if o = 2 then 20 else 21) (pieces_fn key info) (.pv _ (.pv _ .nil)) ?_
  refine AW.go ?_
  have hI := pieces_iter key info hkb hkl hil
  refine AW.rangeFunc [5, 8] [5, 8] (fun i hp => i = 0 ∧ hp = [(5, .cells 3 [.pv (.int .i64 32)]), (8, .cells 23 [.own 5 []])]) (fun j hp => j = .exit 0 ∧ hp = [(5, .cells 3 [.pv (.int .i64 32)]), (8, .cells 23 [.own 5 (bytes (hpc key info 1))])]) 1 hI rfl (by simp only [go_sem, ↓reduceIte]) (by simp only [go_sem, ↓reduceIte]) (by simp only [go_sem, ↓reduceIte]) (by simp only [go_sem, ↓reduceIte] <;> rfl) rfl rfl rfl rfl ⟨rfl, rfl⟩ ?_ ?_ (.inr ?_) ?_ ?_ ?_
  · intro i p hp
    unfold hpcs at hp; cases hp; rfl
  · intro i hi
    exact ⟨_, rfl⟩
  · rintro hp ⟨h, _⟩; cases h
  · intro i p hi hp
    have h0 : i = 0 := by omega
    subst h0
    unfold hpcs at hp; cases hp
    simp only [Nat.zero_add]
    generalize hpc key info 1 = T at *
    rintro _ ⟨_, rfl⟩ l C1
    refine AW.go ?_ (by simp only [go_sem, ↓reduceIte, putParams] <;> rfl)
    refine AW.nil ⟨rfl, rfl, fun C2 => ?_⟩
    have r1 : (T.length ≤ room) = True := eq_true (by omega)
    refine AW.go ?_ (by simp only [go_sem, ↓reduceIte, List.length_nil, Nat.zero_add, List.nil_append, r1] <;> rfl)
    have d1 : decide ((T.length : Int) ≥ 32) = true := decide_eq_true (by omega)
    refine AW.cond rfl (fun hc => ?_) (fun hc => ?_)
    rotate_left
    · exfalso; rw [d1] at hc; cases hc
    refine AW.go ?_
    refine AW.nil ⟨rfl, by simp only [go_sem, ↓reduceIte], by simp only [go_sem, ↓reduceIte], .inr ⟨_, rfl, rfl, by simp only [go_sem, ↓reduceIte] <;> rfl⟩⟩
  · rintro hp h; unfold hpcs at h; cases h
  · rintro j hp ⟨rfl, rfl⟩
    generalize hpc key info 1 = T at *
    have nc32 : ((32 : Nat) : Int) = 32 := rfl
    refine AW.go ?_ (by simp only [go_sem, ↓reduceIte, hpl, nc32, Int.reduceLE] <;> rfl)
    have hy : bytes T = ((bytes T).drop 0).take 32 := by rw [List.drop_zero, List.take_of_length_le (by rw [bytes_length]; omega)]
    refine AW.finR (.inr rfl) (.inr rfl) (by simp only [go_sem, ↓reduceIte, retsV] <;> rfl) (.lendV rfl co_5 hy (.pv _ .nil)) (H' := []) (by simp only [go_sem, ↓reduceIte]) (by simp only [go_sem, ↓reduceIte]) (by simp only [go_sem, ↓reduceIte]) ⟨rfl, rfl⟩

theorem derive_fn (key : List Nat) (p : Nat) (name : List UInt8) (hkb : ∀ x ∈ key, x < 256) (hkl : key.length < 2 ^ 50) (hp : p < 256) (hnl : name.length ≤ maxLen) : Fn Try.prog 68 [] [.pv (.sl 1 (bytes key)), .pv (.int .u8 p), .pv (.str name)] (fun rs H' => rs = [.pv (.sl 1 (bytes (dk key p name).1)), .pv (.int .i64 (dk key p name).2)] ∧ H' = []) := by
  refine Fn.of_body (fn := Try.f68) (n := 28) (res := [.tmp 6, .tmp 7]) (by kernel_rfl) rfl rfl rfl rfl rfl (fun C => ?_)
  have hroom : room = 140737488355328 := rfl
  have hml : maxLen < 2 ^ 63 := by unfold maxLen; decide
  unfold dk
  by_cases h1 : key.length = 32
  rotate_left
  · have d1 : ((key.length : Int) != 32) = true := by simp; omega
    have d2 : (key.length != 32) = true := by simp; omega
    rw [if_pos h1]
    refine AW.go ?_ (by simp only [go_sem, ↓reduceIte, d1, d2] <;> rfl)
    refine AW.condT rfl ?_
    refine AW.go ?_
    refine AW.finE (.lend rfl co_5 (.pv _ .nil)) rfl
  have d1 : ((key.length : Int) != 32) = false := by simp; omega
  have d2 : (key.length != 32) = false := by simp; omega
  rw [if_neg (by simp; omega)]
  refine AW.go ?_ (by simp only [go_sem, ↓reduceIte, d1, d2] <;> rfl)
  refine AW.condF rfl ?_
  refine AW.go ?_
  refine AW.cond rfl (fun hc => ?_) (fun hc => ?_)
  · have h2 : 64 < name.length := by have := of_decide_eq_true hc; omega
    rw [if_pos h2]
    refine AW.go ?_
    refine AW.finE (.lend rfl co_5 (.pv _ .nil)) rfl
  have h2 : ¬ 64 < name.length := by have := of_decide_eq_false hc; omega
  rw [if_neg h2]
  refine AW.go ?_
  refine AW.ofStr hnl tk_9 tk_23 tk_5 ?_
  rw [strBytes_nb]
  have hnb : (nb name).length = name.length := by simp [nb]
  have l10 := leb_len10 (v := name.length) (by omega)
  refine AW.go ?_
  refine AW.callE (fun _ => 0) (block_fn (nb name) (by omega)) (.pv _ .nil) ?_
  rw [hnb]
  have hLl : (leb name.length ++ nb name).length ≤ 100 := by rw [List.length_append]; omega
  have hdk := dkInfo_eq p name
  generalize leb name.length ++ nb name = L at *
  have r1 : (1 + L.length ≤ room) = True := eq_true (by omega)
  have hil : (dkInfo p name).length < 2 ^ 50 := by rw [hdk, List.length_cons]; omega
  refine AW.goM 3 ?_ (by simp only [go_sem, ↓reduceIte, List.length_cons, List.length_nil, Nat.zero_add, r1, bytes_consC, ← hdk] <;> rfl)
  generalize dkInfo p name = info at *
  refine AW.freeze (p := .slot 22) (by simp only [go_sem, ↓reduceIte, freeze, freezeO] <;> rfl) ?_
  refine AW.go ?_
  refine AW.callE (fun _ => 0) (expand_fn key info hkb hkl hil) (.pv _ (.pv _ (.pv _ .nil))) ?_
  refine AW.go ?_
  refine AW.finE (.pv _ (.pv _ .nil)) rfl
theorem keyM_fn (key : List Nat) (hkb : ∀ x ∈ key, x < 256) (hkl : key.length < 2 ^ 50) : Fn Try.prog 47 [] [.pv (.sl 1 (bytes key))] (fun rs H' => rs = [.pv (.sl 1 (bytes (dk key 4 []).1)), .pv (.int .i64 (dk key 4 []).2)] ∧ H' = []) := by
  refine Fn.of_body (fn := Try.f47) (n := 8) (res := [.tmp 2, .tmp 3]) (by kernel_rfl) rfl rfl rfl rfl rfl (fun C => ?_)
  refine AW.go ?_
  refine AW.callE (args := [.pv (.sl 1 (bytes key)), .pv (.int .u8 ((4 : Nat) : Int)), .pv (.str [])]) (fun _ => 0) (derive_fn key 4 [] hkb hkl (by decide) (Nat.zero_le _)) (.pv _ (.pv _ (.pv _ .nil))) ?_
  refine AW.go ?_
  refine AW.finE (.pv _ (.pv _ .nil)) rfl

end Go.Ck
