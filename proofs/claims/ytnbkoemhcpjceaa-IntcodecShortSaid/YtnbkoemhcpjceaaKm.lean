/- What is proved here: parts of the proofs of this seat's statements (a verified evaluator for calls over pure values, its laws, and contracts of functions). No condition. -/
import Derived.Test.YtnbkoemhcpjceaaKl
import Derived.Test.YtnbkoemhcpjceaaKk
set_option linter.all false
set_option linter.unusedVariables false
set_option maxRecDepth 10000
set_option maxHeartbeats 1000000
namespace Go.Ck
open Go.Proofs
attribute [go_sem] putParams keptH allNames pickH
theorem EndsR.noPanic {P : Program} {res : List ResultVar} {H : List (Nat × HO)} {Ψ : List SV → List (Nat × HO) → Prop} {C' : Cx} : ∀ c C s, ¬ EndsR P res H Ψ C' (.panic c) C s := fun c C s h => by
  have := h.2.1
  simp at this
theorem frame_fn (l : List Nat) (hl : l.length ≤ 65536) (hx : ∀ x ∈ l, x < 2 ^ 64) : Fn Try.prog 63 [] [.pv (.sl 1 (u64s l))]
    (fun rs H' => rs = [.pv (.int .u64 (lo l : Nat)), .pv (.int .i64 (wF l : Nat))] ∧ H' = []) := by
  refine Fn.of_bodyR (fn := Try.f63) (n := 19) (res := [.tmp 2, .tmp 3]) (by kernel_rfl) rfl rfl rfl rfl rfl (fun C => ?_)
  have hr : room = 140737488355328 := rfl
  refine AW.go ?_
  refine AW.callE (fun _ => 12) (ends_fn l) (.pv _ .nil) ?_
  refine AW.go ?_
  have hout : ∀ i p, lims l i = some p → i < l.length ∧ p = [.int .u64 (lo (l.take (i + 1)) : Nat), .int .u64 (hi (l.take (i + 1)) : Nat)] := by
    intro i p hp
    unfold lims at hp
    split at hp <;> cases hp
    rename_i h
    exact ⟨h, rfl⟩
  refine AW.rangeFunc [4, 5] [4, 5] (fun i hp => hp = [(4, .cells 42 [.pv (.int .u64 (lo (l.take i) : Nat))]), (5, .cells 42 [.pv (.int .u64 (hi (l.take i) : Nat))])]) (fun _ _ => False) l.length (ends1_iter l hl) rfl (by simp only [go_sem, ↓reduceIte]) (by simp only [go_sem, ↓reduceIte]) (by simp only [go_sem, ↓reduceIte]) (by simp only [go_sem, ↓reduceIte] <;> rfl) rfl rfl rfl rfl rfl ?_ ?_ (.inl (lims_end l)) ?_ ?_ ?_
  · intro i p hp
    obtain ⟨_, rfl⟩ := hout i p hp
    rfl
  · intro i hi
    exact ⟨_, lims_in hi⟩
  · intro i p hi hp
    obtain ⟨_, rfl⟩ := hout i p hp
    rintro _ rfl L C1
    refine AW.go ?_
    refine AW.nil ⟨rfl, rfl, fun C2 => ?_⟩
    refine AW.go ?_
    refine AW.nil ⟨rfl, by simp only [go_sem, ↓reduceIte], by simp only [go_sem, ↓reduceIte], .inl ⟨rfl, ?_⟩⟩
    simp only [go_sem, ↓reduceIte]
  · rintro _ _ rfl
    rw [List.take_length]
    have h1 := lo_lt (by omega) hx
    have h2 := hi_lt (by omega) hx
    have h3 := lo_hi l
    have hw : wF l = blen (hi l - lo l) := rfl
    rw [hw]
    generalize lo l = a at *
    generalize hi l = b at *
    have es : IntKind.u64.wrap ((b : Int) - (a : Int)) = ((b - a : Nat) : Int) := by
      rw [show (b : Int) - (a : Int) = ((b - a : Nat) : Int) by omega]; exact wrap_u64_lt (by omega)
    refine AW.go ?_
    refine AW.any0 mixed ?_
    refine AW.branch (fuel := 6) (rs := [0, 1, 2]) ?_ (by decide +kernel) (by simp)
    intro j hj
    simp only [List.mem_cons, List.not_mem_nil, or_false] at hj
    rcases hj with rfl | rfl | rfl
    · skip
      refine AW.gg ?_ (by simp only [go_sem, ↓reduceIte, es] <;> rfl)
      refine AW.branch (fuel := 5) (rs := [1, 2]) ?_ (by decide +kernel) (by simp)
      intro j hj
      simp only [List.mem_cons, List.not_mem_nil, or_false] at hj
      rcases hj with rfl | rfl
      · skip
        refine AW.gg ?_ (by simp only [go_sem, ↓reduceIte, es] <;> rfl)
        refine AW.seqs (fuel := 0) (listed' := #[true, true, true, true, true, true, true]) [2, 3, 4, 5, 6] ?_ (by decide +kernel)
        refine AW.gg ?_ (by simp only [go_sem, ↓reduceIte, es] <;> rfl)
        refine AW.callE (fun _ => 0) (width_fn (b - a) (by omega)) (.pv _ .nil) ?_
        refine AW.gg ?_
        refine AW.anyDone (by decide +kernel) ?_
        refine AW.go ?_
        refine AW.finR (.inr rfl) (.inr rfl) (by simp only [go_sem, ↓reduceIte, retsV] <;> rfl) (.pv _ (.pv _ .nil)) (H' := []) (by simp only [go_sem, ↓reduceIte]) (by simp only [go_sem, ↓reduceIte]) (by simp only [go_sem, ↓reduceIte]) ⟨rfl, rfl⟩
      · skip
        refine AW.gg ?_ (by simp only [go_sem, ↓reduceIte, es] <;> rfl)
        refine AW.seqs (fuel := 0) (listed' := #[true, true, true, true, true, true, true]) [1, 3, 4, 5, 6] ?_ (by decide +kernel)
        refine AW.gg ?_ (by simp only [go_sem, ↓reduceIte, es] <;> rfl)
        refine AW.callE (fun _ => 0) (width_fn (b - a) (by omega)) (.pv _ .nil) ?_
        refine AW.gg ?_
        refine AW.anyDone (by decide +kernel) ?_
        refine AW.go ?_
        refine AW.finR (.inr rfl) (.inr rfl) (by simp only [go_sem, ↓reduceIte, retsV] <;> rfl) (.pv _ (.pv _ .nil)) (H' := []) (by simp only [go_sem, ↓reduceIte]) (by simp only [go_sem, ↓reduceIte]) (by simp only [go_sem, ↓reduceIte]) ⟨rfl, rfl⟩
    · skip
      refine AW.gg ?_ (by simp only [go_sem, ↓reduceIte, es] <;> rfl)
      refine AW.branch (fuel := 5) (rs := [0, 2]) ?_ (by decide +kernel) (by simp)
      intro j hj
      simp only [List.mem_cons, List.not_mem_nil, or_false] at hj
      rcases hj with rfl | rfl
      · skip
        refine AW.gg ?_ (by simp only [go_sem, ↓reduceIte, es] <;> rfl)
        refine AW.seqs (fuel := 0) (listed' := #[true, true, true, true, true, true, true]) [2, 3, 4, 5, 6] ?_ (by decide +kernel)
        refine AW.gg ?_ (by simp only [go_sem, ↓reduceIte, es] <;> rfl)
        refine AW.callE (fun _ => 0) (width_fn (b - a) (by omega)) (.pv _ .nil) ?_
        refine AW.gg ?_
        refine AW.anyDone (by decide +kernel) ?_
        refine AW.go ?_
        refine AW.finR (.inr rfl) (.inr rfl) (by simp only [go_sem, ↓reduceIte, retsV] <;> rfl) (.pv _ (.pv _ .nil)) (H' := []) (by simp only [go_sem, ↓reduceIte]) (by simp only [go_sem, ↓reduceIte]) (by simp only [go_sem, ↓reduceIte]) ⟨rfl, rfl⟩
      · skip
        refine AW.gg ?_ (by simp only [go_sem, ↓reduceIte, es] <;> rfl)
        refine AW.takes (fuel := 4) [3] ?_ (by simp only [go_sem, ↓reduceIte, es] <;> rfl) EndsR.noPanic (listed' := #[false, true, true, true, false, false, false]) (by decide +kernel) (by decide +kernel)
        refine AW.branch (fuel := 3) (rs := [0, 4]) ?_ (by decide +kernel) (by simp)
        intro j hj
        simp only [List.mem_cons, List.not_mem_nil, or_false] at hj
        rcases hj with rfl | rfl
        · skip
          refine AW.gg ?_ (by simp only [go_sem, ↓reduceIte, es] <;> rfl)
          refine AW.seqs (fuel := 0) (listed' := #[true, true, true, true, true, true, true]) [4, 5, 6] ?_ (by decide +kernel)
          refine AW.gg ?_ (by simp only [go_sem, ↓reduceIte, es] <;> rfl)
          refine AW.callE (fun _ => 0) (width_fn (b - a) (by omega)) (.pv _ .nil) ?_
          refine AW.gg ?_
          refine AW.anyDone (by decide +kernel) ?_
          refine AW.go ?_
          refine AW.finR (.inr rfl) (.inr rfl) (by simp only [go_sem, ↓reduceIte, retsV] <;> rfl) (.pv _ (.pv _ .nil)) (H' := []) (by simp only [go_sem, ↓reduceIte]) (by simp only [go_sem, ↓reduceIte]) (by simp only [go_sem, ↓reduceIte]) ⟨rfl, rfl⟩
        · skip
          refine AW.gg ?_ (by simp only [go_sem, ↓reduceIte, es] <;> rfl)
          refine AW.callE (fun _ => 0) (width_fn (b - a) (by omega)) (.pv _ .nil) ?_
          refine AW.gg ?_
          refine AW.seqs (fuel := 0) (listed' := #[true, true, true, true, true, true, true]) [0, 5, 6] ?_ (by decide +kernel)
          refine AW.gg ?_ (by simp only [go_sem, ↓reduceIte, es] <;> rfl)
          refine AW.anyDone (by decide +kernel) ?_
          refine AW.go ?_
          refine AW.finR (.inr rfl) (.inr rfl) (by simp only [go_sem, ↓reduceIte, retsV] <;> rfl) (.pv _ (.pv _ .nil)) (H' := []) (by simp only [go_sem, ↓reduceIte]) (by simp only [go_sem, ↓reduceIte]) (by simp only [go_sem, ↓reduceIte]) ⟨rfl, rfl⟩
    · skip
      refine AW.gg ?_ (by simp only [go_sem, ↓reduceIte, es] <;> rfl)
      refine AW.branch (fuel := 5) (rs := [0, 1]) ?_ (by decide +kernel) (by simp)
      intro j hj
      simp only [List.mem_cons, List.not_mem_nil, or_false] at hj
      rcases hj with rfl | rfl
      · skip
        refine AW.gg ?_ (by simp only [go_sem, ↓reduceIte, es] <;> rfl)
        refine AW.seqs (fuel := 0) (listed' := #[true, true, true, true, true, true, true]) [1, 3, 4, 5, 6] ?_ (by decide +kernel)
        refine AW.gg ?_ (by simp only [go_sem, ↓reduceIte, es] <;> rfl)
        refine AW.callE (fun _ => 0) (width_fn (b - a) (by omega)) (.pv _ .nil) ?_
        refine AW.gg ?_
        refine AW.anyDone (by decide +kernel) ?_
        refine AW.go ?_
        refine AW.finR (.inr rfl) (.inr rfl) (by simp only [go_sem, ↓reduceIte, retsV] <;> rfl) (.pv _ (.pv _ .nil)) (H' := []) (by simp only [go_sem, ↓reduceIte]) (by simp only [go_sem, ↓reduceIte]) (by simp only [go_sem, ↓reduceIte]) ⟨rfl, rfl⟩
      · skip
        refine AW.gg ?_ (by simp only [go_sem, ↓reduceIte, es] <;> rfl)
        refine AW.takes (fuel := 4) [3] ?_ (by simp only [go_sem, ↓reduceIte, es] <;> rfl) EndsR.noPanic (listed' := #[false, true, true, true, false, false, false]) (by decide +kernel) (by decide +kernel)
        refine AW.branch (fuel := 3) (rs := [0, 4]) ?_ (by decide +kernel) (by simp)
        intro j hj
        simp only [List.mem_cons, List.not_mem_nil, or_false] at hj
        rcases hj with rfl | rfl
        · skip
          refine AW.gg ?_ (by simp only [go_sem, ↓reduceIte, es] <;> rfl)
          refine AW.seqs (fuel := 0) (listed' := #[true, true, true, true, true, true, true]) [4, 5, 6] ?_ (by decide +kernel)
          refine AW.gg ?_ (by simp only [go_sem, ↓reduceIte, es] <;> rfl)
          refine AW.callE (fun _ => 0) (width_fn (b - a) (by omega)) (.pv _ .nil) ?_
          refine AW.gg ?_
          refine AW.anyDone (by decide +kernel) ?_
          refine AW.go ?_
          refine AW.finR (.inr rfl) (.inr rfl) (by simp only [go_sem, ↓reduceIte, retsV] <;> rfl) (.pv _ (.pv _ .nil)) (H' := []) (by simp only [go_sem, ↓reduceIte]) (by simp only [go_sem, ↓reduceIte]) (by simp only [go_sem, ↓reduceIte]) ⟨rfl, rfl⟩
        · skip
          refine AW.gg ?_ (by simp only [go_sem, ↓reduceIte, es] <;> rfl)
          refine AW.callE (fun _ => 0) (width_fn (b - a) (by omega)) (.pv _ .nil) ?_
          refine AW.gg ?_
          refine AW.seqs (fuel := 0) (listed' := #[true, true, true, true, true, true, true]) [0, 5, 6] ?_ (by decide +kernel)
          refine AW.gg ?_ (by simp only [go_sem, ↓reduceIte, es] <;> rfl)
          refine AW.anyDone (by decide +kernel) ?_
          refine AW.go ?_
          refine AW.finR (.inr rfl) (.inr rfl) (by simp only [go_sem, ↓reduceIte, retsV] <;> rfl) (.pv _ (.pv _ .nil)) (H' := []) (by simp only [go_sem, ↓reduceIte]) (by simp only [go_sem, ↓reduceIte]) (by simp only [go_sem, ↓reduceIte]) ⟨rfl, rfl⟩
  · rintro j hp h; exact h.elim
end Go.Ck

set_option linter.unusedVariables false
set_option maxRecDepth 10000
set_option maxHeartbeats 1000000
namespace Go.Ck
open Go.Proofs
theorem pack_fn (xs : List Nat) (hl : xs.length ≤ 65536) (hx : ∀ x ∈ xs, x < 2 ^ 64) : Fn Try.prog 44 [] [.pv (.sl 1 (u64s xs))]
    (fun rs H' => rs = [.own 5 (bytes (packF xs)), .pv (.int .i64 0)] ∧ H' = []) := by
  refine Fn.of_body (fn := Try.f44) (n := 43) (res := [.tmp 2, .tmp 3]) (by kernel_rfl) rfl rfl rfl rfl rfl (fun C => ?_)
  have hr : room = 140737488355328 := rfl
  have hgt : decide (65536 < xs.length) = false := decide_eq_false (by omega)
  have hgi : decide ((xs.length : Int) > 65536) = false := decide_eq_false (by omega)
  refine AW.go ?_ (by simp only [go_sem, ↓reduceIte, hgt, hgi] <;> rfl)
  refine AW.condF rfl ?_
  refine AW.go ?_
  refine AW.callE (fun _ => 0) (frame_fn xs hl hx) (.pv _ .nil) ?_
  refine AW.go ?_
  refine AW.nilsOwnAt (.cell 19 0) 5 ?_
  have hw := wF_le hx
  have hlo := lo_lt (by omega) hx
  have hfit : ∀ x ∈ xs, x - lo xs < 2 ^ wF xs ∧ lo xs ≤ x := fun x h => ⟨wF_fit h, lo_le h⟩
  unfold packF
  generalize wF xs = w at *
  generalize lo xs = v at *
  refine AW.loopS (fun i : Nat => ⟨43, [(22, .pv (.int .i64 i)), (21, .pv (.int .i64 xs.length)), (20, .pv (.sl 1 (u64s xs))), (6, .ptr 19 0), (4, .pv (.int .u64 v)), (5, .pv (.int .i64 w))], [(19, .cells 80 [.own 5 (bytes (pk (bitsF (xs.take i) v w))), .pv (.int .i64 (bitsF (xs.take i) v w).length)])]⟩) (fun i => i ≤ xs.length) (fun i => xs.length - i) [22, 21, 20, 6, 4, 5] [19] 0 (Nat.zero_le _) ?_
  rintro i hi K hK
  refine AW.go ?_
  refine AW.cond rfl (fun hc => ?_) (fun hc => ?_)
  · have hlt : i < xs.length := by simpa using hc
    have hget := u64s_get hlt
    have hti : xs.take (i + 1) = xs.take i ++ [xs[i]] := by simp
    have hxx := hx _ (List.getElem_mem hlt)
    obtain ⟨hf1, hf2⟩ := hfit _ (List.getElem_mem hlt)
    generalize xs[i] = x at *
    have hbl := bitsF_len (xs.take i) v w
    have hbs := bitsF_snoc (xs.take i) x v w
    rw [List.length_take] at hbl
    have hm : min i xs.length * w ≤ 65536 * 64 := Nat.mul_le_mul (by omega) hw
    have hput := wrPut_fn (bitsF (xs.take i) v w) (x - v) w (bitsF_bit _ _ _) hw hf1 (by rw [hbl]; omega)
    have ei : IntKind.i64.wrap ((i : Int) + 1) = ((i + 1 : Nat) : Int) := wrap_i64_succ (by omega)
    have es : IntKind.u64.wrap ((x : Int) - (v : Int)) = ((x - v : Nat) : Int) := by rw [show (x : Int) - (v : Int) = ((x - v : Nat) : Int) by omega]; exact wrap_u64_lt (by omega)
    refine AW.go ?_ (by simp only [go_sem, ↓reduceIte, hget, es] <;> rfl)
    refine AW.callE (fun _ => 19) hput (.ptr rfl (.pv _ (.pv _ .nil))) ?_
    rw [← hbs, ← hti]
    refine AW.go ?_ (by simp only [go_sem, ↓reduceIte, ei] <;> rfl)
    refine AW.again hK (i + 1) hlt (by omega)
  · have hge : ¬ i < xs.length := by simpa using hc
    rw [List.take_of_length_le (by omega)]
    have hbl := bitsF_len xs v w
    have hm : xs.length * w ≤ 65536 * 64 := Nat.mul_le_mul (by omega) hw
    have h10 := leb_len10 hlo
    refine AW.go ?_
    refine AW.callE (fun _ => 0) (append_fn [] v hlo (by simp; omega)) (.nilsP 1 (.pv _ .nil)) ?_
    have eu : IntKind.u8.wrap ((w : Nat) : Int) = (w : Nat) := wrap_u8_lt (by omega)
    have h1 : (leb v).length + 1 ≤ room := by omega
    refine AW.go ?_ (by simp only [go_sem, ↓reduceIte, List.nil_append, eu, bytes_one, h1] <;> rfl)
    refine AW.callE (fun _ => 19) (wrBytes_fn (bitsF xs v w) (by omega)) (.ptr rfl .nil) ?_
    have hpl := pk_len (bitsF xs v w)
    have h3 : (leb v ++ [w]).length + (pk (bitsF xs v w)).length ≤ room := by rw [List.length_append, hpl, hbl]; simp; omega
    have hap : leb v ++ [w] ++ pk (bitsF xs v w) = leb v ++ (w :: pk (bitsF xs v w)) := by simp
    refine AW.go ?_ (by simp only [go_sem, ↓reduceIte, h3, hap] <;> rfl)
    refine AW.finE (.move rfl (.pv _ .nil)) rfl

theorem unpack_fn (l : List Nat) (n : Nat) (hn : n ≤ 65536) (hl : l.length ≤ 2 ^ 40) (hb : ∀ x ∈ l, x < 256) : Fn Try.prog 76 [] [.pv (.sl 1 (bytes l)), .pv (.int .i64 n)]
    (fun rs H' => rs = [.own 42 (u64s (unF l n).1), .pv (.int .i64 (unF l n).2)] ∧ H' = []) := by
  refine Fn.of_body (fn := Try.f76) (n := 106) (res := [.tmp 4, .tmp 5]) (by kernel_rfl) rfl rfl rfl rfl rfl (fun C => ?_)
  have hr : room = 140737488355328 := rfl
  have hle := readV_le l
  have hlt := readV_lt hb
  refine AW.gg ?_
  refine AW.condF (by simp only [go_sem, ↓reduceIte]; congr 3; simp; omega) ?_
  refine AW.go ?_
  refine AW.callE (fun o => if o = 7 then 25 else 0) (curNew_fn l (by omega)) (.pv _ .nil) ?_
  refine AW.go ?_
  refine AW.callE (fun _ => 25) (curVarint_fn l (by omega) hb) (.ptr rfl .nil) ?_
  refine AW.go ?_
  unfold unF
  have hbr : ∀ x ∈ l.drop (readV l).2.1, x < 256 := fun x hx => hb x (List.mem_of_mem_drop hx)
  have hlr : (l.drop (readV l).2.1).length ≤ 2 ^ 40 := by simp; omega
  generalize l.drop (readV l).2.1 = r at *
  generalize (readV l).1 = v at *
  generalize (readV l).2.2 = e at *
  generalize (readV l).2.1 = k at *
  refine AW.cond rfl (fun hc => ?_) (fun hc => ?_)
  · have he : e ≠ 0 := by simpa using hc
    simp only [if_pos he]
    refine AW.go ?_
    refine AW.finE (.move rfl (.pv _ .nil)) rfl
  have he : ¬ e ≠ 0 := by simpa using hc
  simp only [if_neg he]
  refine AW.go ?_
  refine AW.callE (fun _ => 25) (curByte_fn r (by omega)) (.ptr rfl .nil) ?_
  refine AW.go ?_
  cases r with
  | nil =>
    refine AW.condT rfl ?_
    refine AW.go ?_
    refine AW.finE (.move rfl (.pv _ .nil)) rfl
  | cons w q =>
    simp only [List.length_cons] at hlr
    have hbq : ∀ x ∈ q, x < 256 := fun x hx => hbr x (by simp [hx])
    have hw8 := hbr w (by simp)
    refine AW.condF rfl ?_
    refine AW.go ?_
    simp only [List.headD_cons, List.tail_cons, unF1]
    refine AW.cond rfl (fun hc2 => ?_) (fun hc2 => ?_)
    · have hw : 64 < w := by simp at hc2; omega
      simp only [if_pos hw]
      refine AW.go ?_
      refine AW.finE (.move rfl (.pv _ .nil)) rfl
    have hw : ¬ 64 < w := by simp at hc2; omega
    simp only [if_neg hw]
    have hnw : n * w ≤ 65536 * 64 := Nat.mul_le_mul hn (by omega)
    have em : IntKind.i64.wrap (((n * w : Nat) : Int)) = ((n * w : Nat) : Int) := wrap_i64_nat (by omega)
    have ew : IntKind.i64.wrap ((w : Nat) : Int) = (w : Nat) := wrap_i64_nat (by omega)
    have e8 : IntKind.i64.wrap (8 * ((q.length : Nat) : Int)) = ((8 * q.length : Nat) : Int) := wrap_i64_nat (n := 8 * q.length) (by omega)
    refine AW.go ?_ (by simp only [go_sem, ↓reduceIte, ew, em] <;> rfl)
    refine AW.callE (fun _ => 25) (curLeft_fn q) (.ptr rfl .nil) ?_
    refine AW.go ?_ (by simp only [go_sem, ↓reduceIte, e8] <;> rfl)
    refine AW.cond rfl (fun hc3 => ?_) (fun hc3 => ?_)
    · have h2 : 8 * q.length < n * w := by simp at hc3; omega
      simp only [if_pos h2]
      refine AW.go ?_
      refine AW.finE (.move rfl (.pv _ .nil)) rfl
    have h2 : ¬ 8 * q.length < n * w := by simp at hc3; omega
    simp only [if_neg h2]
    refine AW.go ?_
    refine AW.callE (fun _ => 25) (curLeft_fn q) (.ptr rfl .nil) ?_
    refine AW.go ?_
    refine AW.callE (fun _ => 25) (curBytes_fn q q.length (by omega)) (.ptr rfl (.pv _ .nil)) ?_
    simp only [if_pos (Nat.le_refl _), List.take_length, List.drop_length]
    refine AW.freeze (p := .part 59 0) (by simp only [go_sem, ↓reduceIte, freeze, freezeO] <;> rfl) ?_
    refine AW.go ?_
    refine AW.callE (fun o => if o = 6 then 63 else 0) (rdNew_fn q (by omega)) (.pv _ .nil) ?_
    have r1 : 8 * n ≤ room := by omega
    have r2 : n ≤ room := by omega
    refine AW.go ?_ (by simp only [go_sem, ↓reduceIte, r1, r2] <;> rfl)
    unfold unF2
    refine AW.loopS (fun j : Nat => ⟨106, [(67, .pv (.int .i64 j)), (66, .pv (.int .i64 n)), (13, .own 42 (u64s (valsF q w j v))), (12, .ptr 63 0), (9, .pv (.int .u8 w)), (7, .pv (.int .u64 v))], [(63, .cells 112 [.pv (.sl 1 (bytes q)), .pv (.int .i64 (j * w : Nat))])]⟩) (fun j => j ≤ n ∧ okF q w j v = true) (fun j => n - j) [67, 66, 13, 12, 9, 7] [63] 0 ⟨Nat.zero_le _, rfl⟩ ?_ (by simp only [go_sem, ↓reduceIte]) (by simp only [go_sem, ↓reduceIte, Nat.zero_mul] <;> rfl)
    clear hc2 hc3
    rintro j ⟨hj, hok⟩ K hK
    refine AW.go ?_
    refine AW.cond rfl (fun hc => ?_) (fun hc => ?_)
    · have hlt : j < n := by simpa using hc
      have hm : (j + 1) * w ≤ n * w := Nat.mul_le_mul_right _ hlt
      rw [Nat.succ_mul] at hm
      have hgl : j * w + w ≤ 8 * q.length := by omega
      refine AW.go ?_ (by simp only [go_sem, ↓reduceIte, ew] <;> rfl)
      refine AW.callE (fun _ => 63) (rdGet_fn q (j * w) w (by omega) (by omega) (by omega) hbq) (.ptr rfl (.pv _ .nil)) ?_
      simp only [if_pos hgl]
      have hix : getB (unb q) (j * w) w = valF q w j := rfl
      have hvl : valF q w j < 2 ^ 64 := by
        have h1 := binN_lt (((unb q).drop (j * w)).take w) (fun x hx => unb_bit q x (List.mem_of_mem_drop (List.mem_of_mem_take hx)))
        have h2 : 2 ^ (((unb q).drop (j * w)).take w).length ≤ 2 ^ 64 := Nat.pow_le_pow_right (by omega) (by simp; omega)
        exact Nat.lt_of_lt_of_le h1 h2
      have hvs := valsF_succ q w j v
      have hos := okF_succ q w j v
      have hof : ¬ valF q w j + v < 2 ^ 64 → okF q w n v = false := okF_false hlt
      rw [hix, show j * w + w = (j + 1) * w by rw [Nat.succ_mul]]
      generalize valF q w j = y at *
      by_cases hov : y + v < 2 ^ 64
      · have es : IntKind.u64.wrap ((y : Int) + (v : Int)) = ((y + v : Nat) : Int) := wrap_u64_lt (n := y + v) hov
        have d : decide (y + v < v) = false := decide_eq_false (by omega)
        have h1 : (j + 1) * 8 ≤ room := by omega
        have h2 : j + 1 ≤ room := by omega
        have ei : IntKind.i64.wrap ((j : Int) + 1) = ((j + 1 : Nat) : Int) := wrap_i64_succ (by omega)
        refine AW.go ?_ (by simp only [go_sem, ↓reduceIte, es, d] <;> rfl)
        refine AW.condF rfl ?_
        refine AW.go ?_ (by simp only [go_sem, ↓reduceIte, es, valsF_len, u64s_one, h1, h2, ei, ← hvs] <;> rfl)
        refine AW.again hK (j + 1) ⟨hlt, by rw [hos, hok, decide_eq_true hov]; rfl⟩ (by omega)
      · have es : IntKind.u64.wrap ((y : Int) + (v : Int)) = ((y + v - 2 ^ 64 : Nat) : Int) := by
          have := wrap_u64 (y + v)
          rw [show (y + v) % 2 ^ 64 = y + v - 2 ^ 64 by omega] at this
          exact this
        have d : decide (y + v - 2 ^ 64 < v) = true := decide_eq_true (by omega)
        rw [if_pos (hof hov)]
        generalize y + v - 2 ^ 64 = z at *
        refine AW.go ?_ (by simp only [go_sem, ↓reduceIte, es, d] <;> rfl)
        refine AW.condT rfl ?_
        refine AW.go ?_
        refine AW.finE (.move rfl (.pv _ .nil)) rfl
    have hge : j = n := by simp at hc; omega
    subst hge
    rw [if_neg (by rw [hok]; exact Bool.noConfusion)]
    have hvl := valsF_len q w j v
    refine AW.go ?_
    refine AW.callE (fun _ => 63) (rdEnd_fn q (j * w) (by omega) (by omega) hbq) (.ptr rfl .nil) ?_
    unfold endE
    by_cases hend : endF q (j * w) = true
    · rw [if_pos hend, if_neg (by rw [hend]; exact Bool.noConfusion)]
      refine AW.go ?_
      refine AW.condF rfl ?_
      refine AW.go ?_
      refine AW.callE (fun _ => 0) (frame_fn (valsF q w j v) (by omega) (okF_lt hok)) (.lend rfl co_42 .nil) ?_
      generalize wF (valsF q w j v) = w2 at *
      generalize lo (valsF q w j v) = v2 at *
      by_cases h1 : v2 = v
      · have b1 : ((v2 : Int) != (v : Int)) = false := by simp; omega
        by_cases h3 : w2 = w
        · have b2 : ((w2 : Int) != (w : Int)) = false := by simp; omega
          rw [if_pos ⟨h1, h3⟩]
          refine AW.gg ?_ (by simp only [go_sem, ↓reduceIte, b1, b2, ew] <;> rfl)
          refine AW.condF rfl ?_
          refine AW.go ?_
          refine AW.finE (.move rfl (.pv _ .nil)) rfl
        · have b2 : ((w2 : Int) != (w : Int)) = true := by simp; omega
          rw [if_neg (fun h => h3 h.2)]
          refine AW.gg ?_ (by simp only [go_sem, ↓reduceIte, b1, b2, ew] <;> rfl)
          refine AW.condT rfl ?_
          refine AW.go ?_
          refine AW.finE (.move rfl (.pv _ .nil)) rfl
      · have b1 : ((v2 : Int) != (v : Int)) = true := by simp; omega
        rw [if_neg (fun h => h1 h.1)]
        refine AW.gg ?_ (by simp only [go_sem, ↓reduceIte, b1] <;> rfl)
        refine AW.condT rfl ?_
        refine AW.go ?_
        refine AW.finE (.move rfl (.pv _ .nil)) rfl
    · rw [if_neg hend, if_pos (by simpa using hend)]
      refine AW.go ?_
      refine AW.condT rfl ?_
      refine AW.go ?_
      refine AW.finE (.move rfl (.pv _ .nil)) rfl
end Go.Ck

set_option linter.unusedVariables false
set_option maxRecDepth 10000
set_option maxHeartbeats 1000000
namespace Go.Ck
open Go.Proofs
theorem refPack_fn (xs : List Nat) (hl : xs.length ≤ 65536) (hx : ∀ x ∈ xs, x < 2 ^ 64) : Fn Try.prog 48 [] [.pv (.sl 1 (u64s xs))]
    (fun rs H' => rs = [.own 5 (bytes (packF xs)), .pv (.int .i64 0)] ∧ H' = []) := by
  refine Fn.of_body (fn := Try.f48) (n := 87) (res := [.tmp 2, .tmp 3]) (by kernel_rfl) rfl rfl rfl rfl rfl (fun C => ?_)
  have hr : room = 140737488355328 := rfl
  have hgt : decide (65536 < xs.length) = false := decide_eq_false (by omega)
  have hgi : decide ((xs.length : Int) > 65536) = false := decide_eq_false (by omega)
  refine AW.go ?_ (by simp only [go_sem, ↓reduceIte, hgt, hgi] <;> rfl)
  refine AW.condF rfl ?_
  refine AW.go ?_
  refine AW.loopS (fun i : Nat => ⟨87, [(6, .pv (.int .i64 i)), (4, .pv (.int .u64 (lo (xs.take i) : Nat))), (5, .pv (.int .u64 (hi (xs.take i) : Nat))), (0, .pv (.sl 1 (u64s xs)))], []⟩) (fun i => i ≤ xs.length) (fun i => xs.length - i) [6, 4, 5, 0] [] 0 (Nat.zero_le _) ?_
  rintro i hiu K hK
  refine AW.go ?_
  refine AW.cond rfl (fun hc => ?_) (fun hc => ?_)
  · have hlt : i < xs.length := by simpa using hc
    have hget := u64s_get hlt
    have hto := lo_take (l := xs) (i := i) hlt
    have hti := hi_take (l := xs) (i := i) hlt
    have h1 := lo_take1 (l := xs) (by omega)
    have ei : IntKind.i64.wrap ((i : Int) + 1) = ((i + 1 : Nat) : Int) := wrap_i64_succ (by omega)
    by_cases h0 : i = 0
    · subst h0
      have e0 : (((0 : Nat) : Int) == 0) = true := rfl
      refine AW.gg ?_ (by simp only [go_sem, ↓reduceIte, e0] <;> rfl)
      refine AW.condT rfl ?_
      refine AW.gg ?_ (by simp only [go_sem, ↓reduceIte, hget, e0] <;> rfl)
      refine AW.condT rfl ?_
      refine AW.go ?_ (by simp only [go_sem, ↓reduceIte, hget, ei] <;> rfl)
      refine AW.again hK 1 hlt (by omega) (by simp only [go_sem, ↓reduceIte]) (by simp only [go_sem, ↓reduceIte, h1.1, h1.2] <;> rfl)
    · have e0 : ((i : Int) == 0) = false := by simp; omega
      have hto := hto h0
      have hti := hti h0
      generalize xs[i] = x at *
      generalize lo (xs.take i) = a at *
      generalize hi (xs.take i) = b at *
      by_cases hxa : x < a
      · have d1 : decide (x < a) = true := decide_eq_true hxa
        have hto : lo (xs.take (i + 1)) = x := by omega
        refine AW.gg ?_ (by simp only [go_sem, ↓reduceIte, e0, hget, d1] <;> rfl)
        refine AW.condT rfl ?_
        by_cases hxb : b < x
        · have d2 : decide (b < x) = true := decide_eq_true hxb
          have d2i : decide ((x : Int) > (b : Int)) = true := decide_eq_true (by omega)
          have hti : hi (xs.take (i + 1)) = x := by omega
          refine AW.gg ?_ (by simp only [go_sem, ↓reduceIte, hget, e0, d2, d2i] <;> rfl)
          refine AW.condT rfl ?_
          refine AW.go ?_ (by simp only [go_sem, ↓reduceIte, hget, ei] <;> rfl)
          refine AW.again hK (i + 1) hlt (by omega) (by simp only [go_sem, ↓reduceIte]) (by simp only [go_sem, ↓reduceIte, hto, hti] <;> rfl)
        · have d2 : decide (b < x) = false := decide_eq_false hxb
          have d2i : decide ((x : Int) > (b : Int)) = false := decide_eq_false (by omega)
          have hti : hi (xs.take (i + 1)) = b := by omega
          refine AW.gg ?_ (by simp only [go_sem, ↓reduceIte, hget, e0, d2, d2i] <;> rfl)
          refine AW.condF rfl ?_
          refine AW.go ?_ (by simp only [go_sem, ↓reduceIte, hget, ei] <;> rfl)
          refine AW.again hK (i + 1) hlt (by omega) (by simp only [go_sem, ↓reduceIte]) (by simp only [go_sem, ↓reduceIte, hto, hti] <;> rfl)
      · have d1 : decide (x < a) = false := decide_eq_false hxa
        have hto : lo (xs.take (i + 1)) = a := by omega
        refine AW.gg ?_ (by simp only [go_sem, ↓reduceIte, e0, hget, d1] <;> rfl)
        refine AW.condF rfl ?_
        by_cases hxb : b < x
        · have d2 : decide (b < x) = true := decide_eq_true hxb
          have d2i : decide ((x : Int) > (b : Int)) = true := decide_eq_true (by omega)
          have hti : hi (xs.take (i + 1)) = x := by omega
          refine AW.gg ?_ (by simp only [go_sem, ↓reduceIte, hget, e0, d2, d2i] <;> rfl)
          refine AW.condT rfl ?_
          refine AW.go ?_ (by simp only [go_sem, ↓reduceIte, hget, ei] <;> rfl)
          refine AW.again hK (i + 1) hlt (by omega) (by simp only [go_sem, ↓reduceIte]) (by simp only [go_sem, ↓reduceIte, hto, hti] <;> rfl)
        · have d2 : decide (b < x) = false := decide_eq_false hxb
          have d2i : decide ((x : Int) > (b : Int)) = false := decide_eq_false (by omega)
          have hti : hi (xs.take (i + 1)) = b := by omega
          refine AW.gg ?_ (by simp only [go_sem, ↓reduceIte, hget, e0, d2, d2i] <;> rfl)
          refine AW.condF rfl ?_
          refine AW.go ?_ (by simp only [go_sem, ↓reduceIte, hget, ei] <;> rfl)
          refine AW.again hK (i + 1) hlt (by omega) (by simp only [go_sem, ↓reduceIte]) (by simp only [go_sem, ↓reduceIte, hto, hti] <;> rfl)
  have hge : ¬ i < xs.length := by simpa using hc
  rw [List.take_of_length_le (by omega)]
  clear hK hc
  have hwd : wF xs = blen (hi xs - lo xs) := rfl
  have hw := wF_le hx
  have hlo := lo_lt (by omega) hx
  have hhi := hi_lt (by omega) hx
  have hlh := lo_hi xs
  have hfit : ∀ x ∈ xs, x - lo xs < 2 ^ wF xs ∧ lo xs ≤ x := fun x h => ⟨wF_fit h, lo_le h⟩
  unfold packF
  generalize wF xs = w at *
  generalize lo xs = v at *
  generalize hi xs = b at *
  have es : IntKind.u64.wrap ((b : Int) - (v : Int)) = ((b - v : Nat) : Int) := by rw [show (b : Int) - (v : Int) = ((b - v : Nat) : Int) by omega]; exact wrap_u64_lt (by omega)
  refine AW.go ?_ (by simp only [go_sem, ↓reduceIte, es] <;> rfl)
  refine AW.callE (fun _ => 0) (refWidth_fn (b - v) (by omega)) (.pv _ .nil) ?_
  rw [← hwd]
  refine AW.go ?_
  refine AW.loopS (fun i : Nat => ⟨87, [(9, .pv (.int .i64 i)), (8, .own 3 (nis (bitsF (xs.take i) v w))), (7, .pv (.int .i64 w)), (4, .pv (.int .u64 v)), (0, .pv (.sl 1 (u64s xs)))], []⟩) (fun i => i ≤ xs.length) (fun i => xs.length - i) [9, 8, 7, 4, 0] [] 0 (Nat.zero_le _) ?_
  rintro i hiu K hK
  refine AW.go ?_
  refine AW.cond rfl (fun hc => ?_) (fun hc => ?_)
  · have hlt : i < xs.length := by simpa using hc
    have hget := u64s_get hlt
    have hti : xs.take (i + 1) = xs.take i ++ [xs[i]] := by simp
    have hxx := hx _ (List.getElem_mem hlt)
    obtain ⟨hf1, hf2⟩ := hfit _ (List.getElem_mem hlt)
    generalize xs[i] = x at *
    have hbl := bitsF_len (xs.take i) v w
    have hbs := bitsF_snoc (xs.take i) x v w
    rw [List.length_take] at hbl
    have hm : min i xs.length * w ≤ 65536 * 64 := Nat.mul_le_mul (by omega) hw
    rw [← hti] at hbs
    have ei : IntKind.i64.wrap ((i : Int) + 1) = ((i + 1 : Nat) : Int) := wrap_i64_succ (by omega)
    have ex : IntKind.u64.wrap ((x : Int) - (v : Int)) = ((x - v : Nat) : Int) := by rw [show (x : Int) - (v : Int) = ((x - v : Nat) : Int) by omega]; exact wrap_u64_lt (by omega)
    have ew1 : IntKind.i64.wrap ((w : Int) - 1) = (w : Int) - 1 := wrap_i64_of (by omega) (by omega)
    have hy : x - v < 2 ^ 64 := by omega
    generalize x - v = y at *
    generalize bitsF (xs.take i) v w = bs at *
    refine AW.go ?_ (by simp only [go_sem, ↓reduceIte, ew1] <;> rfl)
    refine AW.loopS (fun a : List Nat × Nat => ⟨87, [(10, .pv (.int .i64 ((a.2 : Int) - 1))), (9, .pv (.int .i64 i)), (8, .own 3 (nis a.1)), (7, .pv (.int .i64 w)), (4, .pv (.int .u64 v)), (0, .pv (.sl 1 (u64s xs)))], []⟩) (fun a => a.1 ++ binB y a.2 = bs ++ binB y w ∧ a.2 ≤ w) (fun a => a.2) [10, 9, 8, 7, 4, 0] [] (bs, w) ⟨rfl, Nat.le_refl _⟩ ?_
    rintro ⟨o, j⟩ ⟨ho, hj⟩ K' hK'
    simp only at ho hj
    have hol : o.length + j = bs.length + w := by have := congrArg List.length ho; simpa [binB_len] using this
    refine AW.go ?_
    refine AW.cond rfl (fun hc => ?_) (fun hc => ?_)
    · cases j with
      | zero => simp at hc
      | succ j =>
        have e0 : (((j + 1 : Nat) : Int) - 1) = (j : Nat) := by omega
        have e2 : IntKind.u64.wrap ((j : Nat) : Int) = (j : Nat) := wrap_u64_lt (by omega)
        have e4 : IntKind.i64.wrap ((j : Int) - 1) = (j : Int) - 1 := wrap_i64_of (by omega) (by omega)
        have e3 : IntKind.i64.wrap (ibits .and .u64 (shrI .u64 (y : Int) (j : Nat)) 1) = ((y / 2 ^ j % 2 : Nat) : Int) := by
          rw [shrI_nat .u64 y _ (by show j ≤ 64; omega), and_one (Nat.lt_of_le_of_lt (Nat.div_le_self _ _) hy), wrap_i64_nat (by omega)]
        have h1 : (o.length + 1) * 8 ≤ room := by omega
        have h2 : o.length + 1 ≤ room := by omega
        refine AW.go ?_ (by simp only [go_sem, ↓reduceIte, hget, ex, e0, e2, e3, e4, nis_one, h1, h2] <;> rfl)
        refine AW.again hK' (o ++ [y / 2 ^ j % 2], j) ⟨?_, by simp only; omega⟩ (by simp only; omega)
        rw [← ho, binB_succ]; simp
    · cases j with
      | zero =>
        simp only [binB, List.append_nil] at ho
        refine AW.go ?_ (by simp only [go_sem, ↓reduceIte, ei] <;> rfl)
        refine AW.again hK (i + 1) hlt (by omega) (by simp only [go_sem, ↓reduceIte]) (by simp only [go_sem, ↓reduceIte, ho, hbs] <;> rfl)
      | succ j => exact absurd hc (by simp)
  · have hge : ¬ i < xs.length := by simpa using hc
    rw [List.take_of_length_le (by omega)]
    have hbl := bitsF_len xs v w
    have hm : xs.length * w ≤ 65536 * 64 := Nat.mul_le_mul (by omega) hw
    have h10 := leb_len10 hlo
    refine AW.go ?_
    refine AW.callE (fun _ => 0) (refAppend_fn [] v hlo (by simp; omega)) (.nilsP 1 (.pv _ .nil)) ?_
    have eu : IntKind.u8.wrap ((w : Nat) : Int) = (w : Nat) := wrap_u8_lt (by omega)
    have h1 : (leb v).length + 1 ≤ room := by omega
    refine AW.go ?_ (by simp only [go_sem, ↓reduceIte, List.nil_append, eu, bytes_one, h1] <;> rfl)
    refine AW.callE (fun _ => 0) (refBits_fn (bitsF xs v w) (by omega) (bitsF_bit _ _ _)) (.lend rfl co_3 .nil) ?_
    have hpl := pk_len (bitsF xs v w)
    have h3 : (leb v ++ [w]).length + (pk (bitsF xs v w)).length ≤ room := by rw [List.length_append, hpl, hbl]; simp; omega
    have hap : leb v ++ [w] ++ pk (bitsF xs v w) = leb v ++ (w :: pk (bitsF xs v w)) := by simp
    refine AW.go ?_ (by simp only [go_sem, ↓reduceIte, h3, hap] <;> rfl)
    refine AW.finE (.move rfl (.pv _ .nil)) rfl

def outF (q : List Nat) (w n v : Nat) : List Nat := (List.range n).map fun i => (valF q w i + v) % 2 ^ 64
theorem outF_len (q : List Nat) (w n v : Nat) : (outF q w n v).length = n := by simp [outF]
theorem outF_succ (q : List Nat) (w n v : Nat) : outF q w (n + 1) v = outF q w n v ++ [(valF q w n + v) % 2 ^ 64] := by simp [outF, List.range_succ]
theorem outF_ok {q : List Nat} {w n v : Nat} (h : okF q w n v = true) : outF q w n v = valsF q w n v := by
  unfold outF valsF
  refine List.map_congr_left (fun i hi => ?_)
  rw [okF, List.all_eq_true] at h
  have := h i hi
  exact Nat.mod_eq_of_lt (by simpa using this)

theorem refUnpack_fn (l : List Nat) (n : Nat) (hn : n ≤ 65536) (hl : l.length ≤ 2 ^ 40) (hb : ∀ x ∈ l, x < 256) : Fn Try.prog 59 [] [.pv (.sl 1 (bytes l)), .pv (.int .i64 n)]
    (fun rs H' => rs = [.own 42 (u64s (unF l n).1), .pv (.int .i64 (unF l n).2)] ∧ H' = []) := by
  refine Fn.of_body (fn := Try.f59) (n := 102) (res := [.tmp 4, .tmp 5]) (by kernel_rfl) rfl rfl rfl rfl rfl (fun C => ?_)
  have hr : room = 140737488355328 := rfl
  have hle := readV_le l
  have hlt := readV_lt hb
  have hcan := readV_canon hb
  refine AW.gg ?_
  refine AW.condF (by simp only [go_sem, ↓reduceIte]; congr 3; simp; omega) ?_
  refine AW.go ?_
  refine AW.callE (fun _ => 0) (refRead_fn l (by omega) hb) (.pv _ .nil) ?_
  refine AW.go ?_
  unfold unF
  have hbr : ∀ x ∈ l.drop (readV l).2.1, x < 256 := fun x hx => hb x (List.mem_of_mem_drop hx)
  have hlr : (l.drop (readV l).2.1).length = l.length - (readV l).2.1 := by simp
  generalize hrd : l.drop (readV l).2.1 = r at *
  generalize (readV l).1 = v at *
  generalize (readV l).2.2 = e at *
  generalize (readV l).2.1 = k at *
  refine AW.cond rfl (fun hc => ?_) (fun hc => ?_)
  · have he : e ≠ 0 := by simpa using hc
    simp only [if_pos he]
    refine AW.go ?_
    refine AW.finE (.move rfl (.pv _ .nil)) rfl
  have he : ¬ e ≠ 0 := by simpa using hc
  simp only [if_neg he]
  have hcan := hcan (by simpa using he)
  cases r with
  | nil =>
    have hkl : ((k : Int) == (l.length : Int)) = true := by simp at hlr ⊢; omega
    refine AW.go ?_ (by simp only [go_sem, ↓reduceIte, hkl] <;> rfl)
    refine AW.condT rfl ?_
    refine AW.go ?_
    refine AW.finE (.move rfl (.pv _ .nil)) rfl
  | cons w q =>
    simp only [List.length_cons] at hlr
    have hbq : ∀ x ∈ q, x < 256 := fun x hx => hbr x (by simp [hx])
    have hw8 := hbr w (by simp)
    have hkl : ((k : Int) == (l.length : Int)) = false := by simp; omega
    have hk : k < l.length := by omega
    have hget : (bytes l)[k]? = some (.int .u8 w) := by
      have h1 : l[k]? = some w := by
        have := congrArg (·[0]?) hrd
        simpa using this
      rw [bytes, List.getElem?_map, h1]; rfl
    have hk1 : k + 1 ≤ l.length := hk
    have hdq : l.drop (k + 1) = q := by rw [← List.drop_drop, hrd]; rfl
    have ew : IntKind.i64.wrap ((w : Nat) : Int) = (w : Nat) := wrap_i64_nat (by omega)
    have ek1 : IntKind.i64.wrap ((k : Int) + 1) = ((k + 1 : Nat) : Int) := wrap_i64_succ (by omega)
    refine AW.go ?_ (by simp only [go_sem, ↓reduceIte, hkl] <;> rfl)
    refine AW.condF rfl ?_
    refine AW.go ?_ (by simp only [go_sem, ↓reduceIte, hget, hk, ew] <;> rfl)
    simp only [unF1]
    refine AW.cond rfl (fun hc2 => ?_) (fun hc2 => ?_)
    · have hw : 64 < w := by simp at hc2; omega
      simp only [if_pos hw]
      refine AW.go ?_
      refine AW.finE (.move rfl (.pv _ .nil)) rfl
    have hw : ¬ 64 < w := by simp at hc2; omega
    simp only [if_neg hw]
    have hnw : n * w ≤ 65536 * 64 := Nat.mul_le_mul hn (by omega)
    have em : IntKind.i64.wrap (((n * w : Nat) : Int)) = ((n * w : Nat) : Int) := wrap_i64_nat (by omega)
    have e8 : IntKind.i64.wrap (8 * IntKind.i64.wrap (IntKind.i64.wrap ((l.length : Int) - (k : Int)) - 1)) = ((8 * q.length : Nat) : Int) := by
      rw [wrap_i64_of (n := (l.length : Int) - (k : Int)) (by omega) (by omega), wrap_i64_of (n := (l.length : Int) - (k : Int) - 1) (by omega) (by omega), wrap_i64_of (by omega) (by omega)]
      omega
    refine AW.go ?_ (by simp only [go_sem, ↓reduceIte, em, e8] <;> rfl)
    refine AW.cond rfl (fun hc3 => ?_) (fun hc3 => ?_)
    · have h2 : 8 * q.length < n * w := by simp at hc3; omega
      simp only [if_pos h2]
      refine AW.go ?_
      refine AW.finE (.move rfl (.pv _ .nil)) rfl
    have h2 : ¬ 8 * q.length < n * w := by simp at hc3; omega
    simp only [if_neg h2]
    have e : (((l.length : Int) - ((k + 1 : Nat) : Int)).toNat) = l.length - (k + 1) := by omega
    have e2 : (bytes (l.drop (k + 1))).take (l.length - (k + 1)) = bytes q := by rw [hdq]; exact List.take_of_length_le (by simp [bytes]; omega)
    refine AW.go ?_ (by simp only [go_sem, ↓reduceIte, ek1, hk1, e]; rw [← bytes_take, e2] <;> rfl)
    refine AW.callE (fun _ => 0) (refOf_fn q (by omega) hbq) (.pv _ .nil) ?_
    refine AW.freeze (p := .slot 59) (by simp only [go_sem, ↓reduceIte, freeze, freezeO] <;> rfl) ?_
    refine AW.go ?_
    unfold unF2
    refine AW.loopS (fun j : Nat => ⟨102, [(13, .pv (.int .i64 j)), (1, .pv (.int .i64 n)), (12, .pv (.bool (!okF q w j v))), (11, .own 42 (u64s (outF q w j v))), (10, .pv (.sl 1 (nis ((unb q).drop (j * w))))), (9, .pv (.int .i64 w)), (6, .pv (.int .u64 v)), (0, .pv (.sl 1 (bytes l)))], []⟩) (fun j => j ≤ n) (fun j => n - j) [13, 1, 12, 11, 10, 9, 6, 0] [] 0 (Nat.zero_le _) ?_ (by simp only [go_sem, ↓reduceIte]) (by simp only [go_sem, ↓reduceIte, Nat.zero_mul, List.drop_zero] <;> rfl)
    clear hc2 hc3
    rintro j hj K hK
    have hol := outF_len q w j v
    refine AW.go ?_
    refine AW.cond rfl (fun hc => ?_) (fun hc => ?_)
    · have hlt2 : j < n := by simpa using hc
      have hm : (j + 1) * w ≤ n * w := Nat.mul_le_mul_right _ hlt2
      rw [Nat.succ_mul] at hm
      have hul := unb_len q
      have hgl : w ≤ ((unb q).drop (j * w)).length := by rw [List.length_drop]; omega
      refine AW.go ?_
      refine AW.callE (fun _ => 0) (refGet_fn ((unb q).drop (j * w)) w (by omega) (fun x hx => unb_bit q x (List.mem_of_mem_drop hx))) (.pv _ (.pv _ .nil)) ?_
      simp only [if_pos hgl]
      have hix : binN (((unb q).drop (j * w)).take w) = valF q w j := rfl
      have hdd : ((unb q).drop (j * w)).drop w = (unb q).drop ((j + 1) * w) := by rw [List.drop_drop, Nat.succ_mul]
      have hvl : valF q w j < 2 ^ 64 := by
        have h1 := binN_lt (((unb q).drop (j * w)).take w) (fun x hx => unb_bit q x (List.mem_of_mem_drop (List.mem_of_mem_take hx)))
        have h2 : 2 ^ (((unb q).drop (j * w)).take w).length ≤ 2 ^ 64 := Nat.pow_le_pow_right (by omega) (by simp; omega)
        exact Nat.lt_of_lt_of_le h1 h2
      have hvs := outF_succ q w j v
      have hos := okF_succ q w j v
      rw [hix, hdd]
      generalize valF q w j = y at *
      have es : IntKind.u64.wrap ((y : Int) + (v : Int)) = (((y + v) % 2 ^ 64 : Nat) : Int) := wrap_u64 (y + v)
      have ec : IntKind.u64.wrap (18446744073709551615 - (v : Int)) = ((2 ^ 64 - 1 - v : Nat) : Int) := by
        rw [show (18446744073709551615 - (v : Int)) = ((2 ^ 64 - 1 - v : Nat) : Int) by omega]; exact wrap_u64_lt (by omega)
      have hd : decide (2 ^ 64 - 1 - v < y) = !decide (y + v < 2 ^ 64) := by
        by_cases h : y + v < 2 ^ 64
        · rw [decide_eq_true h, decide_eq_false (by omega)]; rfl
        · rw [decide_eq_false h, decide_eq_true (by omega)]; rfl
      have h1 : (j + 1) * 8 ≤ room := by omega
      have h2 : j + 1 ≤ room := by omega
      have ei : IntKind.i64.wrap ((j : Int) + 1) = ((j + 1 : Nat) : Int) := wrap_i64_succ (by omega)
      generalize hcv : 2 ^ 64 - 1 - v = cv at *
      generalize hz : (y + v) % 2 ^ 64 = z at *
      generalize decide (y + v < 2 ^ 64) = bb at *
      cases hok : okF q w j v with
      | true =>
        rw [hok, Bool.true_and] at hos
        refine AW.gg ?_ (by simp only [go_sem, ↓reduceIte, hok, Bool.not_true, Bool.not_false, ec, hd, es, hol, u64s_one, h1, h2, ei, ← hvs] <;> rfl)
        refine AW.again hK (j + 1) hlt2 (by omega) (by simp only [go_sem, ↓reduceIte]) (by simp only [go_sem, ↓reduceIte, hos] <;> rfl)
      | false =>
        rw [hok, Bool.false_and] at hos
        refine AW.gg ?_ (by simp only [go_sem, ↓reduceIte, hok, Bool.not_true, Bool.not_false, ec, hd, es, hol, u64s_one, h1, h2, ei, ← hvs] <;> rfl)
        refine AW.again hK (j + 1) hlt2 (by omega) (by simp only [go_sem, ↓reduceIte]) (by simp only [go_sem, ↓reduceIte, hos] <;> rfl)
    have hge : j = n := by simp at hc; omega
    subst hge
    have hul := unb_len q
    refine AW.go ?_
    refine AW.callE (fun _ => 0) (refEnd_fn ((unb q).drop (j * w)) (by rw [List.length_drop]; omega)) (.pv _ .nil) ?_
    have hend : endF q (j * w) = decide (((unb q).drop (j * w)).length < 8 ∧ ∀ x ∈ (unb q).drop (j * w), x = 0) := by
      rw [endF, List.length_drop, hul, ← Bool.decide_and]
    by_cases hE : ((unb q).drop (j * w)).length < 8 ∧ ∀ x ∈ (unb q).drop (j * w), x = 0
    · rw [decide_eq_true hE] at hend
      rw [if_pos hE]
      cases hok : okF q w j v with
      | false =>
        rw [if_pos rfl]
        refine AW.gg ?_ (by simp only [go_sem, ↓reduceIte, hok, Bool.not_true, Bool.not_false] <;> rfl)
        refine AW.condT rfl ?_
        refine AW.go ?_
        refine AW.finE (.move rfl (.pv _ .nil)) rfl
      | true =>
        rw [if_neg (by simp), hend, if_neg (by simp)]
        refine AW.gg ?_ (by simp only [go_sem, ↓reduceIte, hok, Bool.not_true, Bool.not_false] <;> rfl)
        refine AW.condF rfl ?_
        rw [outF_ok hok]
        have hvl := valsF_len q w j v
        have hpb := pack_back (w := w) (n := j) hb hlt hcan (by omega) hend hok
        have hpy : (packF (valsF q w j v)).length ≤ room := by
          have h10 := leb_len10 (lo_lt (by omega) (okF_lt hok))
          have hw2 := wF_le (okF_lt hok)
          have hm : (valsF q w j v).length * wF (valsF q w j v) ≤ 65536 * 64 := Nat.mul_le_mul (by omega) hw2
          unfold packF
          rw [List.length_append, List.length_cons, pk_len, bitsF_len]
          omega
        refine AW.go ?_
        refine AW.callE (fun _ => 0) (refPack_fn (valsF q w j v) (by omega) (okF_lt hok)) (.lend rfl co_42 .nil) ?_
        refine AW.go ?_
        refine AW.callE (fun _ => 0) (ref01Same_fn (packF (valsF q w j v)) l hpy) (.lend rfl co_5 (.pv _ .nil)) ?_
        refine AW.go ?_
        by_cases hq : packF (valsF q w j v) = l
        · rw [decide_eq_true hq, if_pos (hpb.1 hq)]
          refine AW.condF rfl ?_
          refine AW.go ?_
          refine AW.finE (.move rfl (.pv _ .nil)) rfl
        · rw [decide_eq_false hq, if_neg (fun h => hq (hpb.2 h))]
          refine AW.condT rfl ?_
          refine AW.go ?_
          refine AW.finE (.move rfl (.pv _ .nil)) rfl
    · rw [decide_eq_false hE] at hend
      rw [if_neg hE]
      have hfin : (if okF q w j v = false then (([] : List Nat), (3 : Int)) else if endF q (j * w) = false then ([], 3) else if lo (valsF q w j v) = v ∧ wF (valsF q w j v) = w then (valsF q w j v, 0) else ([], 3)) = ([], 3) := by
        rw [hend, if_pos rfl, ite_self]
      rw [hfin]
      refine AW.gg ?_
      refine AW.condT rfl ?_
      refine AW.go ?_
      refine AW.finE (.move rfl (.pv _ .nil)) rfl
end Go.Ck

set_option linter.unusedVariables false
namespace Go.Ck
def cntL : List Nat := [240, 120, 60, 30, 20, 15, 12, 10, 8, 7, 6, 5, 4, 3, 2, 1]
def widL : List Nat := [0, 0, 1, 2, 3, 4, 5, 6, 7, 8, 10, 12, 15, 20, 30, 60]
def cn (s : Nat) : Nat := cntL.getD s 0
def wn (s : Nat) : Nat := widL.getD s 0
theorem cw (s : Nat) (h : s < 16) : 1 ≤ cn s ∧ cn s ≤ 240 ∧ wn s ≤ 60 ∧ cn s * wn s ≤ 60 := by
  have : ∀ i : Fin 16, 1 ≤ cn i.val ∧ cn i.val ≤ 240 ∧ wn i.val ≤ 60 ∧ cn i.val * wn i.val ≤ 60 := by decide
  exact this ⟨s, h⟩
def fitS (l : List Nat) (s : Nat) : Bool := decide (cn s ≤ l.length) && (l.take (cn s)).all fun x => decide (x < 2 ^ wn s)
def fstS (l : List Nat) : Nat := ((List.range 16).find? (fitS l)).getD 15
theorem find_range (p : Nat → Bool) : ∀ (n s : Nat), s < n → (∀ t, t < s → p t = false) → p s = true → (List.range n).find? p = some s := by
  intro n
  induction n with
  | zero => intro s h; omega
  | succ n ih =>
    intro s hs hn hp
    rw [List.range_succ, List.find?_append]
    by_cases h : s < n
    · rw [ih s h hn hp]; rfl
    · have e : s = n := by omega
      subst e
      have : (List.range s).find? p = none := by
        rw [List.find?_eq_none]
        intro x hx
        rw [hn x (by simpa using hx)]; simp
      rw [this]
      simp [hp]
theorem fstS_eq {l : List Nat} {s : Nat} (hs : s < 16) (hn : ∀ t, t < s → fitS l t = false) (hp : fitS l s = true) : fstS l = s := by
  unfold fstS
  rw [find_range (fitS l) 16 s hs hn hp]; rfl
theorem fitS_last {l : List Nat} (h : l ≠ []) (hx : ∀ x ∈ l, x < 2 ^ 60) : fitS l 15 = true := by
  cases l with
  | nil => exact absurd rfl h
  | cons a r =>
    have e1 : cn 15 = 1 := rfl
    have e2 : wn 15 = 60 := rfl
    unfold fitS
    rw [e1, e2]
    simp
    exact hx a (by simp)
theorem fstS_lt (l : List Nat) : fstS l < 16 := by
  unfold fstS
  cases h : (List.range 16).find? (fitS l) with
  | none => simp
  | some s =>
    have := List.mem_of_find?_eq_some h
    simpa using this
theorem fstS_fit {l : List Nat} (h : l ≠ []) (hx : ∀ x ∈ l, x < 2 ^ 60) : fitS l (fstS l) = true := by
  unfold fstS
  cases hf : (List.range 16).find? (fitS l) with
  | none =>
    rw [List.find?_eq_none] at hf
    exact absurd (fitS_last h hx) (hf 15 (by simp))
  | some s => exact List.find?_some hf
/-- Numbers of w bits, the first the greatest. -/
def hornB (w : Nat) (l : List Nat) : Nat := l.foldl (fun a x => a * 2 ^ w + x) 0
theorem hornB_snoc (w : Nat) (l : List Nat) (x : Nat) : hornB w (l ++ [x]) = hornB w l * 2 ^ w + x := by simp [hornB]
theorem hornB_lt {w : Nat} : ∀ {l : List Nat}, (∀ x ∈ l, x < 2 ^ w) → hornB w l < 2 ^ (l.length * w) := by
  intro l
  induction l using snoc_ind with
  | h0 => intro _; simp [hornB]
  | h1 l b ih =>
    intro h
    have h1 := ih (fun x hx => h x (by simp [hx]))
    have h2 := h b (by simp)
    rw [hornB_snoc, List.length_append, List.length_singleton, Nat.add_mul, Nat.one_mul, Nat.pow_add]
    have := Nat.mul_le_mul_right (2 ^ w) (show hornB w l + 1 ≤ 2 ^ (l.length * w) by omega)
    rw [Nat.add_mul, Nat.one_mul] at this
    omega
def wordS (l : List Nat) (s : Nat) : Nat := s * 2 ^ 60 + hornB (wn s) (l.take (cn s)) * 2 ^ (60 - cn s * wn s)
def encS (l : List Nat) : List Nat := if h : l = [] then [] else beB (wordS l (fstS l)) 8 ++ encS (l.drop (cn (fstS l)))
termination_by l.length
decreasing_by
  have := (cw (fstS l) (fstS_lt l)).1
  have : l.length ≠ 0 := fun e => h (List.length_eq_zero_iff.1 e)
  rw [List.length_drop]; omega
theorem encS_nil : encS [] = [] := by rw [encS]; simp
theorem encS_cons {l : List Nat} (h : l ≠ []) : encS l = beB (wordS l (fstS l)) 8 ++ encS (l.drop (cn (fstS l))) := by rw [encS, dif_neg h]
def big60 (l : List Nat) : Bool := l.any fun x => decide (2 ^ 60 ≤ x)
def encSW (l : List Nat) : List Nat × Int := if big60 l = true then ([], 1) else (encS l, 0)
theorem big60_false {l : List Nat} (h : ∀ x ∈ l, x < 2 ^ 60) : big60 l = false := by
  unfold big60
  rw [List.any_eq_false]
  intro x hx
  have := h x hx
  simp; omega
theorem encS_len (n : Nat) : ∀ (l : List Nat), l.length ≤ n → (encS l).length ≤ 8 * l.length := by
  induction n with
  | zero => intro l h; rw [List.length_eq_zero_iff.1 (Nat.le_zero.1 h), encS_nil]; simp
  | succ n ih =>
    intro l h
    by_cases h0 : l = []
    · subst h0; rw [encS_nil]; simp
    · have hc := (cw (fstS l) (fstS_lt l)).1
      have : l.length ≠ 0 := fun e => h0 (List.length_eq_zero_iff.1 e)
      rw [encS_cons h0, List.length_append, beB_len]
      have := ih (l.drop (cn (fstS l))) (by rw [List.length_drop]; omega)
      rw [List.length_drop] at this
      omega
theorem encS_byte (n : Nat) : ∀ (l : List Nat), l.length ≤ n → ∀ x ∈ encS l, x < 256 := by
  induction n with
  | zero => intro l h; rw [List.length_eq_zero_iff.1 (Nat.le_zero.1 h), encS_nil]; simp
  | succ n ih =>
    intro l h
    by_cases h0 : l = []
    · subst h0; rw [encS_nil]; simp
    · have hc := (cw (fstS l) (fstS_lt l)).1
      have : l.length ≠ 0 := fun e => h0 (List.length_eq_zero_iff.1 e)
      rw [encS_cons h0]
      intro x hx
      rcases List.mem_append.1 hx with hx | hx
      · exact beB_byte _ _ x hx
      · exact ih (l.drop (cn (fstS l))) (by rw [List.length_drop]; omega) x hx
theorem wordS_lt {l : List Nat} {s : Nat} (hs : s < 16) (h : fitS l s = true) : hornB (wn s) (l.take (cn s)) * 2 ^ (60 - cn s * wn s) < 2 ^ 60 ∧ wordS l s < 2 ^ 64 := by
  obtain ⟨c1, c2, c3, c4⟩ := cw s hs
  simp only [fitS, Bool.and_eq_true, decide_eq_true_eq, List.all_eq_true] at h
  have h1 := hornB_lt (w := wn s) (l := l.take (cn s)) (fun x hx => h.2 x hx)
  rw [List.length_take, Nat.min_eq_left h.1] at h1
  have h2 := Nat.mul_lt_mul_of_pos_right h1 (Nat.two_pow_pos (60 - cn s * wn s))
  rw [← Nat.pow_add, show cn s * wn s + (60 - cn s * wn s) = 60 by omega] at h2
  refine ⟨h2, ?_⟩
  unfold wordS
  have : s * 2 ^ 60 ≤ 15 * 2 ^ 60 := Nat.mul_le_mul_right _ (by omega)
  omega
/-- Read back. -/
def valsS (word : Nat) (m : Nat) : List Nat := (List.range m).map fun i => word / 2 ^ (60 - (i + 1) * wn (word / 2 ^ 60)) % 2 ^ wn (word / 2 ^ 60)
theorem valsS_len (word m : Nat) : (valsS word m).length = m := by simp [valsS]
theorem valsS_succ (word m : Nat) : valsS word (m + 1) = valsS word m ++ [word / 2 ^ (60 - (m + 1) * wn (word / 2 ^ 60)) % 2 ^ wn (word / 2 ^ 60)] := by simp [valsS, List.range_succ]
def unS (word : Nat) : List Nat := valsS word (cn (word / 2 ^ 60))
theorem unS_lt {word : Nat} (h : word < 2 ^ 64) : ∀ x ∈ unS word, x < 2 ^ 60 := by
  intro x hx
  simp only [unS, valsS, List.mem_map, List.mem_range] at hx
  obtain ⟨i, hi, rfl⟩ := hx
  have hc := (cw (word / 2 ^ 60) (by omega)).2.2.1
  exact Nat.lt_of_lt_of_le (Nat.mod_lt _ (Nat.two_pow_pos _)) (Nat.pow_le_pow_right (by omega) hc)
def rdS (n : Nat) (acc l : List Nat) : List Nat × List Nat × Int :=
  if acc.length < n then (if h : l.length < 8 then ([], [], 2) else rdS n (acc ++ unS (beN (l.take 8))) (l.drop 8)) else (acc, l, 0)
termination_by l.length
decreasing_by rw [List.length_drop]; omega
theorem rdS_end {n : Nat} {acc l : List Nat} (h : ¬ acc.length < n) : rdS n acc l = (acc, l, 0) := by rw [rdS, if_neg h]
theorem rdS_short {n : Nat} {acc l : List Nat} (h : acc.length < n) (h8 : l.length < 8) : rdS n acc l = ([], [], 2) := by rw [rdS, if_pos h, dif_pos h8]
theorem rdS_step {n : Nat} {acc l : List Nat} (h : acc.length < n) (h8 : ¬ l.length < 8) : rdS n acc l = rdS n (acc ++ unS (beN (l.take 8))) (l.drop 8) := by rw [rdS, if_pos h, dif_neg h8]
def decS (l : List Nat) (n : Nat) : List Nat × Int :=
  let r := rdS n [] l
  if r.2.2 ≠ 0 then ([], r.2.2) else if n < r.1.length then ([], 3) else if r.2.1 ≠ [] then ([], 3) else if encS r.1 = l then (r.1, 0) else ([], 3)
end Go.Ck

set_option linter.unusedVariables false
set_option maxRecDepth 10000
set_option maxHeartbeats 1000000
namespace Go.Ck
open Go.Proofs
abbrev roomsV : List PV := [.int .i64 240, .int .i64 0, .int .i64 120, .int .i64 0, .int .i64 60, .int .i64 1, .int .i64 30, .int .i64 2, .int .i64 20, .int .i64 3, .int .i64 15, .int .i64 4, .int .i64 12, .int .i64 5, .int .i64 10, .int .i64 6, .int .i64 8, .int .i64 7, .int .i64 7, .int .i64 8, .int .i64 6, .int .i64 10, .int .i64 5, .int .i64 12, .int .i64 4, .int .i64 15, .int .i64 3, .int .i64 20, .int .i64 2, .int .i64 30, .int .i64 1, .int .i64 60]
theorem rooms_fn : Fn Try.prog 87 [] [] (fun rs H' => rs = [.pv (.agg roomsV)] ∧ H' = []) := by
  refine Fn.of_body (fn := Try.f87) (n := 18) (res := [.cell 0 101]) (by kernel_rfl) rfl rfl rfl rfl rfl (fun C => ?_)
  refine AW.go ?_
  refine AW.finE (.pv _ .nil) rfl
theorem roomsAt (s : Nat) (hs : s < 16) : subP (.agg roomsV) (s * 2) (some (2, true)) = some (.agg [.int .i64 (cn s : Nat), .int .i64 (wn s : Nat)]) := by
  have h : s = 0 ∨ s = 1 ∨ s = 2 ∨ s = 3 ∨ s = 4 ∨ s = 5 ∨ s = 6 ∨ s = 7 ∨ s = 8 ∨ s = 9 ∨ s = 10 ∨ s = 11 ∨ s = 12 ∨ s = 13 ∨ s = 14 ∨ s = 15 := by omega
  rcases h with rfl | rfl | rfl | rfl | rfl | rfl | rfl | rfl | rfl | rfl | rfl | rfl | rfl | rfl | rfl | rfl <;> rfl
theorem room_fn (s : Nat) (hs : s < 16) : Fn Try.prog 68 [] [.pv (.int .i64 s)] (fun rs H' => rs = [.pv (.int .i64 (cn s : Nat)), .pv (.int .i64 (wn s : Nat))] ∧ H' = []) := by
  refine Fn.of_body (fn := Try.f68) (n := 18) (res := [.tmp 2, .tmp 3]) (by kernel_rfl) rfl rfl rfl rfl rfl (fun C => ?_)
  have hg : decide (16 ≤ s) = false := decide_eq_false (by omega)
  have hgi : decide ((16 : Int) ≤ (s : Int)) = false := decide_eq_false (by omega)
  have hgj : decide ((s : Int) ≥ 16) = false := decide_eq_false (by omega)
  refine AW.gg ?_ (by simp only [go_sem, ↓reduceIte, hg, hgi, hgj] <;> rfl)
  refine AW.condF rfl ?_
  refine AW.go ?_
  refine AW.callE (fun _ => 0) rooms_fn .nil ?_
  refine AW.go ?_
  refine AW.indexArr (ho := rfl) (n := s) rfl rfl tk_101 hs tsh_100 (roomsAt s hs) ?_
  refine AW.go ?_
  refine AW.sr mixed (by decide +kernel) ?_
  refine AW.go ?_
  refine AW.finE (.pv _ (.pv _ .nil)) rfl
theorem refRoom_fn (s : Nat) (hs : s < 16) : Fn Try.prog 72 [] [.pv (.int .i64 s)] (fun rs H' => rs = [.pv (.int .i64 (cn s : Nat)), .pv (.int .i64 (wn s : Nat))] ∧ H' = []) := by
  refine Fn.of_body (fn := Try.f72) (n := 22) (res := [.tmp 2, .tmp 3]) (by kernel_rfl) rfl rfl rfl rfl rfl (fun C => ?_)
  have hg : decide (15 < s) = false := decide_eq_false (by omega)
  have hgj : decide ((s : Int) > 15) = false := decide_eq_false (by omega)
  have h16 : decide (s < 16) = true := decide_eq_true hs
  have h1 : (nis cntL)[s]? = some (.int .i64 (cn s : Nat)) := by
    have h : cntL[s]? = some (cn s) := by unfold cn; rw [List.getD_eq_getElem?_getD, List.getElem?_eq_getElem (show s < cntL.length from hs)]; rfl
    rw [nis, List.getElem?_map, h]; rfl
  have h2 : (nis widL)[s]? = some (.int .i64 (wn s : Nat)) := by
    have h : widL[s]? = some (wn s) := by unfold wn; rw [List.getD_eq_getElem?_getD, List.getElem?_eq_getElem (show s < widL.length from hs)]; rfl
    rw [nis, List.getElem?_map, h]; rfl
  have hl1 : (nis cntL).length = 16 := rfl
  have hl2 : (nis widL).length = 16 := rfl
  have f1 : [PV.int .i64 240, .int .i64 120, .int .i64 60, .int .i64 30, .int .i64 20, .int .i64 15, .int .i64 12, .int .i64 10, .int .i64 8, .int .i64 7, .int .i64 6, .int .i64 5, .int .i64 4, .int .i64 3, .int .i64 2, .int .i64 1] = nis cntL := rfl
  have f2 : [PV.int .i64 0, .int .i64 0, .int .i64 1, .int .i64 2, .int .i64 3, .int .i64 4, .int .i64 5, .int .i64 6, .int .i64 7, .int .i64 8, .int .i64 10, .int .i64 12, .int .i64 15, .int .i64 20, .int .i64 30, .int .i64 60] = nis widL := rfl
  generalize hq1 : nis cntL = q1 at *
  generalize hq2 : nis widL = q2 at *
  have r16 : 16 ≤ room := by decide
  refine AW.gg ?_ (by simp only [go_sem, ↓reduceIte, hg, hgj, f1, f2] <;> rfl)
  refine AW.condF rfl ?_
  refine AW.go ?_
  refine AW.sr mixed (by decide +kernel) ?_ (by simp only [go_sem, ↓reduceIte, h1, h2, h16, hl1, hl2, hs] <;> rfl)
  refine AW.go ?_
  refine AW.finE (.pv _ (.pv _ .nil)) rfl
end Go.Ck

set_option linter.unusedVariables false
namespace Go.Ck
theorem or_add {a b w : Nat} (hb : b < 2 ^ w) (h : a * 2 ^ w + b < 2 ^ 64) : ibits .or .u64 ((a * 2 ^ w : Nat) : Int) (b : Int) = ((a * 2 ^ w + b : Nat) : Int) := by
  rw [ibits_or64 (by omega) (by omega)]
  have := Nat.two_pow_add_eq_or_of_lt hb a
  rw [Nat.mul_comm (2 ^ w) a] at this
  rw [this]
theorem shl_add {a w : Nat} (hw : w ≤ 64) (h : a * 2 ^ w < 2 ^ 64) : shlI .u64 (a : Int) (w : Int) = ((a * 2 ^ w : Nat) : Int) := by
  rw [shlI_nat64 a w hw, Nat.mod_eq_of_lt h]
theorem fitS_all {l : List Nat} {s : Nat} (h1 : cn s ≤ l.length) (h2 : ∀ x ∈ l.take (cn s), x < 2 ^ wn s) : fitS l s = true := by
  simp only [fitS, Bool.and_eq_true, decide_eq_true_eq, List.all_eq_true]
  exact ⟨h1, h2⟩
theorem fitS_short {l : List Nat} {s : Nat} (h : ¬ cn s ≤ l.length) : fitS l s = false := by
  simp [fitS, h]
theorem fitS_big {l : List Nat} {s : Nat} {x : Nat} (h1 : x ∈ l.take (cn s)) (h2 : ¬ x < 2 ^ wn s) : fitS l s = false := by
  rw [Bool.eq_false_iff]
  intro h
  simp only [fitS, Bool.and_eq_true, decide_eq_true_eq, List.all_eq_true] at h
  exact h2 (h.2 x h1)
theorem fitS_len {l : List Nat} {s : Nat} (h : fitS l s = true) : cn s ≤ l.length ∧ ∀ x ∈ l.take (cn s), x < 2 ^ wn s := by
  simpa only [fitS, Bool.and_eq_true, decide_eq_true_eq, List.all_eq_true] using h
theorem div_zero_iff {x w : Nat} : x / 2 ^ w = 0 ↔ x < 2 ^ w := by
  rw [Nat.div_eq_zero_iff]
  have := Nat.two_pow_pos w
  omega
theorem hornB_lt2 {w m : Nat} {l : List Nat} (h : ∀ x ∈ l, x < 2 ^ w) (hm : l.length * w ≤ m) : hornB w l < 2 ^ m := Nat.lt_of_lt_of_le (hornB_lt h) (Nat.pow_le_pow_right (by omega) hm)
end Go.Ck
namespace Go.Ck
/-- A word, built from the top. -/
def topB (c w s : Nat) (q : List Nat) (i : Nat) : Nat := s * 2 ^ 60 + hornB w (q.take i) * 2 ^ (60 - i * w)
theorem topB_step {w s i : Nat} {q : List Nat} (h : i < q.length) (hi : (i + 1) * w ≤ 60) : topB 0 w s q (i + 1) = topB 0 w s q i + q[i] * 2 ^ (60 - (i + 1) * w) := by
  unfold topB
  have hti : q.take (i + 1) = q.take i ++ [q[i]] := by simp
  rw [hti, hornB_snoc, Nat.add_mul, Nat.add_assoc, Nat.mul_assoc, ← Nat.pow_add]
  rw [show w + (60 - (i + 1) * w) = 60 - i * w by rw [Nat.succ_mul] at hi ⊢; omega]
theorem topB_or {w s i : Nat} {q : List Nat} (h : i < q.length) (hi : (i + 1) * w ≤ 60) (hs : s < 16) (hx : ∀ x ∈ q, x < 2 ^ w) :
    ibits .or .u64 ((topB 0 w s q i : Nat) : Int) ((q[i] * 2 ^ (60 - (i + 1) * w) : Nat) : Int) = ((topB 0 w s q (i + 1) : Nat) : Int) ∧ q[i] * 2 ^ (60 - (i + 1) * w) < 2 ^ 64 := by
  have hxx := hx _ (List.getElem_mem h)
  have h1 := Nat.mul_lt_mul_of_pos_right hxx (Nat.two_pow_pos (60 - (i + 1) * w))
  have hw : w + (60 - (i + 1) * w) = 60 - i * w := by rw [Nat.succ_mul] at hi ⊢; omega
  rw [← Nat.pow_add, hw] at h1
  have h60 : 2 ^ (60 - i * w) ≤ 2 ^ 60 := Nat.pow_le_pow_right (by omega) (by omega)
  have e : topB 0 w s q i = (s * 2 ^ (i * w) + hornB w (q.take i)) * 2 ^ (60 - i * w) := by
    unfold topB
    rw [Nat.add_mul, Nat.mul_assoc s, ← Nat.pow_add, show i * w + (60 - i * w) = 60 by rw [Nat.succ_mul] at hi; omega]
  have hhl : hornB w (q.take i) < 2 ^ (i * w) := by
    have := hornB_lt (w := w) (l := q.take i) (fun x hx' => hx x (List.mem_of_mem_take hx'))
    rwa [List.length_take, Nat.min_eq_left (by omega)] at this
  have h2 := Nat.mul_le_mul_right (2 ^ (60 - i * w)) (show hornB w (q.take i) + 1 ≤ 2 ^ (i * w) by omega)
  rw [← Nat.pow_add, show i * w + (60 - i * w) = 60 by rw [Nat.succ_mul] at hi; omega, Nat.add_mul, Nat.one_mul] at h2
  have hs2 : s * 2 ^ 60 ≤ 15 * 2 ^ 60 := Nat.mul_le_mul_right _ (by omega)
  have ht : topB 0 w s q i = s * 2 ^ 60 + hornB w (q.take i) * 2 ^ (60 - i * w) := rfl
  refine ⟨?_, by omega⟩
  rw [topB_step h hi, e]
  rw [e] at ht
  exact or_add h1 (by omega)
theorem topB_zero (w s : Nat) (q : List Nat) : topB 0 w s q 0 = s * 2 ^ 60 := by simp [topB, hornB]
theorem blen_gt {x w : Nat} : decide (w < blen x) = !decide (x < 2 ^ w) := by
  have := blen_le (v := x) (n := w)
  by_cases h : x < 2 ^ w
  · rw [decide_eq_true h, decide_eq_false (by have := this.2 h; omega)]; rfl
  · rw [decide_eq_false h, decide_eq_true (by have := mt this.1 h; omega)]; rfl
end Go.Ck
namespace Go.Ck
theorem mask_low {a w : Nat} (ha : a < 2 ^ 64) (hw : w ≤ 60) : shlI .u64 1 (w : Int) = ((2 ^ w : Nat) : Int) ∧ IntKind.u64.wrap (((2 ^ w : Nat) : Int) - 1) = ((2 ^ w - 1 : Nat) : Int) ∧ ibits .and .u64 (a : Int) ((2 ^ w - 1 : Nat) : Int) = ((a % 2 ^ w : Nat) : Int) := by
  have h1 : 2 ^ w ≤ 2 ^ 60 := Nat.pow_le_pow_right (by omega) hw
  have h0 := Nat.two_pow_pos w
  refine ⟨?_, ?_, ?_⟩
  · have := shl_add (a := 1) (w := w) (by omega) (by omega)
    rw [Nat.one_mul] at this
    exact this
  · rw [show ((2 ^ w : Nat) : Int) - 1 = ((2 ^ w - 1 : Nat) : Int) by omega]; exact wrap_u64_lt (by omega)
  · rw [ibits_and64 ha (by omega), Nat.and_two_pow_sub_one_eq_mod]
theorem rdS_inv (n : Nat) : ∀ (k : Nat) (acc l : List Nat), l.length ≤ k → (∀ x ∈ acc, x < 2 ^ 60) → (∀ x ∈ l, x < 256) → ∀ x ∈ (rdS n acc l).1, x < 2 ^ 60 := by
  intro k
  induction k with
  | zero =>
    intro acc l hk ha hl
    by_cases h : acc.length < n
    · rw [rdS_short h (by omega)]; simp
    · rw [rdS_end h]; exact ha
  | succ k ih =>
    intro acc l hk ha hl
    by_cases h : acc.length < n
    · by_cases h8 : l.length < 8
      · rw [rdS_short h h8]; simp
      · rw [rdS_step h h8]
        refine ih _ _ (by rw [List.length_drop]; omega) ?_ (fun x hx => hl x (List.mem_of_mem_drop hx))
        intro x hx
        rcases List.mem_append.1 hx with hx | hx
        · exact ha x hx
        · exact unS_lt (be8_lt l hl) x hx
    · rw [rdS_end h]; exact ha
end Go.Ck
namespace Go.Ck
theorem top4 {v w m : Nat} (h1 : w ≤ m) (h2 : m ≤ 60) : v * 2 ^ 4 % 2 ^ 64 / 2 ^ (64 - m) % 2 ^ w = v / 2 ^ (60 - m) % 2 ^ w := by
  have e1 : v * 2 ^ 4 % 2 ^ 64 = v % 2 ^ 60 * 2 ^ 4 := by omega
  have e2 : 2 ^ (64 - m) = 2 ^ 4 * 2 ^ (60 - m) := by rw [← Nat.pow_add]; congr 1; omega
  rw [e1, e2, ← Nat.div_div_eq_div_mul, Nat.mul_div_cancel _ (by omega)]
  have e3 : 2 ^ 60 = 2 ^ (60 - m) * 2 ^ m := by rw [← Nat.pow_add]; congr 1; omega
  rw [e3, Nat.mod_mul_right_div_self]
  exact Nat.mod_mod_of_dvd _ (Nat.pow_dvd_pow 2 h1)
end Go.Ck

set_option linter.unusedVariables false
set_option maxRecDepth 10000
set_option maxHeartbeats 1000000
namespace Go.Ck
open Go.Proofs
theorem fits60_fn (l : List Nat) (s : Nat) (hs : s < 16) (hl : l.length ≤ 65536) (hx : ∀ x ∈ l, x < 2 ^ 64) : Fn Try.prog 66 [] [.pv (.sl 1 (u64s l)), .pv (.int .i64 s)] (fun rs H' => rs = [.pv (.bool (fitS l s))] ∧ H' = []) := by
  refine Fn.of_body (fn := Try.f66) (n := 31) (res := [.tmp 4]) (by kernel_rfl) rfl rfl rfl rfl rfl (fun C => ?_)
  have hr : room = 140737488355328 := rfl
  obtain ⟨c1, c2, c3, c4⟩ := cw s hs
  refine AW.go ?_
  refine AW.callE (fun _ => 0) (room_fn s hs) (.pv _ .nil) ?_
  have hbig : ∀ x, x ∈ l.take (cn s) → ¬ x < 2 ^ wn s → fitS l s = false := fun x => fitS_big
  have hall := fitS_all (l := l) (s := s)
  have hsh := fitS_short (l := l) (s := s)
  generalize fitS l s = bb at *
  generalize cn s = c at *
  generalize wn s = w at *
  refine AW.go ?_
  refine AW.cond rfl (fun hc => ?_) (fun hc => ?_)
  · have h : ¬ c ≤ l.length := by simp at hc; omega
    rw [hsh h]
    refine AW.go ?_
    refine AW.finE (.pv _ .nil) rfl
  have h : c ≤ l.length := by simp at hc; omega
  have htl : (l.take c).length = c := by simp; omega
  refine AW.go ?_ (by simp only [go_sem, ↓reduceIte, h] <;> rfl)
  refine AW.loopS (fun i : Nat => ⟨31, [(22, .pv (.int .i64 i)), (21, .pv (.int .i64 c)), (20, .pv (.sl 1 (u64s (l.take c)))), (6, .pv (.int .i64 w))], []⟩) (fun i => i ≤ c ∧ ∀ x ∈ (l.take c).take i, x < 2 ^ w) (fun i => c - i) [22, 21, 20, 6] [] 0 ⟨Nat.zero_le _, by simp⟩ ?_ (by simp only [go_sem, ↓reduceIte]) (by simp only [go_sem, ↓reduceIte, htl] <;> rfl)
  have hm : ∀ x ∈ l.take c, x < 2 ^ 64 := fun x h => hx x (List.mem_of_mem_take h)
  generalize l.take c = q at *
  rintro i ⟨hi, hz⟩ K hK
  refine AW.go ?_
  refine AW.cond rfl (fun hc2 => ?_) (fun hc2 => ?_)
  · have hlt : i < q.length := by simp at hc2; omega
    have hget := u64s_get hlt
    have hti : q.take (i + 1) = q.take i ++ [q[i]] := by simp
    have hmem := List.getElem_mem hlt
    have hxx := hm _ hmem
    generalize q[i] = x at *
    have es : shrI .u64 (x : Int) (w : Int) = ((x / 2 ^ w : Nat) : Int) := shrI_nat .u64 x w (by show w ≤ 64; omega)
    have ei : IntKind.i64.wrap ((i : Int) + 1) = ((i + 1 : Nat) : Int) := wrap_i64_succ (by omega)
    have hz0 := div_zero_iff (x := x) (w := w)
    generalize x / 2 ^ w = y at *
    refine AW.go ?_ (by simp only [go_sem, ↓reduceIte, hget, es] <;> rfl)
    refine AW.cond rfl (fun hc3 => ?_) (fun hc3 => ?_)
    · have hy : ¬ x < 2 ^ w := fun h => by have := hz0.2 h; subst this; simp at hc3
      rw [hbig _ hmem hy]
      refine AW.go ?_
      refine AW.finE (.pv _ .nil) rfl
    · have hy : x < 2 ^ w := hz0.1 (by simpa using hc3)
      refine AW.go ?_ (by simp only [go_sem, ↓reduceIte, ei] <;> rfl)
      refine AW.again hK (i + 1) ⟨by omega, ?_⟩ (by omega)
      rw [hti]
      intro z hz'
      rcases List.mem_append.1 hz' with h | h
      · exact hz z h
      · rw [List.mem_singleton.1 h]; exact hy
  · have hge : i = q.length := by simp at hc2; omega
    rw [List.take_of_length_le (by omega)] at hz
    rw [hall h hz]
    refine AW.go ?_
    refine AW.finE (.pv _ .nil) rfl

theorem pack60_fn (l : List Nat) (s : Nat) (hs : s < 16) (hl : l.length ≤ 65536) (hf : fitS l s = true) : Fn Try.prog 67 [] [.pv (.sl 1 (u64s l)), .pv (.int .i64 s)] (fun rs H' => rs = [.pv (.int .u64 (wordS l s : Nat))] ∧ H' = []) := by
  refine Fn.of_body (fn := Try.f67) (n := 39) (res := [.tmp 4]) (by kernel_rfl) rfl rfl rfl rfl rfl (fun C => ?_)
  have hr : room = 140737488355328 := rfl
  obtain ⟨c1, c2, c3, c4⟩ := cw s hs
  have hwl := wordS_lt hs hf
  unfold wordS at hwl ⊢
  obtain ⟨h, hfit⟩ := fitS_len hf
  refine AW.go ?_
  refine AW.callE (fun _ => 0) (room_fn s hs) (.pv _ .nil) ?_
  generalize cn s = c at *
  generalize wn s = w at *
  have htl : (l.take c).length = c := by simp; omega
  refine AW.go ?_ (by simp only [go_sem, ↓reduceIte, h] <;> rfl)
  refine AW.loopS (fun i : Nat => ⟨39, [(19, .pv (.int .i64 i)), (18, .pv (.int .i64 c)), (17, .pv (.sl 1 (u64s (l.take c)))), (7, .pv (.int .u64 (hornB w ((l.take c).take i) : Nat))), (6, .pv (.int .i64 w)), (5, .pv (.int .i64 c)), (1, .pv (.int .i64 s))], []⟩) (fun i => i ≤ c) (fun i => c - i) [19, 18, 17, 7, 6, 5, 1] [] 0 (Nat.zero_le _) ?_ (by simp only [go_sem, ↓reduceIte]) (by simp only [go_sem, ↓reduceIte, htl] <;> rfl)
  generalize l.take c = q at *
  rintro i hi K hK
  refine AW.go ?_
  refine AW.cond rfl (fun hc2 => ?_) (fun hc2 => ?_)
  · have hlt : i < q.length := by simp at hc2; omega
    have hget := u64s_get hlt
    have hti : q.take (i + 1) = q.take i ++ [q[i]] := by simp
    have hxx := hfit _ (List.getElem_mem hlt)
    generalize q[i] = x at *
    have hm : (i + 1) * w ≤ c * w := Nat.mul_le_mul_right _ (by omega)
    have hhl := hornB_lt2 (w := w) (m := i * w) (l := q.take i) (fun x hx => hfit x (List.mem_of_mem_take hx)) (Nat.mul_le_mul_right _ (by simp; omega))
    have hhs := hornB_snoc w (q.take i) x
    rw [← hti] at hhs
    have hh1 := hornB_lt2 (w := w) (m := 60) (l := q.take (i + 1)) (fun x hx => hfit x (List.mem_of_mem_take hx)) (Nat.le_trans (Nat.mul_le_mul_right _ (by simp; omega)) c4)
    rw [hhs] at hh1
    generalize hornB w (q.take i) = a at *
    have es := shl_add (a := a) (w := w) (by omega) (by omega)
    have eo := or_add (a := a) (b := x) (w := w) hxx (by omega)
    have ei : IntKind.i64.wrap ((i : Int) + 1) = ((i + 1 : Nat) : Int) := wrap_i64_succ (by omega)
    refine AW.go ?_ (by simp only [go_sem, ↓reduceIte, hget, es, eo, ei] <;> rfl)
    refine AW.again hK (i + 1) (by omega) (by omega) (by simp only [go_sem, ↓reduceIte]) (by simp only [go_sem, ↓reduceIte, hhs] <;> rfl)
  · have hge : i = q.length := by simp at hc2; omega
    rw [List.take_of_length_le (by omega)]
    clear hK
    generalize hornB w q = a at *
    have e1 : IntKind.u64.wrap (s : Int) = (s : Int) := wrap_u64_lt (by omega)
    have e2 : shlI .u64 (s : Int) 60 = ((s * 2 ^ 60 : Nat) : Int) := shl_add (a := s) (w := 60) (by omega) (by omega)
    have em : IntKind.i64.wrap ((c * w : Nat) : Int) = ((c * w : Nat) : Int) := wrap_i64_nat (by omega)
    have e6 : IntKind.i64.wrap (60 - ((c * w : Nat) : Int)) = ((60 - c * w : Nat) : Int) := by rw [wrap_i64_of (by omega) (by omega)]; omega
    have e7 := shl_add (a := a) (w := 60 - c * w) (by omega) (by omega)
    have eo := or_add (a := s) (b := a * 2 ^ (60 - c * w)) (w := 60) hwl.1 (by omega)
    generalize a * 2 ^ (60 - c * w) = z at *
    generalize hcw : c * w = m at *
    refine AW.go ?_ (by simp only [go_sem, ↓reduceIte, e1, e2, hcw, em, e6, e7, eo] <;> rfl)
    refine AW.finE (.pv _ .nil) rfl
end Go.Ck

set_option linter.unusedVariables false
set_option maxRecDepth 10000
set_option maxHeartbeats 1000000
namespace Go.Ck
open Go.Proofs
theorem simpleEnc_fn (xs : List Nat) (hl : xs.length ≤ 65536) (hx : ∀ x ∈ xs, x < 2 ^ 64) : Fn Try.prog 45 [] [.pv (.sl 1 (u64s xs))]
    (fun rs H' => rs = [.own 5 (bytes (encSW xs).1), .pv (.int .i64 (encSW xs).2)] ∧ H' = []) := by
  refine Fn.of_body (fn := Try.f45) (n := 47) (res := [.tmp 2, .tmp 3]) (by kernel_rfl) rfl rfl rfl rfl rfl (fun C => ?_)
  have hr : room = 140737488355328 := rfl
  have hgt : decide (65536 < xs.length) = false := decide_eq_false (by omega)
  have hgi : decide ((xs.length : Int) > 65536) = false := decide_eq_false (by omega)
  refine AW.go ?_ (by simp only [go_sem, ↓reduceIte, hgt, hgi] <;> rfl)
  refine AW.condF rfl ?_
  refine AW.go ?_
  refine AW.loopS (fun i : Nat => ⟨47, [(15, .pv (.int .i64 i)), (14, .pv (.int .i64 xs.length)), (13, .pv (.sl 1 (u64s xs))), (0, .pv (.sl 1 (u64s xs)))], []⟩) (fun i => i ≤ xs.length ∧ ∀ x ∈ xs.take i, x < 2 ^ 60) (fun i => xs.length - i) [15, 14, 13, 0] [] 0 ⟨Nat.zero_le _, by simp⟩ ?_
  rintro i ⟨hi, hz⟩ K hK
  refine AW.go ?_
  refine AW.cond rfl (fun hc => ?_) (fun hc => ?_)
  · have hlt : i < xs.length := by simpa using hc
    have hget := u64s_get hlt
    have hti : xs.take (i + 1) = xs.take i ++ [xs[i]] := by simp
    have hmem := List.getElem_mem hlt
    have hxx := hx _ hmem
    generalize xs[i] = x at *
    have es : shrI .u64 (x : Int) 60 = ((x / 2 ^ 60 : Nat) : Int) := shrI_nat .u64 x 60 (by show 60 ≤ 64; omega)
    have ei : IntKind.i64.wrap ((i : Int) + 1) = ((i + 1 : Nat) : Int) := wrap_i64_succ (by omega)
    have hz0 := div_zero_iff (x := x) (w := 60)
    generalize x / 2 ^ 60 = y at *
    refine AW.go ?_ (by simp only [go_sem, ↓reduceIte, hget, es] <;> rfl)
    refine AW.cond rfl (fun hc3 => ?_) (fun hc3 => ?_)
    · have hy : ¬ x < 2 ^ 60 := fun h => by have := hz0.2 h; subst this; simp at hc3
      have hbig : big60 xs = true := by unfold big60; rw [List.any_eq_true]; exact ⟨x, hmem, by simp; omega⟩
      unfold encSW
      rw [if_pos hbig]
      refine AW.go ?_
      refine AW.finE (.move rfl (.pv _ .nil)) rfl
    · have hy : x < 2 ^ 60 := hz0.1 (by simpa using hc3)
      refine AW.go ?_ (by simp only [go_sem, ↓reduceIte, ei] <;> rfl)
      refine AW.again hK (i + 1) ⟨by omega, ?_⟩ (by omega)
      rw [hti]
      intro z hz'
      rcases List.mem_append.1 hz' with h | h
      · exact hz z h
      · rw [List.mem_singleton.1 h]; exact hy
  have hge : ¬ i < xs.length := by simpa using hc
  rw [List.take_of_length_le (by omega)] at hz
  clear hK hc
  unfold encSW
  rw [if_neg (by rw [big60_false hz]; exact Bool.noConfusion)]
  have hel := encS_len xs.length xs (Nat.le_refl _)
  refine AW.go ?_
  refine AW.loopS (fun a : List Nat × List Nat => ⟨47, [(6, .own 5 (bytes a.1)), (0, .pv (.sl 1 (u64s a.2)))], []⟩) (fun a => a.1 ++ encS a.2 = encS xs ∧ a.2.length ≤ xs.length ∧ ∀ x ∈ a.2, x < 2 ^ 60) (fun a => a.2.length) [6, 0] [] ([], xs) ⟨by simp, Nat.le_refl _, hz⟩ ?_
  rintro ⟨out, q⟩ ⟨he, hql, hq⟩ K hK
  simp only at he hql hq
  refine AW.go ?_
  refine AW.cond rfl (fun hc => ?_) (fun hc => ?_)
  · have hne : q ≠ [] := by rintro rfl; simp at hc
    have hqn : q.length ≠ 0 := fun e => hne (List.length_eq_zero_iff.1 e)
    have hq64 : ∀ x ∈ q, x < 2 ^ 64 := fun x h => Nat.lt_trans (hq x h) (by omega)
    have holn : out.length + (encS q).length = (encS xs).length := by rw [← he]; simp
    have hlast := fitS_last hne hq
    have hfin : ∀ s, s < 16 → (∀ t, t < s → fitS q t = false) → fitS q s = true → out ++ beB (wordS q s) 8 ++ encS (q.drop (cn s)) = encS xs ∧ (out ++ beB (wordS q s) 8).length ≤ 2 ^ 30 := by
      intro s hs hno hf
      have hp := fstS_eq hs hno hf
      have h1 := encS_cons hne
      rw [hp] at h1
      refine ⟨by rw [List.append_assoc, ← h1, he], ?_⟩
      have := congrArg List.length h1
      rw [List.length_append] at this
      rw [List.length_append]
      omega
    refine AW.go ?_
    refine AW.scopeS 0 (fun s : Nat => ⟨47, [(7, .pv (.int .i64 s)), (6, .own 5 (bytes out)), (0, .pv (.sl 1 (u64s q)))], []⟩) (fun s => s < 16 ∧ ∀ t, t < s → fitS q t = false) (fun s => 16 - s) [7, 6, 0] [] rfl ?_ ?_
    · intro K2 hK2
      refine AW.go ?_
      refine AW.callE (fun _ => 0) (fits60_fn q 0 (by omega) (by omega) hq64) (.pv _ (.pv _ .nil)) ?_
      refine AW.go ?_
      refine AW.cond rfl (fun hc2 => ?_) (fun hc2 => ?_)
      · have hf : fitS q 0 = false := by simpa using hc2
        refine AW.go ?_
        refine AW.leap0 hK2 1 ⟨by omega, fun t ht => by rw [show t = 0 by omega]; exact hf⟩
      · have hf : fitS q 0 = true := by simpa using hc2
        obtain ⟨hen, hln⟩ := hfin 0 (by omega) (fun t ht => by omega) hf
        obtain ⟨c1, c2, c3, c4⟩ := cw 0 (by omega)
        have hcl := (fitS_len hf).1
        have hwl := (wordS_lt (by omega) hf).2
        refine AW.go ?_
        refine AW.callE (fun _ => 0) (pack60_fn q 0 (by omega) (by omega) hf) (.pv _ (.pv _ .nil)) ?_
        refine AW.go ?_
        refine AW.callE (fun _ => 0) (fix_fn (wordS q 0) 8 hwl (by omega)) (.pv _ (.pv _ .nil)) ?_
        have h2 : out.length + (beB (wordS q 0) 8).length ≤ room := by rw [← List.length_append]; omega
        refine AW.go ?_ (by simp only [go_sem, ↓reduceIte, h2] <;> rfl)
        refine AW.callE (fun _ => 0) (room_fn 0 (by omega)) (.pv _ .nil) ?_
        have e : (((q.length : Int) - (cn 0 : Nat)).toNat) = q.length - cn 0 := by omega
        have e2 : (u64s (q.drop (cn 0))).take (q.length - cn 0) = u64s (q.drop (cn 0)) := List.take_of_length_le (by simp [u64s])
        generalize cn 0 = c at *
        refine AW.go ?_ (by simp only [go_sem, ↓reduceIte, hcl, e]; rw [← u64s_take, e2] <;> rfl)
        refine AW.again hK (out ++ beB (wordS q 0) 8, q.drop c) ⟨hen, by simp only [List.length_drop]; omega, fun x hx' => hq x (List.mem_of_mem_drop hx')⟩ (by simp only [List.length_drop]; omega)
    · rintro s ⟨hs, hno⟩ K2 hK2
      refine AW.go ?_
      refine AW.callE (fun _ => 0) (fits60_fn q s hs (by omega) hq64) (.pv _ (.pv _ .nil)) ?_
      refine AW.go ?_
      refine AW.cond rfl (fun hc2 => ?_) (fun hc2 => ?_)
      · have hf : fitS q s = false := by simpa using hc2
        have hs15 : s ≠ 15 := by rintro rfl; rw [hlast] at hf; cases hf
        have ei : IntKind.i64.wrap ((s : Int) + 1) = ((s + 1 : Nat) : Int) := wrap_i64_succ (by omega)
        refine AW.go ?_ (by simp only [go_sem, ↓reduceIte, ei] <;> rfl)
        refine AW.leap hK2 (s + 1) ⟨by omega, fun t ht => ?_⟩ (by omega)
        rcases Nat.lt_or_ge t s with h | h
        · exact hno t h
        · rw [show t = s by omega]; exact hf
      · have hf : fitS q s = true := by simpa using hc2
        obtain ⟨hen, hln⟩ := hfin s hs hno hf
        obtain ⟨c1, c2, c3, c4⟩ := cw s hs
        have hcl := (fitS_len hf).1
        have hwl := (wordS_lt hs hf).2
        refine AW.go ?_
        refine AW.callE (fun _ => 0) (pack60_fn q s hs (by omega) hf) (.pv _ (.pv _ .nil)) ?_
        refine AW.go ?_
        refine AW.callE (fun _ => 0) (fix_fn (wordS q s) 8 hwl (by omega)) (.pv _ (.pv _ .nil)) ?_
        have h2 : out.length + (beB (wordS q s) 8).length ≤ room := by rw [← List.length_append]; omega
        refine AW.go ?_ (by simp only [go_sem, ↓reduceIte, h2] <;> rfl)
        refine AW.callE (fun _ => 0) (room_fn s hs) (.pv _ .nil) ?_
        have e : (((q.length : Int) - (cn s : Nat)).toNat) = q.length - cn s := by omega
        have e2 : (u64s (q.drop (cn s))).take (q.length - cn s) = u64s (q.drop (cn s)) := List.take_of_length_le (by simp [u64s])
        generalize cn s = c at *
        refine AW.go ?_ (by simp only [go_sem, ↓reduceIte, hcl, e]; rw [← u64s_take, e2] <;> rfl)
        refine AW.again hK (out ++ beB (wordS q s) 8, q.drop c) ⟨hen, by simp only [List.length_drop]; omega, fun x hx' => hq x (List.mem_of_mem_drop hx')⟩ (by simp only [List.length_drop]; omega)
  · have hqe : q = [] := by
      cases q with
      | nil => rfl
      | cons a r => simp at hc
    subst hqe
    rw [encS_nil, List.append_nil] at he
    rw [he]
    refine AW.go ?_
    refine AW.finE (.move rfl (.pv _ .nil)) rfl
end Go.Ck
