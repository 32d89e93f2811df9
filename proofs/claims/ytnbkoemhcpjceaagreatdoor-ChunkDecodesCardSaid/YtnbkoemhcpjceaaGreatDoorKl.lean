/- What is proved here: parts of the proofs of this seat's statements (a verified evaluator for calls over pure values, its laws, and contracts of functions). No condition. -/
import Derived.Test.YtnbkoemhcpjceaaGreatDoorKk
set_option linter.all false
set_option linter.unusedVariables false
namespace Go.Ck
def dic (r : List Nat) (u : Nat) : List Nat := (List.range u).map fun i => beN ((r.drop (8 * i)).take 8)
theorem dic_len (r : List Nat) (u : Nat) : (dic r u).length = u := by simp [dic]
theorem dic_succ (r : List Nat) (u : Nat) : dic r (u + 1) = dic r u ++ [beN ((r.drop (8 * u)).take 8)] := by simp [dic, List.range_succ]
theorem be8_lt (l : List Nat) (h : ∀ x ∈ l, x < 256) : beN (l.take 8) < 2 ^ 64 := by
  have := beN_lt (l.take 8) (fun x hx => h x (List.mem_of_mem_take hx))
  have h2 : 256 ^ (l.take 8).length ≤ 256 ^ 8 := Nat.pow_le_pow_right (by omega) (by simp; omega)
  omega
theorem dic_lt (r : List Nat) (u : Nat) (h : ∀ x ∈ r, x < 256) : ∀ y ∈ dic r u, y < 2 ^ 64 := by
  intro y hy
  simp only [dic, List.mem_map, List.mem_range] at hy
  obtain ⟨i, _, rfl⟩ := hy
  exact be8_lt _ (fun x hx => h x (List.mem_of_mem_drop hx))
/-- The place that is written i-th. -/
def ixs (r : List Nat) (u i : Nat) : Nat := getB (unb (r.drop (8 * u))) (i * wd u) (wd u)
def pats (r : List Nat) (u n : Nat) : List Nat := (List.range n).map fun i => (dic r u).getD (ixs r u i) 0
theorem pats_len (r : List Nat) (u n : Nat) : (pats r u n).length = n := by simp [pats]
theorem pats_succ (r : List Nat) (u n : Nat) : pats r u (n + 1) = pats r u n ++ [(dic r u).getD (ixs r u n) 0] := by simp [pats, List.range_succ]
theorem pats_lt (r : List Nat) (u n : Nat) (h : ∀ x ∈ r, x < 256) : ∀ y ∈ pats r u n, y < 2 ^ 64 := by
  intro y hy
  simp only [pats, List.mem_map, List.mem_range] at hy
  obtain ⟨i, _, rfl⟩ := hy
  rw [List.getD_eq_getElem?_getD]
  cases hg : (dic r u)[ixs r u i]? with
  | none => simp
  | some z => exact dic_lt r u h z (List.mem_of_getElem? hg)
def fit10 (r : List Nat) (u n : Nat) : Bool := (List.range n).all fun i => decide (ixs r u i < u)
theorem fit10_succ (r : List Nat) (u n : Nat) : fit10 r u (n + 1) = (fit10 r u n && decide (ixs r u n < u)) := by simp [fit10, List.range_succ]
theorem fit10_false {r : List Nat} {u n i : Nat} (hi : i < n) (h : ¬ ixs r u i < u) : fit10 r u n = false := by
  rw [fit10, List.all_eq_false]
  exact ⟨i, by simpa using hi, by simpa using h⟩
def dec10b (l r : List Nat) (u n : Nat) : List Nat × Int :=
  if r.length < 8 * u then ([], 2) else if 8 * (r.length - 8 * u) < n * wd u then ([], 2) else if fit10 r u n = false then ([], 3)
  else if enc10 (pats r u n) = l then (pats r u n, 0) else ([], 3)
def dec10 (l : List Nat) (n : Nat) : List Nat × Int :=
  if (readV l).2.2 ≠ 0 then ([], (readV l).2.2) else if n < (readV l).1 then ([], 3) else dec10b l (l.drop (readV l).2.1) (readV l).1 n
end Go.Ck

set_option linter.unusedVariables false
set_option maxRecDepth 10000
namespace Go.Ck
open Go.Proofs
theorem ref10Dec_fn (l : List Nat) (n : Nat) (hn : n ≤ 65536) (hl : l.length ≤ 2 ^ 40) (hb : ∀ x ∈ l, x < 256) : Fn Tryz.prog 85 [] [.pv (.sl 1 (bytes l)), .pv (.int .i64 n)]
    (fun rs H' => rs = [.own 39 (u64s (dec10 l n).1), .pv (.int .i64 (dec10 l n).2)] ∧ H' = []) := by
  refine Fn.of_body (fn := Tryz.f85) (n := 107) (res := [.tmp 4, .tmp 5]) (by kernel_rfl) rfl rfl rfl rfl rfl (fun C => ?_)
  have hr : room = 140737488355328 := rfl
  have hle := readV_le l
  have hlt := readV_lt hb
  refine AW.gg ?_
  refine AW.condF (by simp only [go_sem, ↓reduceIte]; congr 3; simp; omega) ?_
  refine AW.go ?_
  refine AW.callE (fun _ => 0) (refVarint_fn l (by omega) hb) (.pv _ .nil) ?_
  refine AW.go ?_
  unfold dec10
  have hbr : ∀ x ∈ l.drop (readV l).2.1, x < 256 := fun x hx => hb x (List.mem_of_mem_drop hx)
  have hlr : (l.drop (readV l).2.1).length ≤ 2 ^ 40 := by simp; omega
  generalize l.drop (readV l).2.1 = r at *
  generalize (readV l).1 = u at *
  generalize (readV l).2.2 = e at *
  generalize (readV l).2.1 = k at *
  refine AW.cond rfl (fun hc => ?_) (fun hc => ?_)
  · have he : e ≠ 0 := by simpa using hc
    simp only [if_pos he]
    refine AW.go ?_
    refine AW.finE (.move rfl (.pv _ .nil)) rfl
  have he : ¬ e ≠ 0 := by simpa using hc
  simp only [if_neg he]
  have hu : IntKind.u64.wrap (n : Int) = (n : Int) := wrap_u64_lt (by omega)
  refine AW.go ?_ (by simp only [go_sem, ↓reduceIte, hu] <;> rfl)
  refine AW.cond rfl (fun hc => ?_) (fun hc => ?_)
  · have hnu : n < u := by simp at hc; omega
    simp only [if_pos hnu]
    refine AW.go ?_
    refine AW.finE (.move rfl (.pv _ .nil)) rfl
  have hnu : ¬ n < u := by simp at hc; omega
  simp only [if_neg hnu]
  refine AW.go ?_
  refine AW.loopS (fun i : Nat => ⟨107, [(10, .pv (.int .u64 i)), (9, .own 39 (u64s (dic r i))), (7, .pv (.sl 1 (bytes (r.drop (8 * i))))), (6, .pv (.int .u64 u)), (0, .pv (.sl 1 (bytes l))), (1, .pv (.int .i64 n))], []⟩) (fun i => i ≤ u ∧ 8 * i ≤ r.length) (fun i => u - i) [10, 9, 7, 6, 0, 1] [] 0 ⟨Nat.zero_le _, by omega⟩ ?_
  rintro i ⟨hi, hi2⟩ K hK
  refine AW.go ?_
  refine AW.cond rfl (fun hc => ?_) (fun hc => ?_)
  · have hlt : i < u := by simpa using hc
    have hbd : ∀ x ∈ r.drop (8 * i), x < 256 := fun x hx => hbr x (List.mem_of_mem_drop hx)
    have hdl : (r.drop (8 * i)).length = r.length - 8 * i := by simp
    refine AW.go ?_
    refine AW.callE (fun _ => 0) (refFixed_fn (r.drop (8 * i)) 8 (by omega) (by omega) hbd) (.pv _ (.pv _ .nil)) ?_
    refine AW.go ?_
    by_cases h8 : 8 ≤ (r.drop (8 * i)).length
    · simp only [if_pos h8]
      refine AW.condF rfl ?_
      have h1 : (i + 1) * 8 ≤ room := by omega
      have h2 : i + 1 ≤ room := by omega
      have ei : IntKind.u64.wrap ((i : Int) + 1) = ((i + 1 : Nat) : Int) := wrap_u64_lt (n := i + 1) (by omega)
      have hdr : (r.drop (8 * i)).drop 8 = r.drop (8 * (i + 1)) := by rw [List.drop_drop]; congr 1
      rw [hdr]
      refine AW.go ?_ (by simp only [go_sem, ↓reduceIte, dic_len, u64s_one, h1, h2, ei, ← dic_succ] <;> rfl)
      refine AW.again hK (i + 1) ⟨hlt, by omega⟩ (by omega)
    · simp only [if_neg h8]
      have hs : r.length < 8 * u := by omega
      refine AW.condT rfl ?_
      refine AW.go ?_
      refine AW.finE (.move rfl (.pv _ .nil)) ?_
      simp only [dec10b, if_pos hs, u64s, List.map_nil]
  have hge : i = u := by simp at hc; omega
  subst hge
  have hs : ¬ r.length < 8 * i := by omega
  have hw16 := wd_le (n := i) (by omega)
  have hbd : ∀ x ∈ r.drop (8 * i), x < 256 := fun x hx => hbr x (List.mem_of_mem_drop hx)
  have hdl : (r.drop (8 * i)).length = r.length - 8 * i := by simp
  simp only [dec10b, if_neg hs]
  refine AW.go ?_
  refine AW.callE (fun _ => 0) (width10_fn (dic r i).length (by rw [dic_len]; omega)) (.pv _ .nil) ?_
  rw [dic_len]
  refine AW.go ?_
  refine AW.callE (fun _ => 0) (refOf_fn (r.drop (8 * i)) (by omega) hbd) (.pv _ .nil) ?_
  have hnw : n * blen (i - 1) ≤ 65536 * 16 := Nat.mul_le_mul hn hw16
  have em : IntKind.i64.wrap ((n : Int) * ((blen (i - 1) : Nat) : Int)) = ((n * wd i : Nat) : Int) := by
    rw [show (n : Int) * ((blen (i - 1) : Nat) : Int) = ((n * blen (i - 1) : Nat) : Int) from rfl, wrap_i64_nat (by omega)]; rfl
  refine AW.go ?_ (by simp only [go_sem, ↓reduceIte, em, unb_len, hdl] <;> rfl)
  refine AW.cond rfl (fun hc2 => ?_) (fun hc2 => ?_)
  · have h2 : 8 * (r.length - 8 * i) < n * wd i := by simp at hc2; omega
    simp only [if_pos h2]
    refine AW.go ?_
    refine AW.finE (.move rfl (.pv _ .nil)) rfl
  have h2 : ¬ 8 * (r.length - 8 * i) < n * wd i := by simp at hc2; omega
  simp only [if_neg h2]
  refine AW.go ?_
  refine AW.freeze (p := .slot 15) (by simp only [go_sem, ↓reduceIte, freeze, freezeO] <;> rfl) ?_
  refine AW.loopS (fun j : Nat => ⟨107, [(17, .pv (.int .i64 j)), (16, .own 39 (u64s (pats r i j))), (15, .pv (.sl 1 (nis ((unb (r.drop (8 * i))).drop (j * wd i))))), (14, .pv (.int .i64 (wd i : Nat))), (9, .own 39 (u64s (dic r i))), (0, .pv (.sl 1 (bytes l))), (1, .pv (.int .i64 n))], []⟩) (fun j => j ≤ n ∧ fit10 r i j = true) (fun j => n - j) [17, 16, 15, 14, 9, 0, 1] [] 0 ⟨Nat.zero_le _, rfl⟩ ?_ (by simp only [go_sem, ↓reduceIte]) (by simp only [go_sem, ↓reduceIte, Nat.zero_mul, List.drop_zero] <;> rfl)
  clear hK hc hc2
  rintro j ⟨hj, hfit⟩ K hK
  refine AW.go ?_
  refine AW.cond rfl (fun hc => ?_) (fun hc => ?_)
  · have hlt : j < n := by simpa using hc
    have hm : (j + 1) * wd i ≤ n * wd i := Nat.mul_le_mul_right _ hlt
    rw [Nat.succ_mul] at hm
    have hgl : wd i ≤ ((unb (r.drop (8 * i))).drop (j * wd i)).length := by rw [List.length_drop, unb_len, hdl]; omega
    refine AW.go ?_
    refine AW.callE (fun _ => 0) (refGet_fn ((unb (r.drop (8 * i))).drop (j * wd i)) (wd i) (by omega) (fun x hx => unb_bit _ x (List.mem_of_mem_drop hx))) (.pv _ (.pv _ .nil)) ?_
    simp only [if_pos hgl]
    have hix : binN (((unb (r.drop (8 * i))).drop (j * wd i)).take (wd i)) = ixs r i j := rfl
    rw [hix, List.drop_drop, show j * wd i + wd i = (j + 1) * wd i by rw [Nat.succ_mul]]
    have hui : IntKind.u64.wrap ((i : Nat) : Int) = (i : Nat) := wrap_u64_lt (by omega)
    refine AW.go ?_ (by simp only [go_sem, ↓reduceIte, dic_len, hui] <;> rfl)
    refine AW.cond rfl (fun hc2 => ?_) (fun hc2 => ?_)
    · have hx : ¬ ixs r i j < i := by simp at hc2; omega
      rw [if_pos (fit10_false hlt hx)]
      refine AW.go ?_
      refine AW.finE (.move rfl (.pv _ .nil)) rfl
    · have hx : ixs r i j < i := by simp at hc2; omega
      have hx2 : ixs r i j < (dic r i).length := by rw [dic_len]; exact hx
      have hget := u64s_get hx2
      rw [getD_get hx2] at hget
      have h1 : (j + 1) * 8 ≤ room := by omega
      have h2 : j + 1 ≤ room := by omega
      have ei : IntKind.i64.wrap ((j : Int) + 1) = ((j + 1 : Nat) : Int) := wrap_i64_succ (by omega)
      have hps := pats_succ r i j
      generalize (dic r i).getD (ixs r i j) 0 = y at *
      refine AW.go ?_ (by simp only [go_sem, ↓reduceIte, dic_len, hx, hget, pats_len, u64s_one, h1, h2, ei, ← hps] <;> rfl)
      refine AW.again hK (j + 1) ⟨hlt, ?_⟩ (by omega)
      rw [fit10_succ, hfit, decide_eq_true hx]; rfl
  have hge : j = n := by simp at hc; omega
  subst hge
  rw [if_neg (by rw [hfit]; exact Bool.noConfusion)]
  have hpl := pats_len r i j
  have hple : (pats r i j).length ≤ 65536 := by omega
  refine AW.go ?_
  refine AW.callE (fun _ => 0) (ref10Enc_fn (pats r i j) (pats_lt r i j hbr)) (.lend rfl co_39 .nil) ?_
  simp only [if_pos hple]
  refine AW.go ?_
  have hel : (enc10 (pats r i j)).length ≤ room := by
    have h1 := dd_len (pats r i j)
    have h2 := leb_len10 (v := (dd (pats r i j)).length) (by omega)
    have h3 := be8_len (dd (pats r i j))
    have h4 := pk_len (bits10 (dd (pats r i j)) (pats r i j))
    have h5 := bits10_len (dd (pats r i j)) (pats r i j)
    have h6 := wd_le (n := (dd (pats r i j)).length) (by omega)
    have h7 : wd (dd (pats r i j)).length * (pats r i j).length ≤ 16 * 65536 := Nat.mul_le_mul h6 hple
    simp only [enc10, head10, List.length_append]
    omega
  refine AW.callE (fun _ => 0) (ref01Same_fn (enc10 (pats r i j)) l hel) (.lend rfl co_5 (.pv _ .nil)) ?_
  refine AW.go ?_
  refine AW.cond rfl (fun hc2 => ?_) (fun hc2 => ?_)
  · have hne : ¬ enc10 (pats r i j) = l := by simpa using hc2
    rw [if_neg hne]
    refine AW.go ?_
    refine AW.finE (.move rfl (.pv _ .nil)) rfl
  · have hne : enc10 (pats r i j) = l := by simpa using hc2
    rw [if_pos hne]
    refine AW.go ?_
    refine AW.finE (.move rfl (.pv _ .nil)) rfl
end Go.Ck

set_option linter.unusedVariables false
namespace Go.Ck
def ents : List Nat → Nat → List (PV × PV)
  | [], _ => []
  | x :: r, i => (.int .u64 (x : Int), .int .i64 (i : Int)) :: ents r (i + 1)
theorem ents_len : ∀ (d : List Nat) (i : Nat), (ents d i).length = d.length
  | [], _ => rfl
  | x :: r, i => by simp [ents, ents_len r]
theorem ents_snoc : ∀ (d : List Nat) (i x : Nat), ents (d ++ [x]) i = ents d i ++ [(.int .u64 (x : Int), .int .i64 ((i + d.length : Nat) : Int))]
  | [], i, x => by simp [ents]
  | y :: r, i, x => by
    simp only [List.cons_append, ents, ents_snoc r (i + 1) x, List.length_cons]
    rw [show i + 1 + r.length = i + (r.length + 1) by omega]
theorem mlook_ents (x : Nat) : ∀ (d : List Nat) (i : Nat), mlook (.int .u64 (x : Int)) (ents d i) = some (if x ∈ d then some (.int .i64 (plc x d i)) else none)
  | [], i => rfl
  | y :: r, i => by
    by_cases h : y = x
    · have e : ((x : Int) == (y : Int)) = true := by simp [h]
      simp only [ents, mlook, keyEq, if_true, e]
      rw [plc, if_pos h, if_pos (by simp [h])]
    · have e : ((x : Int) == (y : Int)) = false := by simp; omega
      simp only [ents, mlook, keyEq, if_true, e]
      rw [mlook_ents x r (i + 1), plc, if_neg h]
      have : (x ∈ y :: r) ↔ x ∈ r := by simp only [List.mem_cons]; exact ⟨fun h2 => h2.resolve_left (fun h3 => h h3.symm), .inr⟩
      simp only [this]
theorem mset_ents (x : Nat) (v : PV) : ∀ (d : List Nat) (i : Nat), x ∉ d → mset (.int .u64 (x : Int)) v (ents d i) = some (ents d i ++ [(.int .u64 (x : Int), v)])
  | [], i, _ => rfl
  | y :: r, i, h => by
    simp only [List.mem_cons, not_or] at h
    have e : ((x : Int) == (y : Int)) = false := by simp; omega
    simp only [ents, mset, keyEq, if_true, e]
    rw [mset_ents x v r (i + 1) h.2]
    rfl
end Go.Ck
namespace Go.Ck
theorem mem_getD {l : List Nat} {x : Nat} (h : x ∈ l) : ∃ j, l.getD j 0 = x := by
  obtain ⟨j, hj, rfl⟩ := List.mem_iff_getElem.1 h
  exact ⟨j, (getD_get hj).symm⟩
theorem pk_byte (l : List Nat) (h : ∀ x ∈ l, x < 2) : ∀ x ∈ pk l, x < 256 := by
  intro x hx
  obtain ⟨j, rfl⟩ := mem_getD hx
  rw [pr_pk]
  split
  · rename_i hj
    subst hj
    by_cases h8 : l.length % 8 = 0
    · rw [h8]; simpa using (pr_lt l h).1 (l.length / 8)
    · rw [show (8 - l.length % 8) % 8 = 8 - l.length % 8 by omega]
      have h2 := (pr_lt l h).2
      have hq : 2 ^ (l.length % 8) * 2 ^ (8 - l.length % 8) = 2 ^ 8 := by rw [← Nat.pow_add]; congr 1; omega
      have := Nat.mul_lt_mul_of_pos_right h2 (Nat.two_pow_pos (8 - l.length % 8))
      omega
  · exact (pr_lt l h).1 j
theorem enc10_byte (xs : List Nat) : ∀ x ∈ enc10 xs, x < 256 := by
  intro x hx
  simp only [enc10, head10, List.mem_append, List.mem_flatMap] at hx
  rcases hx with (hx | ⟨y, _, hx⟩) | hx
  · exact leb_byte _ x hx
  · exact beB_byte _ _ x hx
  · exact pk_byte _ (bits10_bit _ _) x hx
end Go.Ck

set_option linter.unusedVariables false
set_option maxRecDepth 10000
namespace Go.Ck
open Go.Proofs
theorem dictEnc_fn (xs : List Nat) (hx : ∀ x ∈ xs, x < 2 ^ 64) : Fn Tryz.prog 92 [] [.pv (.sl 1 (u64s xs))]
    (fun rs H' => rs = [.own 5 (bytes (if xs.length ≤ 65536 then enc10 xs else [])), .pv (.int .i64 (if xs.length ≤ 65536 then 0 else 4))] ∧ H' = []) := by
  refine Fn.of_body (fn := Tryz.f92) (n := 71) (res := [.tmp 2, .tmp 3]) (by kernel_rfl) rfl rfl rfl rfl rfl (fun C => ?_)
  have hr : room = 140737488355328 := rfl
  refine AW.go ?_
  refine AW.cond rfl (fun hc => ?_) (fun hc => ?_)
  · have hle : ¬ xs.length ≤ 65536 := by simp at hc; omega
    simp only [if_neg hle]
    refine AW.go ?_
    refine AW.finE (.move rfl (.pv _ .nil)) rfl
  have hle : xs.length ≤ 65536 := by simp at hc; omega
  simp only [if_pos hle]
  refine AW.go ?_
  refine AW.loopS (fun i : Nat => ⟨71, [(21, .pv (.int .i64 i)), (20, .pv (.int .i64 xs.length)), (19, .pv (.sl 1 (u64s xs))), (5, .own 5 (bytes ((dd (xs.take i)).flatMap fun x => beB x 8))), (4, .mp 18), (0, .pv (.sl 1 (u64s xs)))], [(18, .mp (ents (dd (xs.take i)) 0))]⟩) (fun i => i ≤ xs.length) (fun i => xs.length - i) [21, 20, 19, 5, 4, 0] [18] 0 (Nat.zero_le _) ?_
  · rintro i hi K hK
    refine AW.go ?_
    refine AW.cond rfl (fun hc => ?_) (fun hc => ?_)
    · have hlt : i < xs.length := by simpa using hc
      have hget := u64s_get hlt
      have hxx := hx _ (List.getElem_mem hlt)
      have hti : xs.take (i + 1) = xs.take i ++ [xs[i]] := by simp
      have hdl := dd_len (xs.take i)
      have htl : (xs.take i).length = i := by simp; omega
      generalize xs[i] = x at *
      have ei : IntKind.i64.wrap ((i : Int) + 1) = ((i + 1 : Nat) : Int) := wrap_i64_succ (by omega)
      have hds : dd (xs.take (i + 1)) = ddS (dd (xs.take i)) x := by rw [hti, dd_snoc]
      generalize dd (xs.take i) = d at *
      refine AW.go ?_ (by simp only [go_sem, ↓reduceIte, hget] <;> rfl)
      refine AW.lookup2 (ho := rfl) rfl rfl rfl (mlook_ents x d 0) tk_131 (by simp only [go_sem, ↓reduceIte, keyFits] <;> rfl) ze_3 ?_
      by_cases hm : x ∈ d
      · simp only [if_pos hm, mval]
        have hn : ¬ plc x d 0 < 0 := fun h => plc_neg.1 h hm
        rw [ddS, if_neg hn] at hds
        refine AW.go ?_
        refine AW.condF rfl ?_
        refine AW.go ?_ (by simp only [go_sem, ↓reduceIte, ei] <;> rfl)
        refine AW.again hK (i + 1) hlt (by omega) (by simp only [go_sem, ↓reduceIte]) (by simp only [go_sem, ↓reduceIte, hds] <;> rfl)
      · simp only [if_neg hm, mval]
        have hn : plc x d 0 < 0 := plc_neg.2 hm
        rw [ddS, if_pos hn] at hds
        refine AW.go ?_
        refine AW.condT rfl ?_
        refine AW.go ?_ (by simp only [go_sem, ↓reduceIte, ents_len] <;> rfl)
        refine AW.mapSet (ho := rfl) rfl rfl rfl rfl (mset_ents x _ d 0 hm) tk_131 (by simp only [go_sem, ↓reduceIte, keyFits] <;> rfl) ?_
        have hes := ents_snoc d 0 x
        rw [Nat.zero_add] at hes
        rw [← hes]
        refine AW.go ?_
        refine AW.callE (fun _ => 0) (fix_fn x 8 hxx (by omega)) (.pv _ (.pv _ .nil)) ?_
        have h2 : (d.flatMap fun x => beB x 8).length + (beB x 8).length ≤ room := by rw [be8_len, beB_len]; omega
        have hfn : (d ++ [x]).flatMap (fun x => beB x 8) = d.flatMap (fun x => beB x 8) ++ beB x 8 := by rw [List.flatMap_append]; simp
        refine AW.go ?_ (by simp only [go_sem, ↓reduceIte, h2, ei, ← hfn] <;> rfl)
        refine AW.again hK (i + 1) hlt (by omega) (by simp only [go_sem, ↓reduceIte]) (by simp only [go_sem, ↓reduceIte, hds] <;> rfl)
    have hge : ¬ i < xs.length := by simpa using hc
    rw [List.take_of_length_le (by omega)]
    have hdl := dd_len xs
    have hmem : ∀ y ∈ xs, y ∈ dd xs := fun y hy => (dd_mem xs y).2 hy
    unfold enc10 head10
    generalize dd xs = d at *
    clear hK hc hge
    have hu : IntKind.u64.wrap ((d.length : Nat) : Int) = (d.length : Nat) := wrap_u64_lt (by omega)
    refine AW.go ?_ (by simp only [go_sem, ↓reduceIte, ents_len, hu] <;> rfl)
    have h10 := leb_len10 (v := d.length) (by omega)
    refine AW.callE (fun _ => 0) (append_fn [] d.length (by omega) (by simp; omega)) (.nilsP 1 (.pv _ .nil)) ?_
    have hfl := be8_len d
    have h2 : (leb d.length).length + (d.flatMap fun x => beB x 8).length ≤ room := by omega
    have hw16 := wd_le (n := d.length) (by omega)
    refine AW.go ?_ (by simp only [go_sem, ↓reduceIte, List.nil_append, h2] <;> rfl)
    refine AW.nilsOwnAt (.cell 50 0) 5 ?_
    refine AW.loopS (fun i : Nat => ⟨71, [(53, .pv (.int .i64 i)), (52, .pv (.int .i64 xs.length)), (51, .pv (.sl 1 (u64s xs))), (12, .ptr 50 0), (11, .own 5 (bytes (leb d.length ++ d.flatMap fun x => beB x 8))), (4, .mp 18)], [(50, .cells 126 [.own 5 (bytes (pk (bits10 d (xs.take i)))), .pv (.int .i64 (bits10 d (xs.take i)).length)]), (18, .mp (ents d 0))]⟩) (fun i => i ≤ xs.length) (fun i => xs.length - i) [53, 52, 51, 12, 11, 4] [50, 18] 0 (Nat.zero_le _) ?_
    clear hi i
    rintro i hi K hK
    refine AW.go ?_
    refine AW.cond rfl (fun hc => ?_) (fun hc => ?_)
    · have hlt : i < xs.length := by simpa using hc
      have hget := u64s_get hlt
      have hin := hmem _ (List.getElem_mem hlt)
      obtain ⟨p, hp1, hp2, hp3⟩ := plc_mem (i := 0) hin
      have hti : xs.take (i + 1) = xs.take i ++ [xs[i]] := by simp
      have hbi := bits10_len d (xs.take i)
      have hfn : bits10 d (xs.take (i + 1)) = bits10 d (xs.take i) ++ binB p (wd d.length) := by
        rw [hti, bits10, List.flatMap_append, bits10]
        simp only [List.flatMap_cons, List.flatMap_nil, List.append_nil, hp1]
        congr 2; omega
      rw [List.length_take] at hbi
      rw [Nat.zero_add] at hp1
      generalize xs[i] = x at *
      have hml := mlook_ents x d 0
      rw [if_pos hin, hp1] at hml
      have ei : IntKind.i64.wrap ((i : Int) + 1) = ((i + 1 : Nat) : Int) := wrap_i64_succ (by omega)
      have eu : IntKind.u64.wrap ((p : Nat) : Int) = (p : Nat) := wrap_u64_lt (by omega)
      have hm : wd d.length * min i xs.length ≤ 16 * 65536 := Nat.mul_le_mul hw16 (by omega)
      have hput := wrPut_fn (bits10 d (xs.take i)) p (wd d.length) (bits10_bit d _) (by omega) (wd_lt hp2) (by rw [hbi]; omega)
      refine AW.go ?_ (by simp only [go_sem, ↓reduceIte, hget] <;> rfl)
      refine AW.any0 mixed ?_
      refine AW.takes (fuel := 5) [0, 1, 2, 5] ?_ (by simp only [go_sem, ↓reduceIte] <;> rfl) Ends.noPanic (listed' := #[true, true, true, false, false, true, false, false, false]) (by decide +kernel) (by decide +kernel)
      refine via (T := ?T) (fun hT => ?_) ?_
      rotate_left
      · refine AW.branch (rs := [3, 6]) ?_ (by decide +kernel) (by simp)
        intro j hj
        simp only [List.mem_cons, List.not_mem_nil, or_false] at hj
        rcases hj with rfl | rfl
        · refine AW.go ?_
          refine AW.lookup (ho := rfl) rfl rfl rfl hml tk_131 (by simp only [go_sem, ↓reduceIte, keyFits] <;> rfl) ze_3 ?_
          refine AW.go ?_
          refine AW.takes (fuel := 3) [4] ?_ (by simp only [go_sem, ↓reduceIte, mval, eu] <;> rfl) Ends.noPanic (listed' := #[true, true, true, true, true, true, false, false, false]) (by decide +kernel) (by decide +kernel)
          refine AW.seqs (fuel := 1) (listed' := #[true, true, true, true, true, true, true, true, false]) [6, 7] ?_ (by decide +kernel)
          refine AW.go ?_ (by simp only [go_sem, ↓reduceIte, ents_len] <;> rfl)
          refine AW.callE (fun _ => 0) (dictWidth_fn d.length (by omega)) (.pv _ .nil) ?_
          refine AW.go ?_
          refine AW.keepB [57, 61, 64, 53, 52, 51, 12, 11, 4] [50, 18] (by simp only [go_sem, ↓reduceIte]) (by simp only [go_sem, ↓reduceIte] <;> rfl) ?_
          exact hT ()
        · refine AW.go ?_ (by simp only [go_sem, ↓reduceIte, ents_len] <;> rfl)
          refine AW.branch (fuel := 3) (rs := [3, 7]) ?_ (by decide +kernel) (by simp)
          intro j hj
          simp only [List.mem_cons, List.not_mem_nil, or_false] at hj
          rcases hj with rfl | rfl
          · refine AW.go ?_
            refine AW.lookup (ho := rfl) rfl rfl rfl hml tk_131 (by simp only [go_sem, ↓reduceIte, keyFits] <;> rfl) ze_3 ?_
            refine AW.go ?_
            refine AW.takes (fuel := 2) [4] ?_ (by simp only [go_sem, ↓reduceIte, mval, eu] <;> rfl) Ends.noPanic (listed' := #[true, true, true, true, true, true, true, false, false]) (by decide +kernel) (by decide +kernel)
            refine AW.seqs (fuel := 1) (listed' := #[true, true, true, true, true, true, true, true, false]) [7] ?_ (by decide +kernel)
            refine AW.go ?_
            refine AW.callE (fun _ => 0) (dictWidth_fn d.length (by omega)) (.pv _ .nil) ?_
            refine AW.go ?_
            refine AW.keepB [57, 61, 64, 53, 52, 51, 12, 11, 4] [50, 18] (by simp only [go_sem, ↓reduceIte]) (by simp only [go_sem, ↓reduceIte] <;> rfl) ?_
            exact hT ()
          · refine AW.go ?_
            refine AW.callE (fun _ => 0) (dictWidth_fn d.length (by omega)) (.pv _ .nil) ?_
            refine AW.go ?_
            refine AW.seqs (fuel := 1) (listed' := #[true, true, true, true, true, true, true, true, false]) [3, 4] ?_ (by decide +kernel)
            refine AW.go ?_
            refine AW.lookup (ho := rfl) rfl rfl rfl hml tk_131 (by simp only [go_sem, ↓reduceIte, keyFits] <;> rfl) ze_3 ?_
            refine AW.go ?_ (by simp only [go_sem, ↓reduceIte, mval, eu] <;> rfl)
            refine AW.keepB [57, 61, 64, 53, 52, 51, 12, 11, 4] [50, 18] (by simp only [go_sem, ↓reduceIte]) (by simp only [go_sem, ↓reduceIte] <;> rfl) ?_
            exact hT ()
      refine AW.seqs (fuel := 0) (listed' := #[true, true, true, true, true, true, true, true, true]) [8] ?_ (by decide +kernel)
      refine AW.go ?_
      refine AW.callE (fun _ => 50) hput (.ptr rfl (.pv _ (.pv _ .nil))) ?_
      refine AW.go ?_
      refine AW.anyDone (by decide +kernel) ?_
      refine AW.go ?_ (by simp only [go_sem, ↓reduceIte, ei, ← hfn] <;> rfl)
      refine AW.again hK (i + 1) hlt (by omega)
    · have hge : ¬ i < xs.length := by simpa using hc
      rw [List.take_of_length_le (by omega)]
      have hbi := bits10_len d xs
      have hm : wd d.length * xs.length ≤ 16 * 65536 := Nat.mul_le_mul hw16 (by omega)
      refine AW.go ?_
      refine AW.callE (fun _ => 50) (wrBytes_fn (bits10 d xs) (by omega)) (.ptr rfl .nil) ?_
      have h3 : (leb d.length ++ d.flatMap fun x => beB x 8).length + (pk (bits10 d xs)).length ≤ room := by rw [List.length_append, hfl, pk_len]; omega
      refine AW.go ?_ (by simp only [go_sem, ↓reduceIte, h3] <;> rfl)
      refine AW.finE (.move rfl (.pv _ .nil)) rfl
end Go.Ck

set_option linter.unusedVariables false
set_option maxRecDepth 10000
namespace Go.Ck
open Go.Proofs
theorem dictionary_fn (r : List Nat) (u : Nat) (hu : u ≤ 65536) (hl : r.length ≤ 2 ^ 40) (hb : ∀ x ∈ r, x < 256) : Fn Tryz.prog 110 (curO r) [.ptr 1000 0, .pv (.int .u64 u)]
    (fun rs H' => rs = [.own 39 (u64s (if 8 * u ≤ r.length then dic r u else [])), .pv (.int .i64 (if 8 * u ≤ r.length then 0 else 2))] ∧ H' = curO (if 8 * u ≤ r.length then r.drop (8 * u) else r.drop (8 * (r.length / 8)))) := by
  refine Fn.of_body (fn := Tryz.f110) (n := 26) (res := [.tmp 4, .tmp 5]) (by kernel_rfl) rfl rfl rfl rfl rfl (fun C => ?_)
  have hr : room = 140737488355328 := rfl
  refine AW.go ?_
  refine AW.loopS (fun i : Nat => ⟨26, [(10, .pv (.int .u64 i)), (9, .pv (.int .u64 u)), (6, .own 39 (u64s (dic r i))), (0, .ptr 1000 0)], curO (r.drop (8 * i))⟩) (fun i => i ≤ u ∧ 8 * i ≤ r.length) (fun i => u - i) [10, 9, 6, 0] [1000] 0 ⟨Nat.zero_le _, by omega⟩ ?_
  rintro i ⟨hi, hi2⟩ K hK
  refine AW.go ?_
  refine AW.cond rfl (fun hc => ?_) (fun hc => ?_)
  · have hlt : i < u := by simpa using hc
    have hbd : ∀ x ∈ r.drop (8 * i), x < 256 := fun x hx => hb x (List.mem_of_mem_drop hx)
    have hdl : (r.drop (8 * i)).length = r.length - 8 * i := by simp
    refine AW.go ?_
    refine AW.callE id (curFixed_fn (r.drop (8 * i)) 8 (by omega) (by omega) hbd) (.ptr rfl (.pv _ .nil)) ?_
    refine AW.go ?_
    by_cases h8 : 8 ≤ (r.drop (8 * i)).length
    · simp only [if_pos h8]
      refine AW.condF rfl ?_
      have h1 : (i + 1) * 8 ≤ room := by omega
      have h2 : i + 1 ≤ room := by omega
      have ei : IntKind.u64.wrap ((i : Int) + 1) = ((i + 1 : Nat) : Int) := wrap_u64_lt (n := i + 1) (by omega)
      have hdr : (r.drop (8 * i)).drop 8 = r.drop (8 * (i + 1)) := by rw [List.drop_drop]; congr 1
      rw [hdr]
      refine AW.go ?_ (by simp only [go_sem, ↓reduceIte, dic_len, u64s_one, h1, h2, ei, ← dic_succ] <;> rfl)
      refine AW.again hK (i + 1) ⟨hlt, by omega⟩ (by omega)
    · simp only [if_neg h8]
      have hs : ¬ 8 * u ≤ r.length := by omega
      have hq : 8 * (r.length / 8) = 8 * i := by omega
      simp only [if_neg hs, hq]
      refine AW.condT rfl ?_
      refine AW.go ?_
      refine AW.finE (.move rfl (.pv _ .nil)) rfl
  · have hge : i = u := by simp at hc; omega
    subst hge
    simp only [if_pos hi2]
    refine AW.go ?_
    refine AW.finE (.move rfl (.pv _ .nil)) rfl

theorem dictDec_fn (l : List Nat) (n : Nat) (hn : n ≤ 65536) (hl : l.length ≤ 2 ^ 40) (hb : ∀ x ∈ l, x < 256) : Fn Tryz.prog 79 [] [.pv (.sl 1 (bytes l)), .pv (.int .i64 n)]
    (fun rs H' => rs = [.own 39 (u64s (dec10 l n).1), .pv (.int .i64 (dec10 l n).2)] ∧ H' = []) := by
  refine Fn.of_body (fn := Tryz.f79) (n := 101) (res := [.tmp 4, .tmp 5]) (by kernel_rfl) rfl rfl rfl rfl rfl (fun C => ?_)
  have hr : room = 140737488355328 := rfl
  have hle := readV_le l
  have hlt := readV_lt hb
  refine AW.gg ?_
  refine AW.condF (by simp only [go_sem, ↓reduceIte]; congr 3; simp; omega) ?_
  refine AW.go ?_
  refine AW.callE (fun o => if o = 7 then 26 else 0) (curNew_fn l (by omega)) (.pv _ .nil) ?_
  refine AW.go ?_
  refine AW.callE (fun _ => 26) (curVarint_fn l (by omega) hb) (.ptr rfl .nil) ?_
  refine AW.go ?_
  unfold dec10
  have hbr : ∀ x ∈ l.drop (readV l).2.1, x < 256 := fun x hx => hb x (List.mem_of_mem_drop hx)
  have hlr : (l.drop (readV l).2.1).length ≤ 2 ^ 40 := by simp; omega
  generalize l.drop (readV l).2.1 = r at *
  generalize (readV l).1 = u at *
  generalize (readV l).2.2 = e at *
  generalize (readV l).2.1 = k at *
  refine AW.cond rfl (fun hc => ?_) (fun hc => ?_)
  · have he : e ≠ 0 := by simpa using hc
    simp only [if_pos he]
    refine AW.go ?_
    refine AW.finE (.move rfl (.pv _ .nil)) rfl
  have he : ¬ e ≠ 0 := by simpa using hc
  simp only [if_neg he]
  have hu : IntKind.u64.wrap (n : Int) = (n : Int) := wrap_u64_lt (by omega)
  refine AW.go ?_ (by simp only [go_sem, ↓reduceIte, hu] <;> rfl)
  refine AW.cond rfl (fun hc => ?_) (fun hc => ?_)
  · have hnu : n < u := by simp at hc; omega
    simp only [if_pos hnu]
    refine AW.go ?_
    refine AW.finE (.move rfl (.pv _ .nil)) rfl
  have hnu : ¬ n < u := by simp at hc; omega
  simp only [if_neg hnu]
  refine AW.go ?_
  refine AW.callE (fun _ => 26) (dictionary_fn r u (by omega) hlr hbr) (.ptr rfl (.pv _ .nil)) ?_
  refine AW.go ?_
  unfold dec10b
  by_cases h8 : 8 * u ≤ r.length
  · have hs : ¬ r.length < 8 * u := by omega
    simp only [if_pos h8, if_neg hs]
    refine AW.condF rfl ?_
    have hw16 := wd_le (n := u) (by omega)
    have hbd : ∀ x ∈ r.drop (8 * u), x < 256 := fun x hx => hbr x (List.mem_of_mem_drop hx)
    have hdl : (r.drop (8 * u)).length = r.length - 8 * u := by simp
    refine AW.go ?_ (by simp only [go_sem, ↓reduceIte, dic_len] <;> rfl)
    refine AW.callE (fun _ => 0) (dictWidth_fn u (by omega)) (.pv _ .nil) ?_
    refine AW.go ?_
    have hnw : n * blen (u - 1) ≤ 65536 * 16 := Nat.mul_le_mul hn hw16
    have em : IntKind.i64.wrap (((n * blen (u - 1) : Nat) : Int)) = ((n * wd u : Nat) : Int) := wrap_i64_nat (by omega)
    refine AW.callE (fun _ => 26) (curLeft_fn (r.drop (8 * u))) (.ptr rfl .nil) ?_
    have e8 : IntKind.i64.wrap (8 * (((r.drop (8 * u)).length : Nat) : Int)) = ((8 * (r.length - 8 * u) : Nat) : Int) := by rw [hdl]; exact wrap_i64_nat (n := 8 * (r.length - 8 * u)) (by omega)
    refine AW.go ?_ (by simp only [go_sem, ↓reduceIte, em, e8] <;> rfl)
    refine AW.cond rfl (fun hc2 => ?_) (fun hc2 => ?_)
    · have h2 : 8 * (r.length - 8 * u) < n * wd u := by simp at hc2; omega
      simp only [if_pos h2]
      refine AW.go ?_
      refine AW.finE (.move rfl (.pv _ .nil)) rfl
    have h2 : ¬ 8 * (r.length - 8 * u) < n * wd u := by simp at hc2; omega
    simp only [if_neg h2]
    refine AW.go ?_
    refine AW.callE (fun _ => 26) (curLeft_fn (r.drop (8 * u))) (.ptr rfl .nil) ?_
    refine AW.go ?_
    refine AW.callE (fun _ => 26) (curBytes_fn (r.drop (8 * u)) (r.drop (8 * u)).length (by omega)) (.ptr rfl (.pv _ .nil)) ?_
    simp only [if_pos (Nat.le_refl _), List.take_length, List.drop_length]
    refine AW.freeze (p := .part 64 0) (by simp only [go_sem, ↓reduceIte, freeze, freezeO] <;> rfl) ?_
    refine AW.go ?_
    generalize hdr : r.drop (8 * u) = q at *
    refine AW.callE (fun o => if o = 6 then 68 else 0) (rdNew_fn q (by omega)) (.pv _ .nil) ?_
    refine AW.go ?_
    refine AW.loopS (fun j : Nat => ⟨101, [(70, .pv (.int .i64 j)), (69, .pv (.int .i64 n)), (14, .own 39 (u64s (pats r u j))), (13, .ptr 68 0), (10, .pv (.int .i64 (wd u : Nat))), (9, .own 39 (u64s (dic r u))), (0, .pv (.sl 1 (bytes l)))], [(68, .cells 138 [.pv (.sl 1 (bytes q)), .pv (.int .i64 (j * wd u : Nat))])]⟩) (fun j => j ≤ n ∧ fit10 r u j = true) (fun j => n - j) [70, 69, 14, 13, 10, 9, 0] [68] 0 ⟨Nat.zero_le _, rfl⟩ ?_ (by simp only [go_sem, ↓reduceIte]) (by simp only [go_sem, ↓reduceIte, Nat.zero_mul] <;> rfl)
    clear hc2
    rintro j ⟨hj, hfit⟩ K hK
    refine AW.go ?_
    refine AW.cond rfl (fun hc => ?_) (fun hc => ?_)
    · have hlt : j < n := by simpa using hc
      have hm : (j + 1) * wd u ≤ n * wd u := Nat.mul_le_mul_right _ hlt
      rw [Nat.succ_mul] at hm
      have hgl : j * wd u + wd u ≤ 8 * q.length := by omega
      refine AW.go ?_
      refine AW.callE (fun _ => 68) (rdGet_fn q (j * wd u) (wd u) (by omega) (by omega) (by omega) hbd) (.ptr rfl (.pv _ .nil)) ?_
      simp only [if_pos hgl]
      have hix : getB (unb q) (j * wd u) (wd u) = ixs r u j := by rw [ixs, hdr]
      rw [hix, show j * wd u + wd u = (j + 1) * wd u by rw [Nat.succ_mul]]
      have hui : IntKind.u64.wrap ((u : Nat) : Int) = (u : Nat) := wrap_u64_lt (by omega)
      refine AW.go ?_ (by simp only [go_sem, ↓reduceIte, dic_len, hui] <;> rfl)
      refine AW.cond rfl (fun hc2 => ?_) (fun hc2 => ?_)
      · have hx : ¬ ixs r u j < u := by simp at hc2; omega
        rw [if_pos (fit10_false hlt hx)]
        refine AW.go ?_
        refine AW.finE (.move rfl (.pv _ .nil)) rfl
      · have hx : ixs r u j < u := by simp at hc2; omega
        have hx2 : ixs r u j < (dic r u).length := by rw [dic_len]; exact hx
        have hget := u64s_get hx2
        rw [getD_get hx2] at hget
        have h1 : (j + 1) * 8 ≤ room := by omega
        have h2 : j + 1 ≤ room := by omega
        have ei : IntKind.i64.wrap ((j : Int) + 1) = ((j + 1 : Nat) : Int) := wrap_i64_succ (by omega)
        have hps := pats_succ r u j
        generalize (dic r u).getD (ixs r u j) 0 = y at *
        refine AW.go ?_ (by simp only [go_sem, ↓reduceIte, dic_len, hx, hget, pats_len, u64s_one, h1, h2, ei, ← hps] <;> rfl)
        refine AW.again hK (j + 1) ⟨hlt, ?_⟩ (by omega)
        rw [fit10_succ, hfit, decide_eq_true hx]; rfl
    have hge : j = n := by simp at hc; omega
    subst hge
    rw [if_neg (by rw [hfit]; exact Bool.noConfusion)]
    have hpl := pats_len r u j
    have hple : (pats r u j).length ≤ 65536 := by omega
    refine AW.go ?_
    refine AW.callE (fun _ => 0) (dictEnc_fn (pats r u j) (pats_lt r u j hbr)) (.lend rfl co_39 .nil) ?_
    simp only [if_pos hple]
    refine AW.go ?_
    refine AW.callE (fun _ => 0) (bytesEqual_fn (enc10 (pats r u j)) l (enc10_byte _) hb) (.lend rfl co_5 (.pv _ .nil)) ?_
    refine AW.go ?_
    refine AW.cond rfl (fun hc2 => ?_) (fun hc2 => ?_)
    · have hne : ¬ enc10 (pats r u j) = l := by simpa using hc2
      rw [if_neg hne]
      refine AW.go ?_
      refine AW.finE (.move rfl (.pv _ .nil)) rfl
    · have hne : enc10 (pats r u j) = l := by simpa using hc2
      rw [if_pos hne]
      refine AW.go ?_
      refine AW.finE (.move rfl (.pv _ .nil)) rfl
  · have hs : r.length < 8 * u := by omega
    simp only [if_neg h8, if_pos hs]
    refine AW.condT rfl ?_
    refine AW.go ?_
    refine AW.finE (.move rfl (.pv _ .nil)) rfl
end Go.Ck

set_option linter.unusedVariables false
namespace Go.Ck
def fitsW : Option (Nat × Nat) → Nat → Bool
  | none, _ => false
  | some (l, t), v => decide (l ≤ 64 - blen v) && decide (t ≤ tzn v)
/-- The window of a difference. -/
def newW (x : Nat) : Nat × Nat := (min (64 - blen x) 31, tzn x)
def winOK (w : Option (Nat × Nat)) : Prop := ∀ l t, w = some (l, t) → l + t ≤ 63 ∧ l ≤ 31
theorem tzn_blen {x : Nat} (h : x ≠ 0) : tzn x < blen x := tzn_lt h blen_lt
theorem newW_ok {x : Nat} (h : x ≠ 0) (hx : x < 2 ^ 64) : (newW x).1 + (newW x).2 ≤ 63 ∧ (newW x).1 ≤ 31 := by
  have := tzn_blen h
  have := blen_le.2 hx
  unfold newW
  simp only
  omega
theorem newW_fits {x : Nat} : (newW x).1 ≤ 64 - blen x ∧ (newW x).2 ≤ tzn x := by
  unfold newW
  simp only
  omega
theorem fit_lt {x l t : Nat} (hx : x < 2 ^ 64) (hl : l ≤ 64 - blen x) (hl2 : l + t ≤ 63) : x / 2 ^ t < 2 ^ (64 - l - t) := by
  rw [Nat.div_lt_iff_lt_mul (Nat.two_pow_pos t), ← Nat.pow_add]
  have hb := blen_le.2 hx
  have := @blen_lt x
  exact Nat.lt_of_lt_of_le this (Nat.pow_le_pow_right (by omega) (by omega))
/-- The bits of a difference, and the window behind it. -/
def gStep (w : Option (Nat × Nat)) (x : Nat) : List Nat × Option (Nat × Nat) :=
  if x = 0 then ([0], w) else match fitsW w x, w with
  | true, some (l, t) => ([1, 0] ++ binB (x / 2 ^ t) (64 - l - t), w)
  | _, _ => ([1, 1] ++ binB (newW x).1 5 ++ binB (63 - (newW x).1 - (newW x).2) 6 ++ binB (x / 2 ^ (newW x).2) (64 - (newW x).1 - (newW x).2), some (newW x))
def gS (a : List Nat × Option (Nat × Nat) × Option Nat) (v : Nat) : List Nat × Option (Nat × Nat) × Option Nat := match a.2.2 with
  | none => (binB v 64, a.2.1, some v)
  | some p => (a.1 ++ (gStep a.2.1 (v ^^^ p)).1, (gStep a.2.1 (v ^^^ p)).2, some v)
def gF (xs : List Nat) : List Nat × Option (Nat × Nat) × Option Nat := xs.foldl gS ([], none, none)
theorem gF_snoc (xs : List Nat) (v : Nat) : gF (xs ++ [v]) = gS (gF xs) v := by simp [gF]
theorem gF_last (xs : List Nat) : (gF xs).2.2 = xs.getLast? := by
  induction xs using snoc_ind with
  | h0 => rfl
  | h1 l b ih => rw [gF_snoc, gS]; cases (gF l).2.2 <;> simp
theorem gStep_zero (w : Option (Nat × Nat)) : gStep w 0 = ([0], w) := by simp [gStep]
theorem gStep_fits {l t x : Nat} (h0 : x ≠ 0) (h : fitsW (some (l, t)) x = true) : gStep (some (l, t)) x = ([1, 0] ++ binB (x / 2 ^ t) (64 - l - t), some (l, t)) := by
  simp [gStep, h0, h]
theorem gStep_new {w : Option (Nat × Nat)} {x : Nat} (h0 : x ≠ 0) (h : fitsW w x = false) : gStep w x = ([1, 1] ++ binB (newW x).1 5 ++ binB (63 - (newW x).1 - (newW x).2) 6 ++ binB (x / 2 ^ (newW x).2) (64 - (newW x).1 - (newW x).2), some (newW x)) := by
  unfold gStep
  rw [if_neg h0]
  split
  · rename_i h2; rw [h] at h2; cases h2
  · rfl
theorem gStep_ok {w : Option (Nat × Nat)} {x : Nat} (hw : winOK w) (hx : x < 2 ^ 64) : winOK (gStep w x).2 := by
  by_cases h0 : x = 0
  · subst h0; rw [gStep_zero]; exact hw
  · cases hf : fitsW w x with
    | true =>
      rcases w with _ | ⟨l, t⟩
      · simp [fitsW] at hf
      · rw [gStep_fits h0 hf]; exact hw
    | false =>
      rw [gStep_new h0 hf]
      intro l t h
      have := newW_ok h0 hx
      cases h
      exact this
theorem gStep_len {w : Option (Nat × Nat)} {x : Nat} : (gStep w x).1.length ≤ 77 := by
  by_cases h0 : x = 0
  · subst h0; rw [gStep_zero]; simp
  · cases hf : fitsW w x with
    | true =>
      rcases w with _ | ⟨l, t⟩
      · simp [fitsW] at hf
      · rw [gStep_fits h0 hf]; simp [binB_len]; omega
    | false => rw [gStep_new h0 hf]; simp [binB_len]; omega
theorem gF_ok (xs : List Nat) : (∀ x ∈ xs, x < 2 ^ 64) → winOK (gF xs).2.1 := by
  induction xs using snoc_ind with
  | h0 => intro _ l t h; cases h
  | h1 l b ih =>
    intro hx
    have ih := ih (fun x h => hx x (by simp [h]))
    have hl := gF_last l
    rw [gF_snoc, gS]
    cases hp : (gF l).2.2 with
    | none => exact ih
    | some p =>
      rw [hp] at hl
      have hpm : p ∈ l := List.mem_of_getLast? hl.symm
      exact gStep_ok ih (Nat.xor_lt_two_pow (hx b (by simp)) (hx p (by simp [hpm])))
theorem gF_len (xs : List Nat) : (gF xs).1.length ≤ 77 * xs.length := by
  induction xs using snoc_ind with
  | h0 => simp [gF]
  | h1 l b ih =>
    rw [gF_snoc, gS, List.length_append, List.length_singleton]
    cases (gF l).2.2 with
    | none => simp only [binB_len]; omega
    | some p => have := @gStep_len (gF l).2.1 (b ^^^ p); simp only [List.length_append]; omega
theorem gStep_bit {w : Option (Nat × Nat)} {x : Nat} : ∀ y ∈ (gStep w x).1, y < 2 := by
  by_cases h0 : x = 0
  · subst h0; rw [gStep_zero]; simp
  · cases hf : fitsW w x with
    | true =>
      rcases w with _ | ⟨l, t⟩
      · simp [fitsW] at hf
      · rw [gStep_fits h0 hf]
        intro y hy
        simp only [List.mem_append, List.mem_cons, List.not_mem_nil, or_false] at hy
        rcases hy with (rfl | rfl) | hy
        · omega
        · omega
        · exact binB_bit _ _ y hy
    | false =>
      rw [gStep_new h0 hf]
      intro y hy
      simp only [List.mem_append, List.mem_cons, List.not_mem_nil, or_false] at hy
      rcases hy with (((rfl | rfl) | hy) | hy) | hy
      · omega
      · omega
      all_goals exact binB_bit _ _ y hy
theorem gF_bit (xs : List Nat) : ∀ y ∈ (gF xs).1, y < 2 := by
  induction xs using snoc_ind with
  | h0 => simp [gF]
  | h1 l b ih =>
    rw [gF_snoc, gS]
    cases (gF l).2.2 with
    | none => exact binB_bit _ _
    | some p =>
      intro y hy
      simp only [List.mem_append] at hy
      rcases hy with hy | hy
      · exact ih y hy
      · exact gStep_bit y hy
def enc09 (xs : List Nat) : List Nat := pk (gF xs).1
end Go.Ck

set_option linter.unusedVariables false
set_option maxRecDepth 10000
namespace Go.Ck
open Go.Proofs
theorem eqWin : EqTwo Tryz.prog 109 := EqTwo.of (i := 3) (by kernel_rfl) (by kernel_rfl) (by kernel_rfl) (by kernel_rfl) (by kernel_rfl)

theorem none_fn : Fn Tryz.prog 114 [] [] (fun rs H' => rs = [.pv (.agg [.int .i64 (-1), .int .i64 0])] ∧ H' = []) := by
  refine Fn.of_body (fn := Tryz.f114) (n := 2) (res := [.cell 0 109]) (by kernel_rfl) rfl rfl rfl rfl rfl (fun C => ?_)
  refine AW.go ?_
  refine AW.finE (.pv _ .nil) rfl

theorem of_fn (v : Nat) (h0 : v ≠ 0) (hv : v < 2 ^ 64) : Fn Tryz.prog 129 [] [.pv (.int .u64 v)] (fun rs H' => rs = [.pv (.agg [.int .i64 ((min (64 - blen v) 31 : Nat) : Int), .int .i64 (tzn v : Nat)])] ∧ H' = []) := by
  refine Fn.of_body (fn := Tryz.f129) (n := 9) (res := [.cell 2 109]) (by kernel_rfl) rfl rfl rfl rfl rfl (fun C => ?_)
  refine AW.go ?_
  refine AW.callE (fun _ => 0) (lz_fn v hv) (.pv _ .nil) ?_
  have hm : (if (31 : Int) < ((64 - blen v : Nat) : Int) then (31 : Int) else ((64 - blen v : Nat) : Int)) = ((min (64 - blen v) 31 : Nat) : Int) := by split <;> omega
  refine AW.go ?_ (by simp only [go_sem, ↓reduceIte, hm] <;> rfl)
  have ht := tz_fn v hv
  rw [if_neg h0] at ht
  refine AW.callE (fun _ => 0) ht (.pv _ .nil) ?_
  refine AW.go ?_
  refine AW.finE (.pv _ .nil) rfl

theorem rest_fn (l t : Nat) (h : l + t ≤ 64) : Fn Tryz.prog 130 [] [.pv (.agg [.int .i64 l, .int .i64 t])] (fun rs H' => rs = [.pv (.int .i64 ((64 - l - t : Nat) : Int))] ∧ H' = []) := by
  refine Fn.of_body (fn := Tryz.f130) (n := 9) (res := [.tmp 2]) (by kernel_rfl) rfl rfl rfl rfl rfl (fun C => ?_)
  have e : IntKind.i64.wrap (IntKind.i64.wrap (64 - (l : Int)) - (t : Int)) = ((64 - l - t : Nat) : Int) := by
    rw [wrap_i64_of (n := 64 - (l : Int)) (by omega) (by omega), wrap_i64_of (by omega) (by omega)]; omega
  refine AW.go ?_ (by simp only [go_sem, ↓reduceIte, e] <;> rfl)
  refine AW.finE (.pv _ .nil) rfl

/-- A window, as it is kept. -/
def winV : Option (Nat × Nat) → PV
  | none => .agg [.int .i64 (-1), .int .i64 0]
  | some (l, t) => .agg [.int .i64 l, .int .i64 t]
theorem fits_fn (wn : Option (Nat × Nat)) (v : Nat) (h0 : v ≠ 0) (hv : v < 2 ^ 64) : Fn Tryz.prog 128 [] [.pv (winV wn), .pv (.int .u64 v)] (fun rs H' => rs = [.pv (.bool (fitsW wn v))] ∧ H' = []) := by
  refine Fn.of_body (fn := Tryz.f128) (n := 22) (res := [.tmp 4]) (by kernel_rfl) rfl rfl rfl rfl rfl (fun C => ?_)
  have ht := tz_fn v hv
  rw [if_neg h0] at ht
  rcases wn with _ | ⟨l, t⟩
  · simp only [winV, fitsW]
    refine AW.go ?_
    refine AW.any0 mixed ?_
    refine via (T := ?T1) (fun hT => ?_) ?_
    rotate_left
    · refine AW.branch (rs := [0, 1]) ?_ (by decide +kernel) (by simp)
      intro j hj
      simp only [List.mem_cons, List.not_mem_nil, or_false] at hj
      rcases hj with rfl | rfl
      · refine AW.go ?_
        refine AW.seqs (fuel := 16) (listed' := #[true, true, false, false, false, false, false, false, false, false, false, false, false, false, false, false, false, false]) [1] ?_ (by decide +kernel)
        refine AW.go ?_
        refine AW.callE (fun _ => 0) none_fn .nil ?_
        refine AW.go ?_
        refine AW.keepB [2, 4, 5, 6, 1] [2] (by simp only [go_sem, ↓reduceIte]) (by simp only [go_sem, ↓reduceIte] <;> rfl) ?_
        exact hT ()
      · refine AW.go ?_
        refine AW.callE (fun _ => 0) none_fn .nil ?_
        refine AW.go ?_
        refine AW.seqs (fuel := 16) (listed' := #[true, true, false, false, false, false, false, false, false, false, false, false, false, false, false, false, false, false]) [0] ?_ (by decide +kernel)
        refine AW.go ?_
        refine AW.keepB [2, 4, 5, 6, 1] [2] (by simp only [go_sem, ↓reduceIte]) (by simp only [go_sem, ↓reduceIte] <;> rfl) ?_
        exact hT ()
    refine AW.seqs (fuel := 14) (listed' := #[true, true, true, true, false, false, false, false, false, false, false, false, false, false, false, false, false, false]) [2, 3] ?_ (by decide +kernel)
    refine AW.go ?_
    refine AW.neq2 (ho := rfl) eqWin rfl rfl ?_
    refine AW.gg ?_
    refine AW.takes (fuel := 11) [4, 6, 7] ?_ (by simp only [go_sem, ↓reduceIte] <;> rfl) Ends.noPanic (listed' := #[true, true, true, true, true, false, true, true, false, false, false, false, false, false, false, false, false, false]) (by decide +kernel) (by decide +kernel)
    refine AW.seqs (fuel := 7) (listed' := #[true, true, true, true, true, true, true, true, true, true, true, false, false, false, false, false, false, false]) [5, 8, 9, 10] ?_ (by decide +kernel)
    refine AW.gg ?_
    refine AW.takes (fuel := 4) [11, 13, 14] ?_ (by simp only [go_sem, ↓reduceIte] <;> rfl) Ends.noPanic (listed' := #[true, true, true, true, true, true, true, true, true, true, true, true, false, true, true, false, false, false]) (by decide +kernel) (by decide +kernel)
    refine AW.seqs (fuel := 0) (listed' := #[true, true, true, true, true, true, true, true, true, true, true, true, true, true, true, true, true, true]) [12, 15, 16, 17] ?_ (by decide +kernel)
    refine AW.gg ?_
    refine AW.anyDone (by decide +kernel) ?_
    refine AW.go ?_
    refine AW.finE (.pv _ .nil) rfl
  · simp only [winV, fitsW]
    refine AW.go ?_
    refine AW.any0 mixed ?_
    refine via (T := ?T2) (fun hT => ?_) ?_
    rotate_left
    · refine AW.branch (rs := [0, 1]) ?_ (by decide +kernel) (by simp)
      intro j hj
      simp only [List.mem_cons, List.not_mem_nil, or_false] at hj
      rcases hj with rfl | rfl
      · refine AW.go ?_
        refine AW.seqs (fuel := 16) (listed' := #[true, true, false, false, false, false, false, false, false, false, false, false, false, false, false, false, false, false]) [1] ?_ (by decide +kernel)
        refine AW.go ?_
        refine AW.callE (fun _ => 0) none_fn .nil ?_
        refine AW.go ?_
        refine AW.keepB [2, 4, 5, 6, 1] [2] (by simp only [go_sem, ↓reduceIte]) (by simp only [go_sem, ↓reduceIte] <;> rfl) ?_
        exact hT ()
      · refine AW.go ?_
        refine AW.callE (fun _ => 0) none_fn .nil ?_
        refine AW.go ?_
        refine AW.seqs (fuel := 16) (listed' := #[true, true, false, false, false, false, false, false, false, false, false, false, false, false, false, false, false, false]) [0] ?_ (by decide +kernel)
        refine AW.go ?_
        refine AW.keepB [2, 4, 5, 6, 1] [2] (by simp only [go_sem, ↓reduceIte]) (by simp only [go_sem, ↓reduceIte] <;> rfl) ?_
        exact hT ()
    have hne : (!((l : Int) == -1 && (t : Int) == 0)) = true := by simp
    refine AW.seqs (fuel := 14) (listed' := #[true, true, true, true, false, false, false, false, false, false, false, false, false, false, false, false, false, false]) [2, 3] ?_ (by decide +kernel)
    refine AW.go ?_
    refine AW.neq2 (ho := rfl) eqWin rfl rfl ?_
    rw [hne]
    refine AW.gg ?_
    refine AW.takes (fuel := 12) [4, 6] ?_ (by simp only [go_sem, ↓reduceIte] <;> rfl) Ends.noPanic (listed' := #[true, true, true, true, true, false, true, false, false, false, false, false, false, false, false, false, false, false]) (by decide +kernel) (by decide +kernel)
    refine via (T := ?T3) (fun hT => ?_) ?_
    rotate_left
    · refine AW.branch (fuel := 11) (rs := [5, 7]) ?_ (by decide +kernel) (by simp)
      intro j hj
      simp only [List.mem_cons, List.not_mem_nil, or_false] at hj
      rcases hj with rfl | rfl
      · refine AW.gg ?_
        refine AW.guardT rfl rfl ?_
        refine AW.callE (fun _ => 0) (lz_fn v hv) (.pv _ .nil) ?_
        refine AW.go ?_
        refine AW.seqs (fuel := 10) (listed' := #[true, true, true, true, true, true, true, true, false, false, false, false, false, false, false, false, false, false]) [7] ?_ (by decide +kernel)
        refine AW.gg ?_
        refine AW.keepB [2, 4, 8, 10, 12, 1] [2] (by simp only [go_sem, ↓reduceIte]) (by simp only [go_sem, ↓reduceIte] <;> rfl) ?_
        exact hT ()
      · refine AW.gg ?_
        refine AW.seqs (fuel := 10) (listed' := #[true, true, true, true, true, true, true, true, false, false, false, false, false, false, false, false, false, false]) [5] ?_ (by decide +kernel)
        refine AW.gg ?_
        refine AW.guardT rfl rfl ?_
        refine AW.callE (fun _ => 0) (lz_fn v hv) (.pv _ .nil) ?_
        refine AW.gg ?_
        refine AW.keepB [2, 4, 8, 10, 12, 1] [2] (by simp only [go_sem, ↓reduceIte]) (by simp only [go_sem, ↓reduceIte] <;> rfl) ?_
        exact hT ()
    have hge : decide (((64 - blen v : Nat) : Int) ≥ (l : Int)) = decide (l ≤ 64 - blen v) := by rw [Bool.eq_iff_iff]; simp
    refine AW.seqs (fuel := 7) (listed' := #[true, true, true, true, true, true, true, true, true, true, true, false, false, false, false, false, false, false]) [8, 9, 10] ?_ (by decide +kernel)
    by_cases hl : l ≤ 64 - blen v
    · have hl2 : decide (l ≤ 64 - blen v) = true := decide_eq_true hl
      rw [hl2] at hge ⊢
      refine AW.gg ?_ (by simp only [go_sem, ↓reduceIte, hl2] <;> rfl)
      refine AW.takes (fuel := 5) [11, 13] ?_ (by simp only [go_sem, ↓reduceIte] <;> rfl) Ends.noPanic (listed' := #[true, true, true, true, true, true, true, true, true, true, true, true, false, true, false, false, false, false]) (by decide +kernel) (by decide +kernel)
      refine via (T := ?T8) (fun hT => ?_) ?_
      rotate_left
      · refine AW.branch (fuel := 4) (rs := [12, 14]) ?_ (by decide +kernel) (by simp)
        intro j hj
        simp only [List.mem_cons, List.not_mem_nil, or_false] at hj
        rcases hj with rfl | rfl
        · refine AW.gg ?_
          refine AW.guardT rfl rfl ?_
          refine AW.callE (fun _ => 0) ht (.pv _ .nil) ?_
          refine AW.go ?_
          refine AW.seqs (fuel := 3) (listed' := #[true, true, true, true, true, true, true, true, true, true, true, true, true, true, true, false, false, false]) [14] ?_ (by decide +kernel)
          refine AW.gg ?_
          refine AW.keepB [4, 15, 17, 19] [] (by simp only [go_sem, ↓reduceIte]) (by simp only [go_sem, ↓reduceIte] <;> rfl) ?_
          exact hT ()
        · refine AW.gg ?_
          refine AW.seqs (fuel := 3) (listed' := #[true, true, true, true, true, true, true, true, true, true, true, true, true, true, true, false, false, false]) [12] ?_ (by decide +kernel)
          refine AW.gg ?_
          refine AW.guardT rfl rfl ?_
          refine AW.callE (fun _ => 0) ht (.pv _ .nil) ?_
          refine AW.gg ?_
          refine AW.keepB [4, 15, 17, 19] [] (by simp only [go_sem, ↓reduceIte]) (by simp only [go_sem, ↓reduceIte] <;> rfl) ?_
          exact hT ()
      refine AW.seqs (fuel := 0) (listed' := #[true, true, true, true, true, true, true, true, true, true, true, true, true, true, true, true, true, true]) [15, 16, 17] ?_ (by decide +kernel)
      have hge2 : decide (((tzn v : Nat) : Int) ≥ (t : Int)) = decide (t ≤ tzn v) := by rw [Bool.eq_iff_iff]; simp
      refine AW.gg ?_
      refine AW.anyDone (by decide +kernel) ?_
      refine AW.go ?_
      refine AW.finE (.pv _ .nil) ?_
      simp
    · have hl2 : decide (l ≤ 64 - blen v) = false := decide_eq_false hl
      rw [hl2] at hge ⊢
      refine AW.gg ?_ (by simp only [go_sem, ↓reduceIte, hl2] <;> rfl)
      refine AW.takes (fuel := 4) [11, 13, 14] ?_ (by simp only [go_sem, ↓reduceIte] <;> rfl) Ends.noPanic (listed' := #[true, true, true, true, true, true, true, true, true, true, true, true, false, true, true, false, false, false]) (by decide +kernel) (by decide +kernel)
      refine AW.seqs (fuel := 0) (listed' := #[true, true, true, true, true, true, true, true, true, true, true, true, true, true, true, true, true, true]) [12, 15, 16, 17] ?_ (by decide +kernel)
      refine AW.gg ?_
      refine AW.anyDone (by decide +kernel) ?_
      refine AW.go ?_
      refine AW.finE (.pv _ .nil) rfl
end Go.Ck

set_option linter.unusedVariables false
set_option maxRecDepth 10000
set_option maxHeartbeats 1000000
namespace Go.Ck
open Go.Proofs
def winA : Option (Nat × Nat) → Int
  | none => -1
  | some (l, _) => l
def winB : Option (Nat × Nat) → Int
  | none => -1
  | some (_, t) => t
theorem prevOf {xs : List Nat} {i : Nat} (h : i < xs.length) (h0 : i ≠ 0) : (gF (xs.take i)).2.2 = some (xs.getD (i - 1) 0) := by
  rw [gF_last, List.getLast?_eq_getElem?, List.length_take, List.getElem?_take, List.getD_eq_getElem?_getD]
  rw [show min i xs.length = i by omega, if_pos (by omega), List.getElem?_eq_getElem (by omega)]
  rfl

theorem ref09Enc_fn (xs : List Nat) (hx : ∀ x ∈ xs, x < 2 ^ 64) : Fn Tryz.prog 73 [] [.pv (.sl 1 (u64s xs))]
    (fun rs H' => rs = [.own 5 (bytes (if xs.length ≤ 65536 then enc09 xs else [])), .pv (.int .i64 (if xs.length ≤ 65536 then 0 else 4))] ∧ H' = []) := by
  refine Fn.of_body (fn := Tryz.f73) (n := 95) (res := [.tmp 2, .tmp 3]) (by kernel_rfl) rfl rfl rfl rfl rfl (fun C => ?_)
  have hr : room = 140737488355328 := rfl
  refine AW.go ?_
  refine AW.cond rfl (fun hc => ?_) (fun hc => ?_)
  · have hle : ¬ xs.length ≤ 65536 := by simp at hc; omega
    simp only [if_neg hle]
    refine AW.go ?_
    refine AW.finE (.move rfl (.pv _ .nil)) rfl
  have hle : xs.length ≤ 65536 := by simp at hc; omega
  simp only [if_pos hle]
  refine AW.go ?_
  refine AW.loopS (fun i : Nat => ⟨95, [(7, .pv (.int .i64 i)), (4, .own 3 (nis (gF (xs.take i)).1)), (5, .pv (.int .i64 (winA (gF (xs.take i)).2.1))), (6, .pv (.int .i64 (winB (gF (xs.take i)).2.1))), (0, .pv (.sl 1 (u64s xs)))], []⟩) (fun i => i ≤ xs.length) (fun i => xs.length - i) [7, 4, 5, 6, 0] [] 0 (Nat.zero_le _) ?_
  rintro i hi K hK
  refine AW.go ?_
  refine AW.cond rfl (fun hc => ?_) (fun hc => ?_)
  · have hlt : i < xs.length := by simpa using hc
    have hget := u64s_get hlt
    have hxx := hx _ (List.getElem_mem hlt)
    have hti : xs.take (i + 1) = xs.take i ++ [xs[i]] := by simp
    have hsn := gF_snoc (xs.take i) xs[i]
    rw [← hti] at hsn
    have ei : IntKind.i64.wrap ((i : Int) + 1) = ((i + 1 : Nat) : Int) := wrap_i64_succ (by omega)
    have hgl := gF_len (xs.take i)
    have htl : (xs.take i).length = i := by simp; omega
    have hok := gF_ok (xs.take i) (fun x h => hx x (List.mem_of_mem_take h))
    by_cases h0 : i = 0
    · subst h0
      generalize xs[0] = x at *
      have hg0 : gF (xs.take (0 + 1)) = (binB x 64, none, some x) := by rw [hsn]; rfl
      refine AW.go ?_
      refine AW.condT rfl ?_
      refine AW.go ?_ (by simp only [go_sem, ↓reduceIte, hget] <;> rfl)
      refine AW.callE (fun _ => 0) (put09_fn [] x 64 (by omega) hxx (by simp; omega)) (.nilsP 1 (.pv _ (.pv _ .nil))) ?_
      refine AW.go ?_ (by simp only [go_sem, ↓reduceIte, List.nil_append, ei] <;> rfl)
      refine AW.again hK (0 + 1) hlt (by omega) (by simp only [go_sem, ↓reduceIte]) (by simp only [go_sem, ↓reduceIte, hg0] <;> rfl)
    have hi1 : i - 1 < xs.length := by omega
    have hget1 := u64s_get hi1
    have hxx1 := hx _ (List.getElem_mem hi1)
    have hpr := prevOf hlt h0
    rw [← getD_get hi1] at hpr
    generalize xs[i] = x at *
    generalize xs[i - 1] = p at *
    have hgs : gS (gF (xs.take i)) x = ((gF (xs.take i)).1 ++ (gStep (gF (xs.take i)).2.1 (x ^^^ p)).1, (gStep (gF (xs.take i)).2.1 (x ^^^ p)).2, some x) := by rw [gS, hpr]
    rw [hgs] at hsn
    have hxo : x ^^^ p < 2 ^ 64 := Nat.xor_lt_two_pow hxx hxx1
    have ex := ibits_xor64 hxx hxx1
    have e0 : ((i : Int) == 0) = false := by simp; omega
    have e1 : IntKind.i64.wrap ((i : Int) - 1) = ((i - 1 : Nat) : Int) := by rw [wrap_i64_of (by omega) (by omega)]; omega
    generalize x ^^^ p = y at *
    generalize gF (xs.take i) = g at *
    obtain ⟨bs, wn, pv⟩ := g
    simp only at hsn hgl hok hpr ⊢
    refine AW.go ?_
    refine AW.condF (by rw [← e0]; rfl) ?_
    refine AW.go ?_
    refine AW.sr mixed (by decide +kernel) ?_ (by simp only [go_sem, ↓reduceIte, hget, hget1, e1, ex] <;> rfl)
    refine AW.go ?_
    refine AW.cond rfl (fun hc2 => ?_) (fun hc2 => ?_)
    · have hy : y = 0 := by simp at hc2; omega
      subst hy
      rw [gStep_zero] at hsn
      have h1 : (bs.length + 1) * 8 ≤ room := by omega
      have h2 : bs.length + 1 ≤ room := by omega
      have n00 : [PV.int .i64 0] = nis [0] := rfl
      refine AW.go ?_ (by simp only [go_sem, ↓reduceIte, h1, h2, ei] <;> rfl)
      refine AW.again hK (i + 1) hlt (by omega) (by simp only [go_sem, ↓reduceIte]) (by simp only [go_sem, ↓reduceIte, hsn, n00] <;> rfl)
    have hy : y ≠ 0 := by simp at hc2; omega
    have hb64 := blen_le.2 hxo
    have e64 : IntKind.i64.wrap (64 - ((blen y : Nat) : Int)) = ((64 - blen y : Nat) : Int) := by rw [wrap_i64_of (by omega) (by omega)]; omega
    cases hf : fitsW wn y with
    | true =>
      rcases wn with _ | ⟨l, t⟩
      · cases hf
      rw [gStep_fits hy hf] at hsn
      simp only [fitsW, Bool.and_eq_true] at hf
      obtain ⟨hf1, hf2⟩ := hf
      have hlt64 : l + t ≤ 63 := (hok l t rfl).1
      have hl1 : l ≤ 64 - blen y := by simpa using hf1
      have hfit := fit_lt hxo hl1 hlt64
      have hw : decide ((l : Int) ≥ 0) = true := by simp
      have ht2 : decide (((tzn y : Nat) : Int) ≥ (t : Int)) = true := by simp at hf2 ⊢; omega
      have hl2 : decide (((64 - blen y : Nat) : Int) ≥ (l : Int)) = true := by simp; omega
      refine AW.gg ?_ (by simp only [go_sem, ↓reduceIte, winA, hw] <;> rfl)
      refine AW.guardT rfl rfl ?_
      refine AW.callE (fun _ => 0) (refWidth_fn y hxo) (.pv _ .nil) ?_
      refine AW.gg ?_ (by simp only [go_sem, ↓reduceIte, winA, e64, hf1] <;> rfl)
      refine AW.guardT rfl rfl ?_
      refine AW.callE (fun _ => 0) (trail_fn y hy hxo) (.pv _ .nil) ?_
      refine AW.gg ?_ (by simp only [go_sem, ↓reduceIte, winB, hf2] <;> rfl)
      refine AW.condT rfl ?_
      have eut : IntKind.u64.wrap ((t : Nat) : Int) = (t : Nat) := wrap_u64_lt (by omega)
      have esh : shrI .u64 ((y : Nat) : Int) ((t : Nat) : Int) = ((y / 2 ^ t : Nat) : Int) := shrI_nat .u64 y t (by show t ≤ 64; omega)
      have ewd : IntKind.i64.wrap (IntKind.i64.wrap (64 - (l : Int)) - (t : Int)) = ((64 - l - t : Nat) : Int) := by
        rw [wrap_i64_of (n := 64 - (l : Int)) (by omega) (by omega), wrap_i64_of (by omega) (by omega)]; omega
      refine AW.go ?_ (by simp only [go_sem, ↓reduceIte, winA, winB, eut, esh, ewd] <;> rfl)
      have hput := put09_fn [1, 0] (y / 2 ^ t) (64 - l - t) (by omega) hfit (by simp; omega)
      have hql : ([1, 0] ++ binB (y / 2 ^ t) (64 - l - t)).length ≤ 77 := by simp [binB_len]; omega
      generalize [1, 0] ++ binB (y / 2 ^ t) (64 - l - t) = q at hput hql hsn
      refine AW.callE (fun _ => 0) hput (.lend rfl co_3 (.pv _ (.pv _ .nil))) ?_
      have h1 : (bs.length + q.length) * 8 ≤ room := by omega
      have h2 : bs.length + q.length ≤ room := by omega
      refine AW.go ?_ (by simp only [go_sem, ↓reduceIte, h1, h2, ei] <;> rfl)
      refine AW.again hK (i + 1) hlt (by omega) (by simp only [go_sem, ↓reduceIte]) (by simp only [go_sem, ↓reduceIte, hsn, winA, winB] <;> rfl)
    | false =>
      rw [gStep_new hy hf] at hsn
      obtain ⟨hn1, hn2⟩ := newW_ok hy hxo
      have hfit := fit_lt hxo (newW_fits (x := y)).1 hn1
      refine via (T := ?T1) (fun hT => ?_) ?_
      rotate_left
      · rcases wn with _ | ⟨l, t⟩
        · have hw : decide (winA none ≥ 0) = false := by decide
          refine AW.gg ?_ (by simp only [go_sem, ↓reduceIte, hw] <;> rfl)
          refine AW.condF rfl ?_
          refine AW.keepB [9, 7, 4, 0, 8] [] (by simp only [go_sem, ↓reduceIte]) (by simp only [go_sem, ↓reduceIte] <;> rfl) ?_
          exact hT ()
        · simp only [fitsW] at hf
          have hw : decide ((l : Int) ≥ 0) = true := by simp
          refine AW.gg ?_ (by simp only [go_sem, ↓reduceIte, winA, hw] <;> rfl)
          refine AW.guardT rfl rfl ?_
          refine AW.callE (fun _ => 0) (refWidth_fn y hxo) (.pv _ .nil) ?_
          by_cases hl : l ≤ 64 - blen y
          · have hf1 : decide (l ≤ 64 - blen y) = true := decide_eq_true hl
            have hf2 : decide (t ≤ tzn y) = false := by rw [hf1] at hf; simpa using hf
            refine AW.gg ?_ (by simp only [go_sem, ↓reduceIte, winA, e64, hf1] <;> rfl)
            refine AW.guardT rfl rfl ?_
            refine AW.callE (fun _ => 0) (trail_fn y hy hxo) (.pv _ .nil) ?_
            refine AW.gg ?_ (by simp only [go_sem, ↓reduceIte, winB, hf2] <;> rfl)
            refine AW.condF rfl ?_
            refine AW.keepB [9, 7, 4, 0, 8] [] (by simp only [go_sem, ↓reduceIte]) (by simp only [go_sem, ↓reduceIte] <;> rfl) ?_
            exact hT ()
          · have hf1 : decide (l ≤ 64 - blen y) = false := decide_eq_false hl
            refine AW.gg ?_ (by simp only [go_sem, ↓reduceIte, winA, e64, hf1] <;> rfl)
            refine AW.condF rfl ?_
            refine AW.keepB [9, 7, 4, 0, 8] [] (by simp only [go_sem, ↓reduceIte]) (by simp only [go_sem, ↓reduceIte] <;> rfl) ?_
            exact hT ()
      refine AW.go ?_
      refine AW.callE (fun _ => 0) (lead_fn y hxo) (.pv _ .nil) ?_
      refine AW.go ?_
      refine AW.callE (fun _ => 0) (trail_fn y hy hxo) (.pv _ .nil) ?_
      have hN1 : min (64 - blen y) 31 = (newW y).1 := rfl
      have hN2 : tzn y = (newW y).2 := rfl
      rw [hN1, hN2]
      generalize newW y = nw at *
      obtain ⟨l, t⟩ := nw
      simp only at hn1 hn2 hfit hsn ⊢
      have eul : IntKind.u64.wrap ((l : Nat) : Int) = (l : Nat) := wrap_u64_lt (by omega)
      have eut : IntKind.u64.wrap ((t : Nat) : Int) = (t : Nat) := wrap_u64_lt (by omega)
      have esh : shrI .u64 ((y : Nat) : Int) ((t : Nat) : Int) = ((y / 2 ^ t : Nat) : Int) := shrI_nat .u64 y t (by show t ≤ 64; omega)
      have ewd : IntKind.i64.wrap (IntKind.i64.wrap (64 - (l : Int)) - (t : Int)) = ((64 - l - t : Nat) : Int) := by
        rw [wrap_i64_of (n := 64 - (l : Int)) (by omega) (by omega), wrap_i64_of (by omega) (by omega)]; omega
      have ew3 : IntKind.u64.wrap (IntKind.i64.wrap (IntKind.i64.wrap (63 - (l : Int)) - (t : Int))) = ((63 - l - t : Nat) : Int) := by
        rw [wrap_i64_of (n := 63 - (l : Int)) (by omega) (by omega), wrap_i64_of (by omega) (by omega)]
        rw [show (63 : Int) - l - t = ((63 - l - t : Nat) : Int) by omega]; exact wrap_u64_lt (by omega)
      have hput1 := put09_fn [1, 1] l 5 (by omega) (by omega) (by simp; omega)
      have hput2 := put09_fn ([1, 1] ++ binB l 5) (63 - l - t) 6 (by omega) (by omega) (by simp [binB_len]; omega)
      have hput3 := put09_fn ([1, 1] ++ binB l 5 ++ binB (63 - l - t) 6) (y / 2 ^ t) (64 - l - t) (by omega) hfit (by simp [binB_len]; omega)
      have hql : ([1, 1] ++ binB l 5 ++ binB (63 - l - t) 6 ++ binB (y / 2 ^ t) (64 - l - t)).length ≤ 77 := by simp [binB_len]; omega
      generalize [1, 1] ++ binB l 5 = q1 at hput1 hput2 hput3 hql hsn
      generalize q1 ++ binB (63 - l - t) 6 = q2 at hput2 hput3 hql hsn
      generalize q2 ++ binB (y / 2 ^ t) (64 - l - t) = q at hput3 hql hsn
      refine AW.go ?_ (by simp only [go_sem, ↓reduceIte, eul] <;> rfl)
      refine AW.callE (fun _ => 0) hput1 (.lend rfl co_3 (.pv _ (.pv _ .nil))) ?_
      refine AW.go ?_ (by simp only [go_sem, ↓reduceIte, ew3] <;> rfl)
      refine AW.callE (fun _ => 0) hput2 (.lend rfl co_3 (.pv _ (.pv _ .nil))) ?_
      refine AW.go ?_ (by simp only [go_sem, ↓reduceIte, eut, esh, ewd] <;> rfl)
      refine AW.callE (fun _ => 0) hput3 (.lend rfl co_3 (.pv _ (.pv _ .nil))) ?_
      have h1 : (bs.length + q.length) * 8 ≤ room := by omega
      have h2 : bs.length + q.length ≤ room := by omega
      refine AW.go ?_ (by simp only [go_sem, ↓reduceIte, h1, h2, ei] <;> rfl)
      refine AW.again hK (i + 1) hlt (by omega) (by simp only [go_sem, ↓reduceIte]) (by simp only [go_sem, ↓reduceIte, hsn, winA, winB] <;> rfl)
  · have hge : ¬ i < xs.length := by simpa using hc
    rw [List.take_of_length_le (by omega)]
    have hgl := gF_len xs
    refine AW.go ?_
    refine AW.callE (fun _ => 0) (refBits_fn (gF xs).1 (by omega) (gF_bit xs)) (.lend rfl co_3 .nil) ?_
    refine AW.go ?_
    refine AW.finE (.move rfl (.pv _ .nil)) rfl
end Go.Ck

set_option linter.unusedVariables false
set_option maxRecDepth 10000
set_option maxHeartbeats 1000000
namespace Go.Ck
open Go.Proofs
def gwB : Option (Nat × Nat) → Int
  | none => 0
  | some (_, t) => t
theorem winV_eq (wn : Option (Nat × Nat)) : winV wn = .agg [.int .i64 (winA wn), .int .i64 (gwB wn)] := by
  rcases wn with _ | ⟨l, t⟩ <;> rfl

theorem gorEnc_fn (xs : List Nat) (hx : ∀ x ∈ xs, x < 2 ^ 64) : Fn Tryz.prog 93 [] [.pv (.sl 1 (u64s xs))]
    (fun rs H' => rs = [.own 5 (bytes (if xs.length ≤ 65536 then enc09 xs else [])), .pv (.int .i64 (if xs.length ≤ 65536 then 0 else 4))] ∧ H' = []) := by
  refine Fn.of_body (fn := Tryz.f93) (n := 71) (res := [.tmp 2, .tmp 3]) (by kernel_rfl) rfl rfl rfl rfl rfl (fun C => ?_)
  have hr : room = 140737488355328 := rfl
  refine AW.go ?_
  refine AW.cond rfl (fun hc => ?_) (fun hc => ?_)
  · have hle : ¬ xs.length ≤ 65536 := by simp at hc; omega
    simp only [if_neg hle]
    refine AW.go ?_
    refine AW.finE (.move rfl (.pv _ .nil)) rfl
  have hle : xs.length ≤ 65536 := by simp at hc; omega
  simp only [if_pos hle]
  refine AW.go ?_
  refine AW.callE (fun _ => 0) none_fn .nil ?_
  refine AW.go ?_
  refine AW.nilsOwnAt (.cell 13 0) 5 ?_
  refine AW.loopS (fun i : Nat => ⟨71, [(17, .pv (.int .i64 i)), (16, .pv (.int .i64 xs.length)), (15, .pv (.sl 1 (u64s xs))), (4, .ptr 13 0), (5, .ptr 5 0), (0, .pv (.sl 1 (u64s xs)))], [(13, .cells 126 [.own 5 (bytes (pk (gF (xs.take i)).1)), .pv (.int .i64 (gF (xs.take i)).1.length)]), (5, .cells 109 [.pv (.int .i64 (winA (gF (xs.take i)).2.1)), .pv (.int .i64 (gwB (gF (xs.take i)).2.1))])]⟩) (fun i => i ≤ xs.length) (fun i => xs.length - i) [17, 16, 15, 4, 5, 0] [13, 5] 0 (Nat.zero_le _) ?_
  rintro i hi K hK
  refine AW.go ?_
  refine AW.cond rfl (fun hc => ?_) (fun hc => ?_)
  · have hlt : i < xs.length := by simpa using hc
    have hget := u64s_get hlt
    have hxx := hx _ (List.getElem_mem hlt)
    have hti : xs.take (i + 1) = xs.take i ++ [xs[i]] := by simp
    have hsn := gF_snoc (xs.take i) xs[i]
    rw [← hti] at hsn
    have ei : IntKind.i64.wrap ((i : Int) + 1) = ((i + 1 : Nat) : Int) := wrap_i64_succ (by omega)
    have hgl := gF_len (xs.take i)
    have htl : (xs.take i).length = i := by simp; omega
    have hok := gF_ok (xs.take i) (fun x h => hx x (List.mem_of_mem_take h))
    have hbit := gF_bit (xs.take i)
    by_cases h0 : i = 0
    · subst h0
      generalize xs[0] = x at *
      have hg0 : gF (xs.take (0 + 1)) = (binB x 64, none, some x) := by rw [hsn]; rfl
      rw [show gF (xs.take 0) = ([], none, none) from rfl]
      refine AW.go ?_ (by simp only [go_sem, ↓reduceIte, hget] <;> rfl)
      refine AW.condT rfl ?_
      refine AW.go ?_
      refine AW.callE (fun _ => 13) (wrPut_fn [] x 64 (by simp) (by omega) hxx (by simp; omega)) (.ptr rfl (.pv _ (.pv _ .nil))) ?_
      refine AW.go ?_ (by simp only [go_sem, ↓reduceIte, List.nil_append, ei] <;> rfl)
      refine AW.again hK (0 + 1) hlt (by omega) (by simp only [go_sem, ↓reduceIte]) (by simp only [go_sem, ↓reduceIte, hg0, winA, gwB] <;> rfl)
    have hi1 : i - 1 < xs.length := by omega
    have hget1 := u64s_get hi1
    have hxx1 := hx _ (List.getElem_mem hi1)
    have hpr := prevOf hlt h0
    rw [← getD_get hi1] at hpr
    generalize xs[i] = x at *
    generalize xs[i - 1] = p at *
    have hgs : gS (gF (xs.take i)) x = ((gF (xs.take i)).1 ++ (gStep (gF (xs.take i)).2.1 (x ^^^ p)).1, (gStep (gF (xs.take i)).2.1 (x ^^^ p)).2, some x) := by rw [gS, hpr]
    rw [hgs] at hsn
    have hxo : x ^^^ p < 2 ^ 64 := Nat.xor_lt_two_pow hxx hxx1
    have ex := ibits_xor64 hxx hxx1
    have e0 : ((i : Int) == 0) = false := by simp; omega
    have e1 : IntKind.i64.wrap ((i : Int) - 1) = ((i - 1 : Nat) : Int) := by rw [wrap_i64_of (by omega) (by omega)]; omega
    clear hgs
    generalize x ^^^ p = y at *
    generalize gF (xs.take i) = g at *
    obtain ⟨bs, wn, pv⟩ := g
    simp only at hsn hgl hok hpr hbit ⊢
    refine AW.go ?_ (by simp only [go_sem, ↓reduceIte, hget] <;> rfl)
    refine AW.condF (by rw [← e0]; rfl) ?_
    refine AW.go ?_ (by simp only [go_sem, ↓reduceIte, hget1, e1, ex] <;> rfl)
    refine AW.joinS (fun a : Nat × Nat × List Nat => ⟨71, [(17, .pv (.int .i64 i)), (16, .pv (.int .i64 xs.length)), (15, .pv (.sl 1 (u64s xs))), (4, .ptr 13 0), (5, .ptr 5 0), (0, .pv (.sl 1 (u64s xs))), (8, .pv (.int .u64 y))], [(13, .cells 126 [.own 5 (bytes (pk a.2.2)), .pv (.int .i64 a.2.2.length)]), (5, .cells 109 [.pv (.int .i64 a.1), .pv (.int .i64 a.2.1)])]⟩)
      (fun a => a.1 + a.2.1 ≤ 63 ∧ a.1 ≤ 64 - blen y ∧ gF (xs.take (i + 1)) = (a.2.2 ++ binB (y / 2 ^ a.2.1) (64 - a.1 - a.2.1), some (a.1, a.2.1), some x) ∧ a.2.2.length ≤ bs.length + 13 ∧ ∀ z ∈ a.2.2, z < 2) [17, 16, 15, 4, 5, 0, 8] [13, 5] ?_ ?_
    · intro K' hK'
      refine AW.cond rfl (fun hc2 => ?_) (fun hc2 => ?_)
      · have hy : y = 0 := by simp at hc2; omega
        subst hy
        rw [gStep_zero] at hsn
        refine AW.go ?_
        refine AW.callE (fun _ => 13) (wrPut_fn bs 0 1 hbit (by omega) (by omega) (by omega)) (.ptr rfl (.pv _ (.pv _ .nil))) ?_
        have hb01 : binB 0 1 = [0] := rfl
        refine AW.go ?_ (by simp only [go_sem, ↓reduceIte, hb01, ei] <;> rfl)
        refine AW.again hK (i + 1) hlt (by omega) (by simp only [go_sem, ↓reduceIte]) (by simp only [go_sem, ↓reduceIte, hsn] <;> rfl)
      have hy : y ≠ 0 := by simp at hc2; omega
      have hfits := fits_fn wn y hy hxo
      rw [winV_eq] at hfits
      refine AW.go ?_
      refine AW.callE (fun _ => 0) hfits (.pv _ (.pv _ .nil)) ?_
      refine AW.go ?_
      refine AW.cond rfl (fun hf => ?_) (fun hf => ?_)
      · rcases wn with _ | ⟨l, t⟩
        · cases hf
        rw [gStep_fits hy hf] at hsn
        simp only [fitsW, Bool.and_eq_true] at hf
        obtain ⟨hf1, hf2⟩ := hf
        have hl1 : l ≤ 64 - blen y := by simpa using hf1
        refine AW.go ?_
        refine AW.callE (fun _ => 13) (wrPut_fn bs 2 2 hbit (by omega) (by omega) (by omega)) (.ptr rfl (.pv _ (.pv _ .nil))) ?_
        refine AW.go ?_
        refine AW.meet hK' (l, t, bs ++ binB 2 2) ⟨(hok l t rfl).1, hl1, ?_, by simp [binB_len], ?_⟩
        · simp only [hsn, Prod.mk.injEq, and_true]
          rw [List.append_assoc]; rfl
        · intro z hz
          simp only [List.mem_append] at hz
          rcases hz with hz | hz
          · exact hbit z hz
          · exact binB_bit _ _ z hz
      · rw [gStep_new hy hf] at hsn
        obtain ⟨hn1, hn2⟩ := newW_ok hy hxo
        have hn3 := (newW_fits (x := y)).1
        have hof := of_fn y hy hxo
        have hN : (min (64 - blen y) 31, tzn y) = newW y := rfl
        have hN1 : min (64 - blen y) 31 = (newW y).1 := rfl
        have hN2 : tzn y = (newW y).2 := rfl
        rw [hN1, hN2] at hof
        generalize newW y = nw at *
        obtain ⟨l, t⟩ := nw
        simp only at hn1 hn2 hn3 hsn hof
        have eul : IntKind.u64.wrap ((l : Nat) : Int) = (l : Nat) := wrap_u64_lt (by omega)
        have e63 : IntKind.u64.wrap (IntKind.i64.wrap (((64 - l - t : Nat) : Int) - 1)) = ((63 - l - t : Nat) : Int) := by
          rw [wrap_i64_of (by omega) (by omega), show ((64 - l - t : Nat) : Int) - 1 = ((63 - l - t : Nat) : Int) by omega]; exact wrap_u64_lt (by omega)
        refine AW.go ?_
        refine AW.callE (fun _ => 0) hof (.pv _ .nil) ?_
        refine AW.go ?_
        refine AW.callE (fun _ => 13) (wrPut_fn bs 3 2 hbit (by omega) (by omega) (by omega)) (.ptr rfl (.pv _ (.pv _ .nil))) ?_
        have hb1 : ∀ z ∈ bs ++ binB 3 2, z < 2 := fun z hz => (List.mem_append.1 hz).elim (hbit z) (binB_bit _ _ z)
        refine AW.go ?_ (by simp only [go_sem, ↓reduceIte, eul] <;> rfl)
        refine AW.callE (fun _ => 13) (wrPut_fn (bs ++ binB 3 2) l 5 hb1 (by omega) (by omega) (by simp [binB_len]; omega)) (.ptr rfl (.pv _ (.pv _ .nil))) ?_
        have hb2 : ∀ z ∈ bs ++ binB 3 2 ++ binB l 5, z < 2 := fun z hz => (List.mem_append.1 hz).elim (hb1 z) (binB_bit _ _ z)
        refine AW.go ?_
        refine AW.callE (fun _ => 0) (rest_fn l t (by omega)) (.pv _ .nil) ?_
        refine AW.go ?_ (by simp only [go_sem, ↓reduceIte, e63] <;> rfl)
        refine AW.callE (fun _ => 13) (wrPut_fn (bs ++ binB 3 2 ++ binB l 5) (63 - l - t) 6 hb2 (by omega) (by omega) (by simp [binB_len]; omega)) (.ptr rfl (.pv _ (.pv _ .nil))) ?_
        refine AW.go ?_
        refine AW.meet hK' (l, t, bs ++ binB 3 2 ++ binB l 5 ++ binB (63 - l - t) 6) ⟨hn1, hn3, ?_, by simp [binB_len], fun z hz => (List.mem_append.1 hz).elim (hb2 z) (binB_bit _ _ z)⟩
        simp only [hsn, Prod.mk.injEq, and_true]
        simp only [List.append_assoc]; rfl
    · rintro ⟨l, t, b2⟩ ⟨j1, j2, j3, j4, j5⟩
      simp only at j1 j2 j3 j4 j5 ⊢
      have hfit := fit_lt hxo j2 j1
      have esh : shrI .u64 ((y : Nat) : Int) ((t : Nat) : Int) = ((y / 2 ^ t : Nat) : Int) := shrI_nat .u64 y t (by show t ≤ 64; omega)
      refine AW.go ?_
      refine AW.any0 mixed ?_
      refine AW.takes (fuel := 5) [0, 1, 2] ?_ (by simp only [go_sem, ↓reduceIte] <;> rfl) Ends.noPanic (listed' := #[true, true, true, false, false, false, false, false]) (by decide +kernel) (by decide +kernel)
      refine via (T := ?T1) (fun hT => ?_) ?_
      rotate_left
      · refine AW.branch (fuel := 4) (rs := [3, 5]) ?_ (by decide +kernel) (by simp)
        intro j hj
        simp only [List.mem_cons, List.not_mem_nil, or_false] at hj
        rcases hj with rfl | rfl
        · refine AW.go ?_
          refine AW.takes (fuel := 3) [4] ?_ (by simp only [go_sem, ↓reduceIte, esh] <;> rfl) Ends.noPanic (listed' := #[true, true, true, true, true, false, false, false]) (by decide +kernel) (by decide +kernel)
          refine AW.seqs (fuel := 1) (listed' := #[true, true, true, true, true, true, true, false]) [5, 6] ?_ (by decide +kernel)
          refine AW.go ?_
          refine AW.callE (fun _ => 0) (rest_fn l t (by omega)) (.pv _ .nil) ?_
          refine AW.go ?_
          refine AW.keepB [17, 16, 15, 4, 5, 0, 60, 64, 66] [13, 5] (by simp only [go_sem, ↓reduceIte]) (by simp only [go_sem, ↓reduceIte] <;> rfl) ?_
          exact hT ()
        · refine AW.go ?_
          refine AW.branch (fuel := 3) (rs := [3, 6]) ?_ (by decide +kernel) (by simp)
          intro j hj
          simp only [List.mem_cons, List.not_mem_nil, or_false] at hj
          rcases hj with rfl | rfl
          · refine AW.go ?_
            refine AW.takes (fuel := 2) [4] ?_ (by simp only [go_sem, ↓reduceIte, esh] <;> rfl) Ends.noPanic (listed' := #[true, true, true, true, true, true, false, false]) (by decide +kernel) (by decide +kernel)
            refine AW.seqs (fuel := 1) (listed' := #[true, true, true, true, true, true, true, false]) [6] ?_ (by decide +kernel)
            refine AW.go ?_
            refine AW.callE (fun _ => 0) (rest_fn l t (by omega)) (.pv _ .nil) ?_
            refine AW.go ?_
            refine AW.keepB [17, 16, 15, 4, 5, 0, 60, 64, 66] [13, 5] (by simp only [go_sem, ↓reduceIte]) (by simp only [go_sem, ↓reduceIte] <;> rfl) ?_
            exact hT ()
          · refine AW.go ?_
            refine AW.callE (fun _ => 0) (rest_fn l t (by omega)) (.pv _ .nil) ?_
            refine AW.go ?_
            refine AW.seqs (fuel := 1) (listed' := #[true, true, true, true, true, true, true, false]) [3, 4] ?_ (by decide +kernel)
            refine AW.go ?_ (by simp only [go_sem, ↓reduceIte, esh] <;> rfl)
            refine AW.keepB [17, 16, 15, 4, 5, 0, 60, 64, 66] [13, 5] (by simp only [go_sem, ↓reduceIte]) (by simp only [go_sem, ↓reduceIte] <;> rfl) ?_
            exact hT ()
      refine AW.seqs (fuel := 0) (listed' := #[true, true, true, true, true, true, true, true]) [7] ?_ (by decide +kernel)
      refine AW.go ?_
      refine AW.callE (fun _ => 13) (wrPut_fn b2 (y / 2 ^ t) (64 - l - t) j5 (by omega) hfit (by omega)) (.ptr rfl (.pv _ (.pv _ .nil))) ?_
      refine AW.go ?_
      refine AW.anyDone (by decide +kernel) ?_
      refine AW.go ?_ (by simp only [go_sem, ↓reduceIte, ei] <;> rfl)
      refine AW.again hK (i + 1) hlt (by omega) (by simp only [go_sem, ↓reduceIte]) (by simp only [go_sem, ↓reduceIte, j3, winA, gwB] <;> rfl)
  · have hge : ¬ i < xs.length := by simpa using hc
    rw [List.take_of_length_le (by omega)]
    have hgl := gF_len xs
    refine AW.go ?_
    refine AW.callE (fun _ => 13) (wrBytes_fn (gF xs).1 (by omega)) (.ptr rfl .nil) ?_
    refine AW.go ?_
    refine AW.finE (.move rfl (.pv _ .nil)) rfl
end Go.Ck

set_option linter.unusedVariables false
namespace Go.Ck
def encP (xs : List Nat) : List Nat := xs.flatMap fun x => beB x 8
theorem encP_len (xs : List Nat) : (encP xs).length = 8 * xs.length := be8_len xs
def oneV (xs : List Nat) : Bool := xs.all fun x => x == xs.getD 0 0
def wayS (xs : List Nat) (w : Int) : List Nat × Int :=
  if w < 0 ∨ 4 ≤ w then ([], 1) else if 65536 < xs.length then ([], 4) else if w = 2 then (enc10 xs, 0) else if w = 3 then (enc09 xs, 0) else if w = 0 then (encP xs, 0)
  else if oneV xs = false ∨ xs = [] then ([], 1) else (encP (xs.take 1), 0)
end Go.Ck
