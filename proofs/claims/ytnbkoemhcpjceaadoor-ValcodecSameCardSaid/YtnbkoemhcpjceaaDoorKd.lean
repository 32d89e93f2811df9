/- What is proved here: parts of the proofs of this seat's statements (a verified evaluator for calls over pure values, its laws, and contracts of functions). No condition. -/
import Derived.Test.YtnbkoemhcpjceaaDoorKc
set_option linter.all false
set_option linter.unusedVariables false
set_option maxRecDepth 10000
namespace Go.Ck
open Go.Proofs

theorem ref10Dec_fn (l : List Nat) (n : Nat) (hn : n ≤ 65536) (hl : l.length ≤ 2 ^ 40) (hb : ∀ x ∈ l, x < 256) : Fn Tryd.prog 78 [] [.pv (.sl 1 (bytes l)), .pv (.int .i64 n)]
    (fun rs H' => rs = [.own 38 (u64s (dec10 l n).1), .pv (.int .i64 (dec10 l n).2)] ∧ H' = []) := by
  refine Fn.of_body (fn := Tryd.f78) (n := 107) (res := [.tmp 4, .tmp 5]) (by kernel_rfl) rfl rfl rfl rfl rfl (fun C => ?_)
  have hr : room = 140737488355328 := rfl
  have hle := readV_le l
  have hlt := readV_lt hb
  refine AW.gg ?_
  refine AW.condF (by simp only [go_sem, ↓reduceIte]; congr 3; simp; omega) ?_
  refine AW.go ?_
  refine AW.callE (fun _ => 0) (refVarint_fn l (by omega) hb) (.pv _ .nil) ?_
  refine AW.go ?_
  unfold dec10
  have hbr : ∀ x ∈ l.drop (readV l).2.1, x < 256 := fun x hx => hb x (List.mem_of_mem_drop hx)
  have hlr : (l.drop (readV l).2.1).length ≤ 2 ^ 40 := by simp; omega
  generalize l.drop (readV l).2.1 = r at *
  generalize (readV l).1 = u at *
  generalize (readV l).2.2 = e at *
  generalize (readV l).2.1 = k at *
  refine AW.cond rfl (fun hc => ?_) (fun hc => ?_)
  · have he : e ≠ 0 := by simpa using hc
    simp only [if_pos he]
    refine AW.go ?_
    refine AW.finE (.move rfl (.pv _ .nil)) rfl
  have he : ¬ e ≠ 0 := by simpa using hc
  simp only [if_neg he]
  have hu : IntKind.u64.wrap (n : Int) = (n : Int) := wrap_u64_lt (by omega)
  refine AW.go ?_ (by simp only [go_sem, ↓reduceIte, hu] <;> rfl)
  refine AW.cond rfl (fun hc => ?_) (fun hc => ?_)
  · have hnu : n < u := by simp at hc; omega
    simp only [if_pos hnu]
    refine AW.go ?_
    refine AW.finE (.move rfl (.pv _ .nil)) rfl
  have hnu : ¬ n < u := by simp at hc; omega
  simp only [if_neg hnu]
  refine AW.go ?_
  refine AW.loopS (fun i : Nat => ⟨107, [(10, .pv (.int .u64 i)), (9, .own 38 (u64s (dic r i))), (7, .pv (.sl 1 (bytes (r.drop (8 * i))))), (6, .pv (.int .u64 u)), (0, .pv (.sl 1 (bytes l))), (1, .pv (.int .i64 n))], []⟩) (fun i => i ≤ u ∧ 8 * i ≤ r.length) (fun i => u - i) [10, 9, 7, 6, 0, 1] [] 0 ⟨Nat.zero_le _, by omega⟩ ?_
  rintro i ⟨hi, hi2⟩ K hK
  refine AW.go ?_
  refine AW.cond rfl (fun hc => ?_) (fun hc => ?_)
  · have hlt : i < u := by simpa using hc
    have hbd : ∀ x ∈ r.drop (8 * i), x < 256 := fun x hx => hbr x (List.mem_of_mem_drop hx)
    have hdl : (r.drop (8 * i)).length = r.length - 8 * i := by simp
    refine AW.go ?_
    refine AW.callE (fun _ => 0) (refFixed_fn (r.drop (8 * i)) 8 (by omega) (by omega) hbd) (.pv _ (.pv _ .nil)) ?_
    refine AW.go ?_
    by_cases h8 : 8 ≤ (r.drop (8 * i)).length
    · simp only [if_pos h8]
      refine AW.condF rfl ?_
      have h1 : (i + 1) * 8 ≤ room := by omega
      have h2 : i + 1 ≤ room := by omega
      have ei : IntKind.u64.wrap ((i : Int) + 1) = ((i + 1 : Nat) : Int) := wrap_u64_lt (n := i + 1) (by omega)
      have hdr : (r.drop (8 * i)).drop 8 = r.drop (8 * (i + 1)) := by rw [List.drop_drop]; congr 1
      rw [hdr]
      refine AW.go ?_ (by simp only [go_sem, ↓reduceIte, dic_len, u64s_one, h1, h2, ei, ← dic_succ] <;> rfl)
      refine AW.again hK (i + 1) ⟨hlt, by omega⟩ (by omega)
    · simp only [if_neg h8]
      have hs : r.length < 8 * u := by omega
      refine AW.condT rfl ?_
      refine AW.go ?_
      refine AW.finE (.move rfl (.pv _ .nil)) ?_
      simp only [dec10b, if_pos hs, u64s, List.map_nil]
  have hge : i = u := by simp at hc; omega
  subst hge
  have hs : ¬ r.length < 8 * i := by omega
  have hw16 := wd_le (n := i) (by omega)
  have hbd : ∀ x ∈ r.drop (8 * i), x < 256 := fun x hx => hbr x (List.mem_of_mem_drop hx)
  have hdl : (r.drop (8 * i)).length = r.length - 8 * i := by simp
  simp only [dec10b, if_neg hs]
  refine AW.go ?_
  refine AW.callE (fun _ => 0) (width10_fn (dic r i).length (by rw [dic_len]; omega)) (.pv _ .nil) ?_
  rw [dic_len]
  refine AW.go ?_
  refine AW.callE (fun _ => 0) (refOf_fn (r.drop (8 * i)) (by omega) hbd) (.pv _ .nil) ?_
  have hnw : n * blen (i - 1) ≤ 65536 * 16 := Nat.mul_le_mul hn hw16
  have em : IntKind.i64.wrap ((n : Int) * ((blen (i - 1) : Nat) : Int)) = ((n * wd i : Nat) : Int) := by
    rw [show (n : Int) * ((blen (i - 1) : Nat) : Int) = ((n * blen (i - 1) : Nat) : Int) from rfl, wrap_i64_nat (by omega)]; rfl
  refine AW.go ?_ (by simp only [go_sem, ↓reduceIte, em, unb_len, hdl] <;> rfl)
  refine AW.cond rfl (fun hc2 => ?_) (fun hc2 => ?_)
  · have h2 : 8 * (r.length - 8 * i) < n * wd i := by simp at hc2; omega
    simp only [if_pos h2]
    refine AW.go ?_
    refine AW.finE (.move rfl (.pv _ .nil)) rfl
  have h2 : ¬ 8 * (r.length - 8 * i) < n * wd i := by simp at hc2; omega
  simp only [if_neg h2]
  refine AW.go ?_
  refine AW.freeze (p := .slot 15) (by simp only [go_sem, ↓reduceIte, freeze, freezeO] <;> rfl) ?_
  refine AW.loopS (fun j : Nat => ⟨107, [(17, .pv (.int .i64 j)), (16, .own 38 (u64s (pats r i j))), (15, .pv (.sl 1 (nis ((unb (r.drop (8 * i))).drop (j * wd i))))), (14, .pv (.int .i64 (wd i : Nat))), (9, .own 38 (u64s (dic r i))), (0, .pv (.sl 1 (bytes l))), (1, .pv (.int .i64 n))], []⟩) (fun j => j ≤ n ∧ fit10 r i j = true) (fun j => n - j) [17, 16, 15, 14, 9, 0, 1] [] 0 ⟨Nat.zero_le _, rfl⟩ ?_ (by simp only [go_sem, ↓reduceIte]) (by simp only [go_sem, ↓reduceIte, Nat.zero_mul, List.drop_zero] <;> rfl)
  clear hK hc hc2
  rintro j ⟨hj, hfit⟩ K hK
  refine AW.go ?_
  refine AW.cond rfl (fun hc => ?_) (fun hc => ?_)
  · have hlt : j < n := by simpa using hc
    have hm : (j + 1) * wd i ≤ n * wd i := Nat.mul_le_mul_right _ hlt
    rw [Nat.succ_mul] at hm
    have hgl : wd i ≤ ((unb (r.drop (8 * i))).drop (j * wd i)).length := by rw [List.length_drop, unb_len, hdl]; omega
    refine AW.go ?_
    refine AW.callE (fun _ => 0) (refGet_fn ((unb (r.drop (8 * i))).drop (j * wd i)) (wd i) (by omega) (fun x hx => unb_bit _ x (List.mem_of_mem_drop hx))) (.pv _ (.pv _ .nil)) ?_
    simp only [if_pos hgl]
    have hix : binN (((unb (r.drop (8 * i))).drop (j * wd i)).take (wd i)) = ixs r i j := rfl
    rw [hix, List.drop_drop, show j * wd i + wd i = (j + 1) * wd i by rw [Nat.succ_mul]]
    have hui : IntKind.u64.wrap ((i : Nat) : Int) = (i : Nat) := wrap_u64_lt (by omega)
    refine AW.go ?_ (by simp only [go_sem, ↓reduceIte, dic_len, hui] <;> rfl)
    refine AW.cond rfl (fun hc2 => ?_) (fun hc2 => ?_)
    · have hx : ¬ ixs r i j < i := by simp at hc2; omega
      rw [if_pos (fit10_false hlt hx)]
      refine AW.go ?_
      refine AW.finE (.move rfl (.pv _ .nil)) rfl
    · have hx : ixs r i j < i := by simp at hc2; omega
      have hx2 : ixs r i j < (dic r i).length := by rw [dic_len]; exact hx
      have hget := u64s_get hx2
      rw [getD_get hx2] at hget
      have h1 : (j + 1) * 8 ≤ room := by omega
      have h2 : j + 1 ≤ room := by omega
      have ei : IntKind.i64.wrap ((j : Int) + 1) = ((j + 1 : Nat) : Int) := wrap_i64_succ (by omega)
      have hps := pats_succ r i j
      generalize (dic r i).getD (ixs r i j) 0 = y at *
      refine AW.go ?_ (by simp only [go_sem, ↓reduceIte, dic_len, hx, hget, pats_len, u64s_one, h1, h2, ei, ← hps] <;> rfl)
      refine AW.again hK (j + 1) ⟨hlt, ?_⟩ (by omega)
      rw [fit10_succ, hfit, decide_eq_true hx]; rfl
  have hge : j = n := by simp at hc; omega
  subst hge
  rw [if_neg (by rw [hfit]; exact Bool.noConfusion)]
  have hpl := pats_len r i j
  have hple : (pats r i j).length ≤ 65536 := by omega
  refine AW.go ?_
  refine AW.callE (fun _ => 0) (ref10Enc_fn (pats r i j) (pats_lt r i j hbr)) (.lend rfl co_38 .nil) ?_
  simp only [if_pos hple]
  refine AW.go ?_
  have hel : (enc10 (pats r i j)).length ≤ room := by
    have h1 := dd_len (pats r i j)
    have h2 := leb_len10 (v := (dd (pats r i j)).length) (by omega)
    have h3 := be8_len (dd (pats r i j))
    have h4 := pk_len (bits10 (dd (pats r i j)) (pats r i j))
    have h5 := bits10_len (dd (pats r i j)) (pats r i j)
    have h6 := wd_le (n := (dd (pats r i j)).length) (by omega)
    have h7 : wd (dd (pats r i j)).length * (pats r i j).length ≤ 16 * 65536 := Nat.mul_le_mul h6 hple
    simp only [enc10, head10, List.length_append]
    omega
  refine AW.callE (fun _ => 0) (ref01Same_fn (enc10 (pats r i j)) l hel) (.lend rfl co_5 (.pv _ .nil)) ?_
  refine AW.go ?_
  refine AW.cond rfl (fun hc2 => ?_) (fun hc2 => ?_)
  · have hne : ¬ enc10 (pats r i j) = l := by simpa using hc2
    rw [if_neg hne]
    refine AW.go ?_
    refine AW.finE (.move rfl (.pv _ .nil)) rfl
  · have hne : enc10 (pats r i j) = l := by simpa using hc2
    rw [if_pos hne]
    refine AW.go ?_
    refine AW.finE (.move rfl (.pv _ .nil)) rfl
end Go.Ck

set_option linter.unusedVariables false
/-! A map from patterns to places. -/
namespace Go.Ck
def ents : List Nat → Nat → List (PV × PV)
  | [], _ => []
  | x :: r, i => (.int .u64 (x : Int), .int .i64 (i : Int)) :: ents r (i + 1)
theorem ents_len : ∀ (d : List Nat) (i : Nat), (ents d i).length = d.length
  | [], _ => rfl
  | x :: r, i => by simp [ents, ents_len r]
theorem ents_snoc : ∀ (d : List Nat) (i x : Nat), ents (d ++ [x]) i = ents d i ++ [(.int .u64 (x : Int), .int .i64 ((i + d.length : Nat) : Int))]
  | [], i, x => by simp [ents]
  | y :: r, i, x => by
    simp only [List.cons_append, ents, ents_snoc r (i + 1) x, List.length_cons]
    rw [show i + 1 + r.length = i + (r.length + 1) by omega]
theorem mlook_ents (x : Nat) : ∀ (d : List Nat) (i : Nat), mlook (.int .u64 (x : Int)) (ents d i) = some (if x ∈ d then some (.int .i64 (plc x d i)) else none)
  | [], i => rfl
  | y :: r, i => by
    by_cases h : y = x
    · have e : ((x : Int) == (y : Int)) = true := by simp [h]
      simp only [ents, mlook, keyEq, if_true, e]
      rw [plc, if_pos h, if_pos (by simp [h])]
    · have e : ((x : Int) == (y : Int)) = false := by simp; omega
      simp only [ents, mlook, keyEq, if_true, e]
      rw [mlook_ents x r (i + 1), plc, if_neg h]
      have : (x ∈ y :: r) ↔ x ∈ r := by simp only [List.mem_cons]; exact ⟨fun h2 => h2.resolve_left (fun h3 => h h3.symm), .inr⟩
      simp only [this]
theorem mset_ents (x : Nat) (v : PV) : ∀ (d : List Nat) (i : Nat), x ∉ d → mset (.int .u64 (x : Int)) v (ents d i) = some (ents d i ++ [(.int .u64 (x : Int), v)])
  | [], i, _ => rfl
  | y :: r, i, h => by
    simp only [List.mem_cons, not_or] at h
    have e : ((x : Int) == (y : Int)) = false := by simp; omega
    simp only [ents, mset, keyEq, if_true, e]
    rw [mset_ents x v r (i + 1) h.2]
    rfl
end Go.Ck

namespace Go.Ck
theorem mem_getD {l : List Nat} {x : Nat} (h : x ∈ l) : ∃ j, l.getD j 0 = x := by
  obtain ⟨j, hj, rfl⟩ := List.mem_iff_getElem.1 h
  exact ⟨j, (getD_get hj).symm⟩
theorem pk_byte (l : List Nat) (h : ∀ x ∈ l, x < 2) : ∀ x ∈ pk l, x < 256 := by
  intro x hx
  obtain ⟨j, rfl⟩ := mem_getD hx
  rw [pr_pk]
  split
  · rename_i hj
    subst hj
    by_cases h8 : l.length % 8 = 0
    · rw [h8]; simpa using (pr_lt l h).1 (l.length / 8)
    · rw [show (8 - l.length % 8) % 8 = 8 - l.length % 8 by omega]
      have h2 := (pr_lt l h).2
      have hq : 2 ^ (l.length % 8) * 2 ^ (8 - l.length % 8) = 2 ^ 8 := by rw [← Nat.pow_add]; congr 1; omega
      have := Nat.mul_lt_mul_of_pos_right h2 (Nat.two_pow_pos (8 - l.length % 8))
      omega
  · exact (pr_lt l h).1 j
theorem enc10_byte (xs : List Nat) : ∀ x ∈ enc10 xs, x < 256 := by
  intro x hx
  simp only [enc10, head10, List.mem_append, List.mem_flatMap] at hx
  rcases hx with (hx | ⟨y, _, hx⟩) | hx
  · exact leb_byte _ x hx
  · exact beB_byte _ _ x hx
  · exact pk_byte _ (bits10_bit _ _) x hx
end Go.Ck

set_option linter.unusedVariables false
set_option maxRecDepth 10000
namespace Go.Ck
open Go.Proofs

theorem dictEnc_fn (xs : List Nat) (hx : ∀ x ∈ xs, x < 2 ^ 64) : Fn Tryd.prog 29 [] [.pv (.sl 1 (u64s xs))]
    (fun rs H' => rs = [.own 5 (bytes (if xs.length ≤ 65536 then enc10 xs else [])), .pv (.int .i64 (if xs.length ≤ 65536 then 0 else 4))] ∧ H' = []) := by
  refine Fn.of_body (fn := Tryd.f29) (n := 71) (res := [.tmp 2, .tmp 3]) (by kernel_rfl) rfl rfl rfl rfl rfl (fun C => ?_)
  have hr : room = 140737488355328 := rfl
  refine AW.go ?_
  refine AW.cond rfl (fun hc => ?_) (fun hc => ?_)
  · have hle : ¬ xs.length ≤ 65536 := by simp at hc; omega
    simp only [if_neg hle]
    refine AW.go ?_
    refine AW.finE (.move rfl (.pv _ .nil)) rfl
  have hle : xs.length ≤ 65536 := by simp at hc; omega
  simp only [if_pos hle]
  refine AW.go ?_
  refine AW.loopS (fun i : Nat => ⟨71, [(21, .pv (.int .i64 i)), (20, .pv (.int .i64 xs.length)), (19, .pv (.sl 1 (u64s xs))), (5, .own 5 (bytes ((dd (xs.take i)).flatMap fun x => beB x 8))), (4, .mp 18), (0, .pv (.sl 1 (u64s xs)))], [(18, .mp (ents (dd (xs.take i)) 0))]⟩) (fun i => i ≤ xs.length) (fun i => xs.length - i) [21, 20, 19, 5, 4, 0] [18] 0 (Nat.zero_le _) ?_
  · rintro i hi K hK
    refine AW.go ?_
    refine AW.cond rfl (fun hc => ?_) (fun hc => ?_)
    · have hlt : i < xs.length := by simpa using hc
      have hget := u64s_get hlt
      have hxx := hx _ (List.getElem_mem hlt)
      have hti : xs.take (i + 1) = xs.take i ++ [xs[i]] := by simp
      have hdl := dd_len (xs.take i)
      have htl : (xs.take i).length = i := by simp; omega
      generalize xs[i] = x at *
      have ei : IntKind.i64.wrap ((i : Int) + 1) = ((i + 1 : Nat) : Int) := wrap_i64_succ (by omega)
      have hds : dd (xs.take (i + 1)) = ddS (dd (xs.take i)) x := by rw [hti, dd_snoc]
      generalize dd (xs.take i) = d at *
      refine AW.go ?_ (by simp only [go_sem, ↓reduceIte, hget] <;> rfl)
      refine AW.lookup2 (ho := rfl) rfl rfl rfl (mlook_ents x d 0) tk_84 (by simp only [go_sem, ↓reduceIte, keyFits] <;> rfl) ze_3 ?_
      by_cases hm : x ∈ d
      · simp only [if_pos hm, mval]
        have hn : ¬ plc x d 0 < 0 := fun h => plc_neg.1 h hm
        rw [ddS, if_neg hn] at hds
        refine AW.go ?_
        refine AW.condF rfl ?_
        refine AW.go ?_ (by simp only [go_sem, ↓reduceIte, ei] <;> rfl)
        refine AW.again hK (i + 1) hlt (by omega) (by simp only [go_sem, ↓reduceIte]) (by simp only [go_sem, ↓reduceIte, hds] <;> rfl)
      · simp only [if_neg hm, mval]
        have hn : plc x d 0 < 0 := plc_neg.2 hm
        rw [ddS, if_pos hn] at hds
        refine AW.go ?_
        refine AW.condT rfl ?_
        refine AW.go ?_ (by simp only [go_sem, ↓reduceIte, ents_len] <;> rfl)
        refine AW.mapSet (ho := rfl) rfl rfl rfl rfl (mset_ents x _ d 0 hm) tk_84 (by simp only [go_sem, ↓reduceIte, keyFits] <;> rfl) ?_
        have hes := ents_snoc d 0 x
        rw [Nat.zero_add] at hes
        rw [← hes]
        refine AW.go ?_
        refine AW.callE (fun _ => 0) (fix_fn x 8 hxx (by omega)) (.pv _ (.pv _ .nil)) ?_
        have h2 : (d.flatMap fun x => beB x 8).length + (beB x 8).length ≤ room := by rw [be8_len, beB_len]; omega
        have hfn : (d ++ [x]).flatMap (fun x => beB x 8) = d.flatMap (fun x => beB x 8) ++ beB x 8 := by rw [List.flatMap_append]; simp
        refine AW.go ?_ (by simp only [go_sem, ↓reduceIte, h2, ei, ← hfn] <;> rfl)
        refine AW.again hK (i + 1) hlt (by omega) (by simp only [go_sem, ↓reduceIte]) (by simp only [go_sem, ↓reduceIte, hds] <;> rfl)
    have hge : ¬ i < xs.length := by simpa using hc
    rw [List.take_of_length_le (by omega)]
    have hdl := dd_len xs
    have hmem : ∀ y ∈ xs, y ∈ dd xs := fun y hy => (dd_mem xs y).2 hy
    unfold enc10 head10
    generalize dd xs = d at *
    clear hK hc hge
    have hu : IntKind.u64.wrap ((d.length : Nat) : Int) = (d.length : Nat) := wrap_u64_lt (by omega)
    refine AW.go ?_ (by simp only [go_sem, ↓reduceIte, ents_len, hu] <;> rfl)
    have h10 := leb_len10 (v := d.length) (by omega)
    refine AW.callE (fun _ => 0) (append_fn [] d.length (by omega) (by simp; omega)) (.nilsP 1 (.pv _ .nil)) ?_
    have hfl := be8_len d
    have h2 : (leb d.length).length + (d.flatMap fun x => beB x 8).length ≤ room := by omega
    have hw16 := wd_le (n := d.length) (by omega)
    refine AW.go ?_ (by simp only [go_sem, ↓reduceIte, List.nil_append, h2] <;> rfl)
    refine AW.nilsOwnAt (.cell 50 0) 5 ?_
    refine AW.loopS (fun i : Nat => ⟨71, [(53, .pv (.int .i64 i)), (52, .pv (.int .i64 xs.length)), (51, .pv (.sl 1 (u64s xs))), (12, .ptr 50 0), (11, .own 5 (bytes (leb d.length ++ d.flatMap fun x => beB x 8))), (4, .mp 18)], [(50, .cells 88 [.own 5 (bytes (pk (bits10 d (xs.take i)))), .pv (.int .i64 (bits10 d (xs.take i)).length)]), (18, .mp (ents d 0))]⟩) (fun i => i ≤ xs.length) (fun i => xs.length - i) [53, 52, 51, 12, 11, 4] [50, 18] 0 (Nat.zero_le _) ?_
    clear hi i
    rintro i hi K hK
    refine AW.go ?_
    refine AW.cond rfl (fun hc => ?_) (fun hc => ?_)
    · have hlt : i < xs.length := by simpa using hc
      have hget := u64s_get hlt
      have hin := hmem _ (List.getElem_mem hlt)
      obtain ⟨p, hp1, hp2, hp3⟩ := plc_mem (i := 0) hin
      have hti : xs.take (i + 1) = xs.take i ++ [xs[i]] := by simp
      have hbi := bits10_len d (xs.take i)
      have hfn : bits10 d (xs.take (i + 1)) = bits10 d (xs.take i) ++ binB p (wd d.length) := by
        rw [hti, bits10, List.flatMap_append, bits10]
        simp only [List.flatMap_cons, List.flatMap_nil, List.append_nil, hp1]
        congr 2; omega
      rw [List.length_take] at hbi
      rw [Nat.zero_add] at hp1
      generalize xs[i] = x at *
      have hml := mlook_ents x d 0
      rw [if_pos hin, hp1] at hml
      have ei : IntKind.i64.wrap ((i : Int) + 1) = ((i + 1 : Nat) : Int) := wrap_i64_succ (by omega)
      have eu : IntKind.u64.wrap ((p : Nat) : Int) = (p : Nat) := wrap_u64_lt (by omega)
      have hm : wd d.length * min i xs.length ≤ 16 * 65536 := Nat.mul_le_mul hw16 (by omega)
      have hput := wrPut_fn (bits10 d (xs.take i)) p (wd d.length) (bits10_bit d _) (by omega) (wd_lt hp2) (by rw [hbi]; omega)
      refine AW.go ?_ (by simp only [go_sem, ↓reduceIte, hget] <;> rfl)
      refine AW.any0 mixed ?_
      refine AW.takes (fuel := 5) [0, 1, 2, 5] ?_ (by simp only [go_sem, ↓reduceIte] <;> rfl) Ends.noPanic (listed' := #[true, true, true, false, false, true, false, false, false]) (by decide +kernel) (by decide +kernel)
      refine via (T := ?T) (fun hT => ?_) ?_
      rotate_left
      · refine AW.branch (rs := [3, 6]) ?_ (by decide +kernel) (by simp)
        intro j hj
        simp only [List.mem_cons, List.not_mem_nil, or_false] at hj
        rcases hj with rfl | rfl
        · refine AW.go ?_
          refine AW.lookup (ho := rfl) rfl rfl rfl hml tk_84 (by simp only [go_sem, ↓reduceIte, keyFits] <;> rfl) ze_3 ?_
          refine AW.go ?_
          refine AW.takes (fuel := 3) [4] ?_ (by simp only [go_sem, ↓reduceIte, mval, eu] <;> rfl) Ends.noPanic (listed' := #[true, true, true, true, true, true, false, false, false]) (by decide +kernel) (by decide +kernel)
          refine AW.seqs (fuel := 1) (listed' := #[true, true, true, true, true, true, true, true, false]) [6, 7] ?_ (by decide +kernel)
          refine AW.go ?_ (by simp only [go_sem, ↓reduceIte, ents_len] <;> rfl)
          refine AW.callE (fun _ => 0) (dictWidth_fn d.length (by omega)) (.pv _ .nil) ?_
          refine AW.go ?_
          refine AW.keepB [57, 61, 64, 53, 52, 51, 12, 11, 4] [50, 18] (by simp only [go_sem, ↓reduceIte]) (by simp only [go_sem, ↓reduceIte] <;> rfl) ?_
          exact hT ()
        · refine AW.go ?_ (by simp only [go_sem, ↓reduceIte, ents_len] <;> rfl)
          refine AW.branch (fuel := 3) (rs := [3, 7]) ?_ (by decide +kernel) (by simp)
          intro j hj
          simp only [List.mem_cons, List.not_mem_nil, or_false] at hj
          rcases hj with rfl | rfl
          · refine AW.go ?_
            refine AW.lookup (ho := rfl) rfl rfl rfl hml tk_84 (by simp only [go_sem, ↓reduceIte, keyFits] <;> rfl) ze_3 ?_
            refine AW.go ?_
            refine AW.takes (fuel := 2) [4] ?_ (by simp only [go_sem, ↓reduceIte, mval, eu] <;> rfl) Ends.noPanic (listed' := #[true, true, true, true, true, true, true, false, false]) (by decide +kernel) (by decide +kernel)
            refine AW.seqs (fuel := 1) (listed' := #[true, true, true, true, true, true, true, true, false]) [7] ?_ (by decide +kernel)
            refine AW.go ?_
            refine AW.callE (fun _ => 0) (dictWidth_fn d.length (by omega)) (.pv _ .nil) ?_
            refine AW.go ?_
            refine AW.keepB [57, 61, 64, 53, 52, 51, 12, 11, 4] [50, 18] (by simp only [go_sem, ↓reduceIte]) (by simp only [go_sem, ↓reduceIte] <;> rfl) ?_
            exact hT ()
          · refine AW.go ?_
            refine AW.callE (fun _ => 0) (dictWidth_fn d.length (by omega)) (.pv _ .nil) ?_
            refine AW.go ?_
            refine AW.seqs (fuel := 1) (listed' := #[true, true, true, true, true, true, true, true, false]) [3, 4] ?_ (by decide +kernel)
            refine AW.go ?_
            refine AW.lookup (ho := rfl) rfl rfl rfl hml tk_84 (by simp only [go_sem, ↓reduceIte, keyFits] <;> rfl) ze_3 ?_
            refine AW.go ?_ (by simp only [go_sem, ↓reduceIte, mval, eu] <;> rfl)
            refine AW.keepB [57, 61, 64, 53, 52, 51, 12, 11, 4] [50, 18] (by simp only [go_sem, ↓reduceIte]) (by simp only [go_sem, ↓reduceIte] <;> rfl) ?_
            exact hT ()
      refine AW.seqs (fuel := 0) (listed' := #[true, true, true, true, true, true, true, true, true]) [8] ?_ (by decide +kernel)
      refine AW.go ?_
      refine AW.callE (fun _ => 50) hput (.ptr rfl (.pv _ (.pv _ .nil))) ?_
      refine AW.go ?_
      refine AW.anyDone (by decide +kernel) ?_
      refine AW.go ?_ (by simp only [go_sem, ↓reduceIte, ei, ← hfn] <;> rfl)
      refine AW.again hK (i + 1) hlt (by omega)
    · have hge : ¬ i < xs.length := by simpa using hc
      rw [List.take_of_length_le (by omega)]
      have hbi := bits10_len d xs
      have hm : wd d.length * xs.length ≤ 16 * 65536 := Nat.mul_le_mul hw16 (by omega)
      refine AW.go ?_
      refine AW.callE (fun _ => 50) (wrBytes_fn (bits10 d xs) (by omega)) (.ptr rfl .nil) ?_
      have h3 : (leb d.length ++ d.flatMap fun x => beB x 8).length + (pk (bits10 d xs)).length ≤ room := by rw [List.length_append, hfl, pk_len]; omega
      refine AW.go ?_ (by simp only [go_sem, ↓reduceIte, h3] <;> rfl)
      refine AW.finE (.move rfl (.pv _ .nil)) rfl
end Go.Ck

set_option linter.unusedVariables false
set_option maxRecDepth 10000
namespace Go.Ck
open Go.Proofs

theorem dictionary_fn (r : List Nat) (u : Nat) (hu : u ≤ 65536) (hl : r.length ≤ 2 ^ 40) (hb : ∀ x ∈ r, x < 256) : Fn Tryd.prog 99 (curO r) [.ptr 1000 0, .pv (.int .u64 u)]
    (fun rs H' => rs = [.own 38 (u64s (if 8 * u ≤ r.length then dic r u else [])), .pv (.int .i64 (if 8 * u ≤ r.length then 0 else 2))] ∧ H' = curO (if 8 * u ≤ r.length then r.drop (8 * u) else r.drop (8 * (r.length / 8)))) := by
  refine Fn.of_body (fn := Tryd.f99) (n := 26) (res := [.tmp 4, .tmp 5]) (by kernel_rfl) rfl rfl rfl rfl rfl (fun C => ?_)
  have hr : room = 140737488355328 := rfl
  refine AW.go ?_
  refine AW.loopS (fun i : Nat => ⟨26, [(10, .pv (.int .u64 i)), (9, .pv (.int .u64 u)), (6, .own 38 (u64s (dic r i))), (0, .ptr 1000 0)], curO (r.drop (8 * i))⟩) (fun i => i ≤ u ∧ 8 * i ≤ r.length) (fun i => u - i) [10, 9, 6, 0] [1000] 0 ⟨Nat.zero_le _, by omega⟩ ?_
  rintro i ⟨hi, hi2⟩ K hK
  refine AW.go ?_
  refine AW.cond rfl (fun hc => ?_) (fun hc => ?_)
  · have hlt : i < u := by simpa using hc
    have hbd : ∀ x ∈ r.drop (8 * i), x < 256 := fun x hx => hb x (List.mem_of_mem_drop hx)
    have hdl : (r.drop (8 * i)).length = r.length - 8 * i := by simp
    refine AW.go ?_
    refine AW.callE id (curFixed_fn (r.drop (8 * i)) 8 (by omega) (by omega) hbd) (.ptr rfl (.pv _ .nil)) ?_
    refine AW.go ?_
    by_cases h8 : 8 ≤ (r.drop (8 * i)).length
    · simp only [if_pos h8]
      refine AW.condF rfl ?_
      have h1 : (i + 1) * 8 ≤ room := by omega
      have h2 : i + 1 ≤ room := by omega
      have ei : IntKind.u64.wrap ((i : Int) + 1) = ((i + 1 : Nat) : Int) := wrap_u64_lt (n := i + 1) (by omega)
      have hdr : (r.drop (8 * i)).drop 8 = r.drop (8 * (i + 1)) := by rw [List.drop_drop]; congr 1
      rw [hdr]
      refine AW.go ?_ (by simp only [go_sem, ↓reduceIte, dic_len, u64s_one, h1, h2, ei, ← dic_succ] <;> rfl)
      refine AW.again hK (i + 1) ⟨hlt, by omega⟩ (by omega)
    · simp only [if_neg h8]
      have hs : ¬ 8 * u ≤ r.length := by omega
      have hq : 8 * (r.length / 8) = 8 * i := by omega
      simp only [if_neg hs, hq]
      refine AW.condT rfl ?_
      refine AW.go ?_
      refine AW.finE (.move rfl (.pv _ .nil)) rfl
  · have hge : i = u := by simp at hc; omega
    subst hge
    simp only [if_pos hi2]
    refine AW.go ?_
    refine AW.finE (.move rfl (.pv _ .nil)) rfl

theorem dictDec_fn (l : List Nat) (n : Nat) (hn : n ≤ 65536) (hl : l.length ≤ 2 ^ 40) (hb : ∀ x ∈ l, x < 256) : Fn Tryd.prog 76 [] [.pv (.sl 1 (bytes l)), .pv (.int .i64 n)]
    (fun rs H' => rs = [.own 38 (u64s (dec10 l n).1), .pv (.int .i64 (dec10 l n).2)] ∧ H' = []) := by
  refine Fn.of_body (fn := Tryd.f76) (n := 101) (res := [.tmp 4, .tmp 5]) (by kernel_rfl) rfl rfl rfl rfl rfl (fun C => ?_)
  have hr : room = 140737488355328 := rfl
  have hle := readV_le l
  have hlt := readV_lt hb
  refine AW.gg ?_
  refine AW.condF (by simp only [go_sem, ↓reduceIte]; congr 3; simp; omega) ?_
  refine AW.go ?_
  refine AW.callE (fun o => if o = 7 then 26 else 0) (curNew_fn l (by omega)) (.pv _ .nil) ?_
  refine AW.go ?_
  refine AW.callE (fun _ => 26) (curVarint_fn l (by omega) hb) (.ptr rfl .nil) ?_
  refine AW.go ?_
  unfold dec10
  have hbr : ∀ x ∈ l.drop (readV l).2.1, x < 256 := fun x hx => hb x (List.mem_of_mem_drop hx)
  have hlr : (l.drop (readV l).2.1).length ≤ 2 ^ 40 := by simp; omega
  generalize l.drop (readV l).2.1 = r at *
  generalize (readV l).1 = u at *
  generalize (readV l).2.2 = e at *
  generalize (readV l).2.1 = k at *
  refine AW.cond rfl (fun hc => ?_) (fun hc => ?_)
  · have he : e ≠ 0 := by simpa using hc
    simp only [if_pos he]
    refine AW.go ?_
    refine AW.finE (.move rfl (.pv _ .nil)) rfl
  have he : ¬ e ≠ 0 := by simpa using hc
  simp only [if_neg he]
  have hu : IntKind.u64.wrap (n : Int) = (n : Int) := wrap_u64_lt (by omega)
  refine AW.go ?_ (by simp only [go_sem, ↓reduceIte, hu] <;> rfl)
  refine AW.cond rfl (fun hc => ?_) (fun hc => ?_)
  · have hnu : n < u := by simp at hc; omega
    simp only [if_pos hnu]
    refine AW.go ?_
    refine AW.finE (.move rfl (.pv _ .nil)) rfl
  have hnu : ¬ n < u := by simp at hc; omega
  simp only [if_neg hnu]
  refine AW.go ?_
  refine AW.callE (fun _ => 26) (dictionary_fn r u (by omega) hlr hbr) (.ptr rfl (.pv _ .nil)) ?_
  refine AW.go ?_
  unfold dec10b
  by_cases h8 : 8 * u ≤ r.length
  · have hs : ¬ r.length < 8 * u := by omega
    simp only [if_pos h8, if_neg hs]
    refine AW.condF rfl ?_
    have hw16 := wd_le (n := u) (by omega)
    have hbd : ∀ x ∈ r.drop (8 * u), x < 256 := fun x hx => hbr x (List.mem_of_mem_drop hx)
    have hdl : (r.drop (8 * u)).length = r.length - 8 * u := by simp
    refine AW.go ?_ (by simp only [go_sem, ↓reduceIte, dic_len] <;> rfl)
    refine AW.callE (fun _ => 0) (dictWidth_fn u (by omega)) (.pv _ .nil) ?_
    refine AW.go ?_
    have hnw : n * blen (u - 1) ≤ 65536 * 16 := Nat.mul_le_mul hn hw16
    have em : IntKind.i64.wrap (((n * blen (u - 1) : Nat) : Int)) = ((n * wd u : Nat) : Int) := wrap_i64_nat (by omega)
    refine AW.callE (fun _ => 26) (curLeft_fn (r.drop (8 * u))) (.ptr rfl .nil) ?_
    have e8 : IntKind.i64.wrap (8 * (((r.drop (8 * u)).length : Nat) : Int)) = ((8 * (r.length - 8 * u) : Nat) : Int) := by rw [hdl]; exact wrap_i64_nat (n := 8 * (r.length - 8 * u)) (by omega)
    refine AW.go ?_ (by simp only [go_sem, ↓reduceIte, em, e8] <;> rfl)
    refine AW.cond rfl (fun hc2 => ?_) (fun hc2 => ?_)
    · have h2 : 8 * (r.length - 8 * u) < n * wd u := by simp at hc2; omega
      simp only [if_pos h2]
      refine AW.go ?_
      refine AW.finE (.move rfl (.pv _ .nil)) rfl
    have h2 : ¬ 8 * (r.length - 8 * u) < n * wd u := by simp at hc2; omega
    simp only [if_neg h2]
    refine AW.go ?_
    refine AW.callE (fun _ => 26) (curLeft_fn (r.drop (8 * u))) (.ptr rfl .nil) ?_
    refine AW.go ?_
    refine AW.callE (fun _ => 26) (curBytes_fn (r.drop (8 * u)) (r.drop (8 * u)).length (by omega)) (.ptr rfl (.pv _ .nil)) ?_
    simp only [if_pos (Nat.le_refl _), List.take_length, List.drop_length]
    refine AW.freeze (p := .part 64 0) (by simp only [go_sem, ↓reduceIte, freeze, freezeO] <;> rfl) ?_
    refine AW.go ?_
    generalize hdr : r.drop (8 * u) = q at *
    refine AW.callE (fun o => if o = 6 then 68 else 0) (rdNew_fn q (by omega)) (.pv _ .nil) ?_
    refine AW.go ?_
    refine AW.loopS (fun j : Nat => ⟨101, [(70, .pv (.int .i64 j)), (69, .pv (.int .i64 n)), (14, .own 38 (u64s (pats r u j))), (13, .ptr 68 0), (10, .pv (.int .i64 (wd u : Nat))), (9, .own 38 (u64s (dic r u))), (0, .pv (.sl 1 (bytes l)))], [(68, .cells 136 [.pv (.sl 1 (bytes q)), .pv (.int .i64 (j * wd u : Nat))])]⟩) (fun j => j ≤ n ∧ fit10 r u j = true) (fun j => n - j) [70, 69, 14, 13, 10, 9, 0] [68] 0 ⟨Nat.zero_le _, rfl⟩ ?_ (by simp only [go_sem, ↓reduceIte]) (by simp only [go_sem, ↓reduceIte, Nat.zero_mul] <;> rfl)
    clear hc2
    rintro j ⟨hj, hfit⟩ K hK
    refine AW.go ?_
    refine AW.cond rfl (fun hc => ?_) (fun hc => ?_)
    · have hlt : j < n := by simpa using hc
      have hm : (j + 1) * wd u ≤ n * wd u := Nat.mul_le_mul_right _ hlt
      rw [Nat.succ_mul] at hm
      have hgl : j * wd u + wd u ≤ 8 * q.length := by omega
      refine AW.go ?_
      refine AW.callE (fun _ => 68) (rdGet_fn q (j * wd u) (wd u) (by omega) (by omega) (by omega) hbd) (.ptr rfl (.pv _ .nil)) ?_
      simp only [if_pos hgl]
      have hix : getB (unb q) (j * wd u) (wd u) = ixs r u j := by rw [ixs, hdr]
      rw [hix, show j * wd u + wd u = (j + 1) * wd u by rw [Nat.succ_mul]]
      have hui : IntKind.u64.wrap ((u : Nat) : Int) = (u : Nat) := wrap_u64_lt (by omega)
      refine AW.go ?_ (by simp only [go_sem, ↓reduceIte, dic_len, hui] <;> rfl)
      refine AW.cond rfl (fun hc2 => ?_) (fun hc2 => ?_)
      · have hx : ¬ ixs r u j < u := by simp at hc2; omega
        rw [if_pos (fit10_false hlt hx)]
        refine AW.go ?_
        refine AW.finE (.move rfl (.pv _ .nil)) rfl
      · have hx : ixs r u j < u := by simp at hc2; omega
        have hx2 : ixs r u j < (dic r u).length := by rw [dic_len]; exact hx
        have hget := u64s_get hx2
        rw [getD_get hx2] at hget
        have h1 : (j + 1) * 8 ≤ room := by omega
        have h2 : j + 1 ≤ room := by omega
        have ei : IntKind.i64.wrap ((j : Int) + 1) = ((j + 1 : Nat) : Int) := wrap_i64_succ (by omega)
        have hps := pats_succ r u j
        generalize (dic r u).getD (ixs r u j) 0 = y at *
        refine AW.go ?_ (by simp only [go_sem, ↓reduceIte, dic_len, hx, hget, pats_len, u64s_one, h1, h2, ei, ← hps] <;> rfl)
        refine AW.again hK (j + 1) ⟨hlt, ?_⟩ (by omega)
        rw [fit10_succ, hfit, decide_eq_true hx]; rfl
    have hge : j = n := by simp at hc; omega
    subst hge
    rw [if_neg (by rw [hfit]; exact Bool.noConfusion)]
    have hpl := pats_len r u j
    have hple : (pats r u j).length ≤ 65536 := by omega
    refine AW.go ?_
    refine AW.callE (fun _ => 0) (dictEnc_fn (pats r u j) (pats_lt r u j hbr)) (.lend rfl co_38 .nil) ?_
    simp only [if_pos hple]
    refine AW.go ?_
    refine AW.callE (fun _ => 0) (bytesEqual_fn (enc10 (pats r u j)) l (enc10_byte _) hb) (.lend rfl co_5 (.pv _ .nil)) ?_
    refine AW.go ?_
    refine AW.cond rfl (fun hc2 => ?_) (fun hc2 => ?_)
    · have hne : ¬ enc10 (pats r u j) = l := by simpa using hc2
      rw [if_neg hne]
      refine AW.go ?_
      refine AW.finE (.move rfl (.pv _ .nil)) rfl
    · have hne : enc10 (pats r u j) = l := by simpa using hc2
      rw [if_pos hne]
      refine AW.go ?_
      refine AW.finE (.move rfl (.pv _ .nil)) rfl
  · have hs : r.length < 8 * u := by omega
    simp only [if_neg h8, if_pos hs]
    refine AW.condT rfl ?_
    refine AW.go ?_
    refine AW.finE (.move rfl (.pv _ .nil)) rfl
end Go.Ck

set_option linter.unusedVariables false
/-! Patterns against the one ahead. -/
namespace Go.Ck
def fitsW : Option (Nat × Nat) → Nat → Bool
  | none, _ => false
  | some (l, t), v => decide (l ≤ 64 - blen v) && decide (t ≤ tzn v)
/-- The window of a difference. -/
def newW (x : Nat) : Nat × Nat := (min (64 - blen x) 31, tzn x)
def winOK (w : Option (Nat × Nat)) : Prop := ∀ l t, w = some (l, t) → l + t ≤ 63 ∧ l ≤ 31
theorem tzn_blen {x : Nat} (h : x ≠ 0) : tzn x < blen x := tzn_lt h blen_lt
theorem newW_ok {x : Nat} (h : x ≠ 0) (hx : x < 2 ^ 64) : (newW x).1 + (newW x).2 ≤ 63 ∧ (newW x).1 ≤ 31 := by
  have := tzn_blen h
  have := blen_le.2 hx
  unfold newW
  simp only
  omega
theorem newW_fits {x : Nat} : (newW x).1 ≤ 64 - blen x ∧ (newW x).2 ≤ tzn x := by
  unfold newW
  simp only
  omega
theorem fit_lt {x l t : Nat} (hx : x < 2 ^ 64) (hl : l ≤ 64 - blen x) (hl2 : l + t ≤ 63) : x / 2 ^ t < 2 ^ (64 - l - t) := by
  rw [Nat.div_lt_iff_lt_mul (Nat.two_pow_pos t), ← Nat.pow_add]
  have hb := blen_le.2 hx
  have := @blen_lt x
  exact Nat.lt_of_lt_of_le this (Nat.pow_le_pow_right (by omega) (by omega))
/-- The bits of a difference, and the window behind it. -/
def gStep (w : Option (Nat × Nat)) (x : Nat) : List Nat × Option (Nat × Nat) :=
  if x = 0 then ([0], w) else match fitsW w x, w with
  | true, some (l, t) => ([1, 0] ++ binB (x / 2 ^ t) (64 - l - t), w)
  | _, _ => ([1, 1] ++ binB (newW x).1 5 ++ binB (63 - (newW x).1 - (newW x).2) 6 ++ binB (x / 2 ^ (newW x).2) (64 - (newW x).1 - (newW x).2), some (newW x))
def gS (a : List Nat × Option (Nat × Nat) × Option Nat) (v : Nat) : List Nat × Option (Nat × Nat) × Option Nat := match a.2.2 with
  | none => (binB v 64, a.2.1, some v)
  | some p => (a.1 ++ (gStep a.2.1 (v ^^^ p)).1, (gStep a.2.1 (v ^^^ p)).2, some v)
def gF (xs : List Nat) : List Nat × Option (Nat × Nat) × Option Nat := xs.foldl gS ([], none, none)
theorem gF_snoc (xs : List Nat) (v : Nat) : gF (xs ++ [v]) = gS (gF xs) v := by simp [gF]
theorem gF_last (xs : List Nat) : (gF xs).2.2 = xs.getLast? := by
  induction xs using snoc_ind with
  | h0 => rfl
  | h1 l b ih => rw [gF_snoc, gS]; cases (gF l).2.2 <;> simp
theorem gStep_zero (w : Option (Nat × Nat)) : gStep w 0 = ([0], w) := by simp [gStep]
theorem gStep_fits {l t x : Nat} (h0 : x ≠ 0) (h : fitsW (some (l, t)) x = true) : gStep (some (l, t)) x = ([1, 0] ++ binB (x / 2 ^ t) (64 - l - t), some (l, t)) := by
  simp [gStep, h0, h]
theorem gStep_new {w : Option (Nat × Nat)} {x : Nat} (h0 : x ≠ 0) (h : fitsW w x = false) : gStep w x = ([1, 1] ++ binB (newW x).1 5 ++ binB (63 - (newW x).1 - (newW x).2) 6 ++ binB (x / 2 ^ (newW x).2) (64 - (newW x).1 - (newW x).2), some (newW x)) := by
  unfold gStep
  rw [if_neg h0]
  split
  · rename_i h2; rw [h] at h2; cases h2
  · rfl
theorem gStep_ok {w : Option (Nat × Nat)} {x : Nat} (hw : winOK w) (hx : x < 2 ^ 64) : winOK (gStep w x).2 := by
  by_cases h0 : x = 0
  · subst h0; rw [gStep_zero]; exact hw
  · cases hf : fitsW w x with
    | true =>
      rcases w with _ | ⟨l, t⟩
      · simp [fitsW] at hf
      · rw [gStep_fits h0 hf]; exact hw
    | false =>
      rw [gStep_new h0 hf]
      intro l t h
      have := newW_ok h0 hx
      cases h
      exact this
theorem gStep_len {w : Option (Nat × Nat)} {x : Nat} : (gStep w x).1.length ≤ 77 := by
  by_cases h0 : x = 0
  · subst h0; rw [gStep_zero]; simp
  · cases hf : fitsW w x with
    | true =>
      rcases w with _ | ⟨l, t⟩
      · simp [fitsW] at hf
      · rw [gStep_fits h0 hf]; simp [binB_len]; omega
    | false => rw [gStep_new h0 hf]; simp [binB_len]; omega
theorem gF_ok (xs : List Nat) : (∀ x ∈ xs, x < 2 ^ 64) → winOK (gF xs).2.1 := by
  induction xs using snoc_ind with
  | h0 => intro _ l t h; cases h
  | h1 l b ih =>
    intro hx
    have ih := ih (fun x h => hx x (by simp [h]))
    have hl := gF_last l
    rw [gF_snoc, gS]
    cases hp : (gF l).2.2 with
    | none => exact ih
    | some p =>
      rw [hp] at hl
      have hpm : p ∈ l := List.mem_of_getLast? hl.symm
      exact gStep_ok ih (Nat.xor_lt_two_pow (hx b (by simp)) (hx p (by simp [hpm])))
theorem gF_len (xs : List Nat) : (gF xs).1.length ≤ 77 * xs.length := by
  induction xs using snoc_ind with
  | h0 => simp [gF]
  | h1 l b ih =>
    rw [gF_snoc, gS, List.length_append, List.length_singleton]
    cases (gF l).2.2 with
    | none => simp only [binB_len]; omega
    | some p => have := @gStep_len (gF l).2.1 (b ^^^ p); simp only [List.length_append]; omega
theorem gStep_bit {w : Option (Nat × Nat)} {x : Nat} : ∀ y ∈ (gStep w x).1, y < 2 := by
  by_cases h0 : x = 0
  · subst h0; rw [gStep_zero]; simp
  · cases hf : fitsW w x with
    | true =>
      rcases w with _ | ⟨l, t⟩
      · simp [fitsW] at hf
      · rw [gStep_fits h0 hf]
        intro y hy
        simp only [List.mem_append, List.mem_cons, List.not_mem_nil, or_false] at hy
        rcases hy with (rfl | rfl) | hy
        · omega
        · omega
        · exact binB_bit _ _ y hy
    | false =>
      rw [gStep_new h0 hf]
      intro y hy
      simp only [List.mem_append, List.mem_cons, List.not_mem_nil, or_false] at hy
      rcases hy with (((rfl | rfl) | hy) | hy) | hy
      · omega
      · omega
      all_goals exact binB_bit _ _ y hy
theorem gF_bit (xs : List Nat) : ∀ y ∈ (gF xs).1, y < 2 := by
  induction xs using snoc_ind with
  | h0 => simp [gF]
  | h1 l b ih =>
    rw [gF_snoc, gS]
    cases (gF l).2.2 with
    | none => exact binB_bit _ _
    | some p =>
      intro y hy
      simp only [List.mem_append] at hy
      rcases hy with hy | hy
      · exact ih y hy
      · exact gStep_bit y hy
def enc09 (xs : List Nat) : List Nat := pk (gF xs).1
end Go.Ck

set_option linter.unusedVariables false
set_option maxRecDepth 10000
namespace Go.Ck
open Go.Proofs

theorem eqWin : EqTwo Tryd.prog 92 := EqTwo.of (i := 3) (by kernel_rfl) (by kernel_rfl) (by kernel_rfl) (by kernel_rfl) (by kernel_rfl)

theorem none_fn : Fn Tryd.prog 58 [] [] (fun rs H' => rs = [.pv (.agg [.int .i64 (-1), .int .i64 0])] ∧ H' = []) := by
  refine Fn.of_body (fn := Tryd.f58) (n := 2) (res := [.cell 0 92]) (by kernel_rfl) rfl rfl rfl rfl rfl (fun C => ?_)
  refine AW.go ?_
  refine AW.finE (.pv _ .nil) rfl

theorem of_fn (v : Nat) (h0 : v ≠ 0) (hv : v < 2 ^ 64) : Fn Tryd.prog 60 [] [.pv (.int .u64 v)] (fun rs H' => rs = [.pv (.agg [.int .i64 ((min (64 - blen v) 31 : Nat) : Int), .int .i64 (tzn v : Nat)])] ∧ H' = []) := by
  refine Fn.of_body (fn := Tryd.f60) (n := 9) (res := [.cell 2 92]) (by kernel_rfl) rfl rfl rfl rfl rfl (fun C => ?_)
  refine AW.go ?_
  refine AW.callE (fun _ => 0) (lz_fn v hv) (.pv _ .nil) ?_
  have hm : (if (31 : Int) < ((64 - blen v : Nat) : Int) then (31 : Int) else ((64 - blen v : Nat) : Int)) = ((min (64 - blen v) 31 : Nat) : Int) := by split <;> omega
  refine AW.go ?_ (by simp only [go_sem, ↓reduceIte, hm] <;> rfl)
  have ht := tz_fn v hv
  rw [if_neg h0] at ht
  refine AW.callE (fun _ => 0) ht (.pv _ .nil) ?_
  refine AW.go ?_
  refine AW.finE (.pv _ .nil) rfl

theorem rest_fn (l t : Nat) (h : l + t ≤ 64) : Fn Tryd.prog 61 [] [.pv (.agg [.int .i64 l, .int .i64 t])] (fun rs H' => rs = [.pv (.int .i64 ((64 - l - t : Nat) : Int))] ∧ H' = []) := by
  refine Fn.of_body (fn := Tryd.f61) (n := 9) (res := [.tmp 2]) (by kernel_rfl) rfl rfl rfl rfl rfl (fun C => ?_)
  have e : IntKind.i64.wrap (IntKind.i64.wrap (64 - (l : Int)) - (t : Int)) = ((64 - l - t : Nat) : Int) := by
    rw [wrap_i64_of (n := 64 - (l : Int)) (by omega) (by omega), wrap_i64_of (by omega) (by omega)]; omega
  refine AW.go ?_ (by simp only [go_sem, ↓reduceIte, e] <;> rfl)
  refine AW.finE (.pv _ .nil) rfl

/-- A window, as it is kept. -/
def winV : Option (Nat × Nat) → PV
  | none => .agg [.int .i64 (-1), .int .i64 0]
  | some (l, t) => .agg [.int .i64 l, .int .i64 t]
theorem fits_fn (wn : Option (Nat × Nat)) (v : Nat) (h0 : v ≠ 0) (hv : v < 2 ^ 64) : Fn Tryd.prog 59 [] [.pv (winV wn), .pv (.int .u64 v)] (fun rs H' => rs = [.pv (.bool (fitsW wn v))] ∧ H' = []) := by
  refine Fn.of_body (fn := Tryd.f59) (n := 22) (res := [.tmp 4]) (by kernel_rfl) rfl rfl rfl rfl rfl (fun C => ?_)
  have ht := tz_fn v hv
  rw [if_neg h0] at ht
  rcases wn with _ | ⟨l, t⟩
  · simp only [winV, fitsW]
    refine AW.go ?_
    refine AW.any0 mixed ?_
    refine via (T := ?T1) (fun hT => ?_) ?_
    rotate_left
    · refine AW.branch (rs := [0, 1]) ?_ (by decide +kernel) (by simp)
      intro j hj
      simp only [List.mem_cons, List.not_mem_nil, or_false] at hj
      rcases hj with rfl | rfl
      · refine AW.go ?_
        refine AW.seqs (fuel := 16) (listed' := #[true, true, false, false, false, false, false, false, false, false, false, false, false, false, false, false, false, false]) [1] ?_ (by decide +kernel)
        refine AW.go ?_
        refine AW.callE (fun _ => 0) none_fn .nil ?_
        refine AW.go ?_
        refine AW.keepB [2, 4, 5, 6, 1] [2] (by simp only [go_sem, ↓reduceIte]) (by simp only [go_sem, ↓reduceIte] <;> rfl) ?_
        exact hT ()
      · refine AW.go ?_
        refine AW.callE (fun _ => 0) none_fn .nil ?_
        refine AW.go ?_
        refine AW.seqs (fuel := 16) (listed' := #[true, true, false, false, false, false, false, false, false, false, false, false, false, false, false, false, false, false]) [0] ?_ (by decide +kernel)
        refine AW.go ?_
        refine AW.keepB [2, 4, 5, 6, 1] [2] (by simp only [go_sem, ↓reduceIte]) (by simp only [go_sem, ↓reduceIte] <;> rfl) ?_
        exact hT ()
    refine AW.seqs (fuel := 14) (listed' := #[true, true, true, true, false, false, false, false, false, false, false, false, false, false, false, false, false, false]) [2, 3] ?_ (by decide +kernel)
    refine AW.go ?_
    refine AW.neq2 (ho := rfl) eqWin rfl rfl ?_
    refine AW.gg ?_
    refine AW.takes (fuel := 11) [4, 6, 7] ?_ (by simp only [go_sem, ↓reduceIte] <;> rfl) Ends.noPanic (listed' := #[true, true, true, true, true, false, true, true, false, false, false, false, false, false, false, false, false, false]) (by decide +kernel) (by decide +kernel)
    refine AW.seqs (fuel := 7) (listed' := #[true, true, true, true, true, true, true, true, true, true, true, false, false, false, false, false, false, false]) [5, 8, 9, 10] ?_ (by decide +kernel)
    refine AW.gg ?_
    refine AW.takes (fuel := 4) [11, 13, 14] ?_ (by simp only [go_sem, ↓reduceIte] <;> rfl) Ends.noPanic (listed' := #[true, true, true, true, true, true, true, true, true, true, true, true, false, true, true, false, false, false]) (by decide +kernel) (by decide +kernel)
    refine AW.seqs (fuel := 0) (listed' := #[true, true, true, true, true, true, true, true, true, true, true, true, true, true, true, true, true, true]) [12, 15, 16, 17] ?_ (by decide +kernel)
    refine AW.gg ?_
    refine AW.anyDone (by decide +kernel) ?_
    refine AW.go ?_
    refine AW.finE (.pv _ .nil) rfl
  · simp only [winV, fitsW]
    refine AW.go ?_
    refine AW.any0 mixed ?_
    refine via (T := ?T2) (fun hT => ?_) ?_
    rotate_left
    · refine AW.branch (rs := [0, 1]) ?_ (by decide +kernel) (by simp)
      intro j hj
      simp only [List.mem_cons, List.not_mem_nil, or_false] at hj
      rcases hj with rfl | rfl
      · refine AW.go ?_
        refine AW.seqs (fuel := 16) (listed' := #[true, true, false, false, false, false, false, false, false, false, false, false, false, false, false, false, false, false]) [1] ?_ (by decide +kernel)
        refine AW.go ?_
        refine AW.callE (fun _ => 0) none_fn .nil ?_
        refine AW.go ?_
        refine AW.keepB [2, 4, 5, 6, 1] [2] (by simp only [go_sem, ↓reduceIte]) (by simp only [go_sem, ↓reduceIte] <;> rfl) ?_
        exact hT ()
      · refine AW.go ?_
        refine AW.callE (fun _ => 0) none_fn .nil ?_
        refine AW.go ?_
        refine AW.seqs (fuel := 16) (listed' := #[true, true, false, false, false, false, false, false, false, false, false, false, false, false, false, false, false, false]) [0] ?_ (by decide +kernel)
        refine AW.go ?_
        refine AW.keepB [2, 4, 5, 6, 1] [2] (by simp only [go_sem, ↓reduceIte]) (by simp only [go_sem, ↓reduceIte] <;> rfl) ?_
        exact hT ()
    have hne : (!((l : Int) == -1 && (t : Int) == 0)) = true := by simp
    refine AW.seqs (fuel := 14) (listed' := #[true, true, true, true, false, false, false, false, false, false, false, false, false, false, false, false, false, false]) [2, 3] ?_ (by decide +kernel)
    refine AW.go ?_
    refine AW.neq2 (ho := rfl) eqWin rfl rfl ?_
    rw [hne]
    refine AW.gg ?_
    refine AW.takes (fuel := 12) [4, 6] ?_ (by simp only [go_sem, ↓reduceIte] <;> rfl) Ends.noPanic (listed' := #[true, true, true, true, true, false, true, false, false, false, false, false, false, false, false, false, false, false]) (by decide +kernel) (by decide +kernel)
    refine via (T := ?T3) (fun hT => ?_) ?_
    rotate_left
    · refine AW.branch (fuel := 11) (rs := [5, 7]) ?_ (by decide +kernel) (by simp)
      intro j hj
      simp only [List.mem_cons, List.not_mem_nil, or_false] at hj
      rcases hj with rfl | rfl
      · refine AW.gg ?_
        refine AW.guardT rfl rfl ?_
        refine AW.callE (fun _ => 0) (lz_fn v hv) (.pv _ .nil) ?_
        refine AW.go ?_
        refine AW.seqs (fuel := 10) (listed' := #[true, true, true, true, true, true, true, true, false, false, false, false, false, false, false, false, false, false]) [7] ?_ (by decide +kernel)
        refine AW.gg ?_
        refine AW.keepB [2, 4, 8, 10, 12, 1] [2] (by simp only [go_sem, ↓reduceIte]) (by simp only [go_sem, ↓reduceIte] <;> rfl) ?_
        exact hT ()
      · refine AW.gg ?_
        refine AW.seqs (fuel := 10) (listed' := #[true, true, true, true, true, true, true, true, false, false, false, false, false, false, false, false, false, false]) [5] ?_ (by decide +kernel)
        refine AW.gg ?_
        refine AW.guardT rfl rfl ?_
        refine AW.callE (fun _ => 0) (lz_fn v hv) (.pv _ .nil) ?_
        refine AW.gg ?_
        refine AW.keepB [2, 4, 8, 10, 12, 1] [2] (by simp only [go_sem, ↓reduceIte]) (by simp only [go_sem, ↓reduceIte] <;> rfl) ?_
        exact hT ()
    have hge : decide (((64 - blen v : Nat) : Int) ≥ (l : Int)) = decide (l ≤ 64 - blen v) := by rw [Bool.eq_iff_iff]; simp
    refine AW.seqs (fuel := 7) (listed' := #[true, true, true, true, true, true, true, true, true, true, true, false, false, false, false, false, false, false]) [8, 9, 10] ?_ (by decide +kernel)
    by_cases hl : l ≤ 64 - blen v
    · have hl2 : decide (l ≤ 64 - blen v) = true := decide_eq_true hl
      rw [hl2] at hge ⊢
      refine AW.gg ?_ (by simp only [go_sem, ↓reduceIte, hl2] <;> rfl)
      refine AW.takes (fuel := 5) [11, 13] ?_ (by simp only [go_sem, ↓reduceIte] <;> rfl) Ends.noPanic (listed' := #[true, true, true, true, true, true, true, true, true, true, true, true, false, true, false, false, false, false]) (by decide +kernel) (by decide +kernel)
      refine via (T := ?T8) (fun hT => ?_) ?_
      rotate_left
      · refine AW.branch (fuel := 4) (rs := [12, 14]) ?_ (by decide +kernel) (by simp)
        intro j hj
        simp only [List.mem_cons, List.not_mem_nil, or_false] at hj
        rcases hj with rfl | rfl
        · refine AW.gg ?_
          refine AW.guardT rfl rfl ?_
          refine AW.callE (fun _ => 0) ht (.pv _ .nil) ?_
          refine AW.go ?_
          refine AW.seqs (fuel := 3) (listed' := #[true, true, true, true, true, true, true, true, true, true, true, true, true, true, true, false, false, false]) [14] ?_ (by decide +kernel)
          refine AW.gg ?_
          refine AW.keepB [4, 15, 17, 19] [] (by simp only [go_sem, ↓reduceIte]) (by simp only [go_sem, ↓reduceIte] <;> rfl) ?_
          exact hT ()
        · refine AW.gg ?_
          refine AW.seqs (fuel := 3) (listed' := #[true, true, true, true, true, true, true, true, true, true, true, true, true, true, true, false, false, false]) [12] ?_ (by decide +kernel)
          refine AW.gg ?_
          refine AW.guardT rfl rfl ?_
          refine AW.callE (fun _ => 0) ht (.pv _ .nil) ?_
          refine AW.gg ?_
          refine AW.keepB [4, 15, 17, 19] [] (by simp only [go_sem, ↓reduceIte]) (by simp only [go_sem, ↓reduceIte] <;> rfl) ?_
          exact hT ()
      refine AW.seqs (fuel := 0) (listed' := #[true, true, true, true, true, true, true, true, true, true, true, true, true, true, true, true, true, true]) [15, 16, 17] ?_ (by decide +kernel)
      have hge2 : decide (((tzn v : Nat) : Int) ≥ (t : Int)) = decide (t ≤ tzn v) := by rw [Bool.eq_iff_iff]; simp
      refine AW.gg ?_
      refine AW.anyDone (by decide +kernel) ?_
      refine AW.go ?_
      refine AW.finE (.pv _ .nil) ?_
      simp
    · have hl2 : decide (l ≤ 64 - blen v) = false := decide_eq_false hl
      rw [hl2] at hge ⊢
      refine AW.gg ?_ (by simp only [go_sem, ↓reduceIte, hl2] <;> rfl)
      refine AW.takes (fuel := 4) [11, 13, 14] ?_ (by simp only [go_sem, ↓reduceIte] <;> rfl) Ends.noPanic (listed' := #[true, true, true, true, true, true, true, true, true, true, true, true, false, true, true, false, false, false]) (by decide +kernel) (by decide +kernel)
      refine AW.seqs (fuel := 0) (listed' := #[true, true, true, true, true, true, true, true, true, true, true, true, true, true, true, true, true, true]) [12, 15, 16, 17] ?_ (by decide +kernel)
      refine AW.gg ?_
      refine AW.anyDone (by decide +kernel) ?_
      refine AW.go ?_
      refine AW.finE (.pv _ .nil) rfl
end Go.Ck

set_option linter.unusedVariables false
set_option maxRecDepth 10000
set_option maxHeartbeats 1000000
namespace Go.Ck
open Go.Proofs

def winA : Option (Nat × Nat) → Int
  | none => -1
  | some (l, _) => l
def winB : Option (Nat × Nat) → Int
  | none => -1
  | some (_, t) => t
theorem prevOf {xs : List Nat} {i : Nat} (h : i < xs.length) (h0 : i ≠ 0) : (gF (xs.take i)).2.2 = some (xs.getD (i - 1) 0) := by
  rw [gF_last, List.getLast?_eq_getElem?, List.length_take, List.getElem?_take, List.getD_eq_getElem?_getD]
  rw [show min i xs.length = i by omega, if_pos (by omega), List.getElem?_eq_getElem (by omega)]
  rfl

theorem ref09Enc_fn (xs : List Nat) (hx : ∀ x ∈ xs, x < 2 ^ 64) : Fn Tryd.prog 34 [] [.pv (.sl 1 (u64s xs))]
    (fun rs H' => rs = [.own 5 (bytes (if xs.length ≤ 65536 then enc09 xs else [])), .pv (.int .i64 (if xs.length ≤ 65536 then 0 else 4))] ∧ H' = []) := by
  refine Fn.of_body (fn := Tryd.f34) (n := 95) (res := [.tmp 2, .tmp 3]) (by kernel_rfl) rfl rfl rfl rfl rfl (fun C => ?_)
  have hr : room = 140737488355328 := rfl
  refine AW.go ?_
  refine AW.cond rfl (fun hc => ?_) (fun hc => ?_)
  · have hle : ¬ xs.length ≤ 65536 := by simp at hc; omega
    simp only [if_neg hle]
    refine AW.go ?_
    refine AW.finE (.move rfl (.pv _ .nil)) rfl
  have hle : xs.length ≤ 65536 := by simp at hc; omega
  simp only [if_pos hle]
  refine AW.go ?_
  refine AW.loopS (fun i : Nat => ⟨95, [(7, .pv (.int .i64 i)), (4, .own 3 (nis (gF (xs.take i)).1)), (5, .pv (.int .i64 (winA (gF (xs.take i)).2.1))), (6, .pv (.int .i64 (winB (gF (xs.take i)).2.1))), (0, .pv (.sl 1 (u64s xs)))], []⟩) (fun i => i ≤ xs.length) (fun i => xs.length - i) [7, 4, 5, 6, 0] [] 0 (Nat.zero_le _) ?_
  rintro i hi K hK
  refine AW.go ?_
  refine AW.cond rfl (fun hc => ?_) (fun hc => ?_)
  · have hlt : i < xs.length := by simpa using hc
    have hget := u64s_get hlt
    have hxx := hx _ (List.getElem_mem hlt)
    have hti : xs.take (i + 1) = xs.take i ++ [xs[i]] := by simp
    have hsn := gF_snoc (xs.take i) xs[i]
    rw [← hti] at hsn
    have ei : IntKind.i64.wrap ((i : Int) + 1) = ((i + 1 : Nat) : Int) := wrap_i64_succ (by omega)
    have hgl := gF_len (xs.take i)
    have htl : (xs.take i).length = i := by simp; omega
    have hok := gF_ok (xs.take i) (fun x h => hx x (List.mem_of_mem_take h))
    by_cases h0 : i = 0
    · subst h0
      generalize xs[0] = x at *
      have hg0 : gF (xs.take (0 + 1)) = (binB x 64, none, some x) := by rw [hsn]; rfl
      refine AW.go ?_
      refine AW.condT rfl ?_
      refine AW.go ?_ (by simp only [go_sem, ↓reduceIte, hget] <;> rfl)
      refine AW.callE (fun _ => 0) (put09_fn [] x 64 (by omega) hxx (by simp; omega)) (.nilsP 1 (.pv _ (.pv _ .nil))) ?_
      refine AW.go ?_ (by simp only [go_sem, ↓reduceIte, List.nil_append, ei] <;> rfl)
      refine AW.again hK (0 + 1) hlt (by omega) (by simp only [go_sem, ↓reduceIte]) (by simp only [go_sem, ↓reduceIte, hg0] <;> rfl)
    have hi1 : i - 1 < xs.length := by omega
    have hget1 := u64s_get hi1
    have hxx1 := hx _ (List.getElem_mem hi1)
    have hpr := prevOf hlt h0
    rw [← getD_get hi1] at hpr
    generalize xs[i] = x at *
    generalize xs[i - 1] = p at *
    have hgs : gS (gF (xs.take i)) x = ((gF (xs.take i)).1 ++ (gStep (gF (xs.take i)).2.1 (x ^^^ p)).1, (gStep (gF (xs.take i)).2.1 (x ^^^ p)).2, some x) := by rw [gS, hpr]
    rw [hgs] at hsn
    have hxo : x ^^^ p < 2 ^ 64 := Nat.xor_lt_two_pow hxx hxx1
    have ex := ibits_xor64 hxx hxx1
    have e0 : ((i : Int) == 0) = false := by simp; omega
    have e1 : IntKind.i64.wrap ((i : Int) - 1) = ((i - 1 : Nat) : Int) := by rw [wrap_i64_of (by omega) (by omega)]; omega
    generalize x ^^^ p = y at *
    generalize gF (xs.take i) = g at *
    obtain ⟨bs, wn, pv⟩ := g
    simp only at hsn hgl hok hpr ⊢
    refine AW.go ?_
    refine AW.condF (by rw [← e0]; rfl) ?_
    refine AW.go ?_
    refine AW.sr mixed (by decide +kernel) ?_ (by simp only [go_sem, ↓reduceIte, hget, hget1, e1, ex] <;> rfl)
    refine AW.go ?_
    refine AW.cond rfl (fun hc2 => ?_) (fun hc2 => ?_)
    · have hy : y = 0 := by simp at hc2; omega
      subst hy
      rw [gStep_zero] at hsn
      have h1 : (bs.length + 1) * 8 ≤ room := by omega
      have h2 : bs.length + 1 ≤ room := by omega
      have n00 : [PV.int .i64 0] = nis [0] := rfl
      refine AW.go ?_ (by simp only [go_sem, ↓reduceIte, h1, h2, ei] <;> rfl)
      refine AW.again hK (i + 1) hlt (by omega) (by simp only [go_sem, ↓reduceIte]) (by simp only [go_sem, ↓reduceIte, hsn, n00] <;> rfl)
    have hy : y ≠ 0 := by simp at hc2; omega
    have hb64 := blen_le.2 hxo
    have e64 : IntKind.i64.wrap (64 - ((blen y : Nat) : Int)) = ((64 - blen y : Nat) : Int) := by rw [wrap_i64_of (by omega) (by omega)]; omega
    cases hf : fitsW wn y with
    | true =>
      rcases wn with _ | ⟨l, t⟩
      · cases hf
      rw [gStep_fits hy hf] at hsn
      simp only [fitsW, Bool.and_eq_true] at hf
      obtain ⟨hf1, hf2⟩ := hf
      have hlt64 : l + t ≤ 63 := (hok l t rfl).1
      have hl1 : l ≤ 64 - blen y := by simpa using hf1
      have hfit := fit_lt hxo hl1 hlt64
      have hw : decide ((l : Int) ≥ 0) = true := by simp
      have ht2 : decide (((tzn y : Nat) : Int) ≥ (t : Int)) = true := by simp at hf2 ⊢; omega
      have hl2 : decide (((64 - blen y : Nat) : Int) ≥ (l : Int)) = true := by simp; omega
      refine AW.gg ?_ (by simp only [go_sem, ↓reduceIte, winA, hw] <;> rfl)
      refine AW.guardT rfl rfl ?_
      refine AW.callE (fun _ => 0) (refWidth_fn y hxo) (.pv _ .nil) ?_
      refine AW.gg ?_ (by simp only [go_sem, ↓reduceIte, winA, e64, hf1] <;> rfl)
      refine AW.guardT rfl rfl ?_
      refine AW.callE (fun _ => 0) (trail_fn y hy hxo) (.pv _ .nil) ?_
      refine AW.gg ?_ (by simp only [go_sem, ↓reduceIte, winB, hf2] <;> rfl)
      refine AW.condT rfl ?_
      have eut : IntKind.u64.wrap ((t : Nat) : Int) = (t : Nat) := wrap_u64_lt (by omega)
      have esh : shrI .u64 ((y : Nat) : Int) ((t : Nat) : Int) = ((y / 2 ^ t : Nat) : Int) := shrI_nat .u64 y t (by show t ≤ 64; omega)
      have ewd : IntKind.i64.wrap (IntKind.i64.wrap (64 - (l : Int)) - (t : Int)) = ((64 - l - t : Nat) : Int) := by
        rw [wrap_i64_of (n := 64 - (l : Int)) (by omega) (by omega), wrap_i64_of (by omega) (by omega)]; omega
      refine AW.go ?_ (by simp only [go_sem, ↓reduceIte, winA, winB, eut, esh, ewd] <;> rfl)
      have hput := put09_fn [1, 0] (y / 2 ^ t) (64 - l - t) (by omega) hfit (by simp; omega)
      have hql : ([1, 0] ++ binB (y / 2 ^ t) (64 - l - t)).length ≤ 77 := by simp [binB_len]; omega
      generalize [1, 0] ++ binB (y / 2 ^ t) (64 - l - t) = q at hput hql hsn
      refine AW.callE (fun _ => 0) hput (.lend rfl co_3 (.pv _ (.pv _ .nil))) ?_
      have h1 : (bs.length + q.length) * 8 ≤ room := by omega
      have h2 : bs.length + q.length ≤ room := by omega
      refine AW.go ?_ (by simp only [go_sem, ↓reduceIte, h1, h2, ei] <;> rfl)
      refine AW.again hK (i + 1) hlt (by omega) (by simp only [go_sem, ↓reduceIte]) (by simp only [go_sem, ↓reduceIte, hsn, winA, winB] <;> rfl)
    | false =>
      rw [gStep_new hy hf] at hsn
      obtain ⟨hn1, hn2⟩ := newW_ok hy hxo
      have hfit := fit_lt hxo (newW_fits (x := y)).1 hn1
      refine via (T := ?T1) (fun hT => ?_) ?_
      rotate_left
      · rcases wn with _ | ⟨l, t⟩
        · have hw : decide (winA none ≥ 0) = false := by decide
          refine AW.gg ?_ (by simp only [go_sem, ↓reduceIte, hw] <;> rfl)
          refine AW.condF rfl ?_
          refine AW.keepB [9, 7, 4, 0, 8] [] (by simp only [go_sem, ↓reduceIte]) (by simp only [go_sem, ↓reduceIte] <;> rfl) ?_
          exact hT ()
        · simp only [fitsW] at hf
          have hw : decide ((l : Int) ≥ 0) = true := by simp
          refine AW.gg ?_ (by simp only [go_sem, ↓reduceIte, winA, hw] <;> rfl)
          refine AW.guardT rfl rfl ?_
          refine AW.callE (fun _ => 0) (refWidth_fn y hxo) (.pv _ .nil) ?_
          by_cases hl : l ≤ 64 - blen y
          · have hf1 : decide (l ≤ 64 - blen y) = true := decide_eq_true hl
            have hf2 : decide (t ≤ tzn y) = false := by rw [hf1] at hf; simpa using hf
            refine AW.gg ?_ (by simp only [go_sem, ↓reduceIte, winA, e64, hf1] <;> rfl)
            refine AW.guardT rfl rfl ?_
            refine AW.callE (fun _ => 0) (trail_fn y hy hxo) (.pv _ .nil) ?_
            refine AW.gg ?_ (by simp only [go_sem, ↓reduceIte, winB, hf2] <;> rfl)
            refine AW.condF rfl ?_
            refine AW.keepB [9, 7, 4, 0, 8] [] (by simp only [go_sem, ↓reduceIte]) (by simp only [go_sem, ↓reduceIte] <;> rfl) ?_
            exact hT ()
          · have hf1 : decide (l ≤ 64 - blen y) = false := decide_eq_false hl
            refine AW.gg ?_ (by simp only [go_sem, ↓reduceIte, winA, e64, hf1] <;> rfl)
            refine AW.condF rfl ?_
            refine AW.keepB [9, 7, 4, 0, 8] [] (by simp only [go_sem, ↓reduceIte]) (by simp only [go_sem, ↓reduceIte] <;> rfl) ?_
            exact hT ()
      refine AW.go ?_
      refine AW.callE (fun _ => 0) (lead_fn y hxo) (.pv _ .nil) ?_
      refine AW.go ?_
      refine AW.callE (fun _ => 0) (trail_fn y hy hxo) (.pv _ .nil) ?_
      have hN1 : min (64 - blen y) 31 = (newW y).1 := rfl
      have hN2 : tzn y = (newW y).2 := rfl
      rw [hN1, hN2]
      generalize newW y = nw at *
      obtain ⟨l, t⟩ := nw
      simp only at hn1 hn2 hfit hsn ⊢
      have eul : IntKind.u64.wrap ((l : Nat) : Int) = (l : Nat) := wrap_u64_lt (by omega)
      have eut : IntKind.u64.wrap ((t : Nat) : Int) = (t : Nat) := wrap_u64_lt (by omega)
      have esh : shrI .u64 ((y : Nat) : Int) ((t : Nat) : Int) = ((y / 2 ^ t : Nat) : Int) := shrI_nat .u64 y t (by show t ≤ 64; omega)
      have ewd : IntKind.i64.wrap (IntKind.i64.wrap (64 - (l : Int)) - (t : Int)) = ((64 - l - t : Nat) : Int) := by
        rw [wrap_i64_of (n := 64 - (l : Int)) (by omega) (by omega), wrap_i64_of (by omega) (by omega)]; omega
      have ew3 : IntKind.u64.wrap (IntKind.i64.wrap (IntKind.i64.wrap (63 - (l : Int)) - (t : Int))) = ((63 - l - t : Nat) : Int) := by
        rw [wrap_i64_of (n := 63 - (l : Int)) (by omega) (by omega), wrap_i64_of (by omega) (by omega)]
        rw [show (63 : Int) - l - t = ((63 - l - t : Nat) : Int) by omega]; exact wrap_u64_lt (by omega)
      have hput1 := put09_fn [1, 1] l 5 (by omega) (by omega) (by simp; omega)
      have hput2 := put09_fn ([1, 1] ++ binB l 5) (63 - l - t) 6 (by omega) (by omega) (by simp [binB_len]; omega)
      have hput3 := put09_fn ([1, 1] ++ binB l 5 ++ binB (63 - l - t) 6) (y / 2 ^ t) (64 - l - t) (by omega) hfit (by simp [binB_len]; omega)
      have hql : ([1, 1] ++ binB l 5 ++ binB (63 - l - t) 6 ++ binB (y / 2 ^ t) (64 - l - t)).length ≤ 77 := by simp [binB_len]; omega
      generalize [1, 1] ++ binB l 5 = q1 at hput1 hput2 hput3 hql hsn
      generalize q1 ++ binB (63 - l - t) 6 = q2 at hput2 hput3 hql hsn
      generalize q2 ++ binB (y / 2 ^ t) (64 - l - t) = q at hput3 hql hsn
      refine AW.go ?_ (by simp only [go_sem, ↓reduceIte, eul] <;> rfl)
      refine AW.callE (fun _ => 0) hput1 (.lend rfl co_3 (.pv _ (.pv _ .nil))) ?_
      refine AW.go ?_ (by simp only [go_sem, ↓reduceIte, ew3] <;> rfl)
      refine AW.callE (fun _ => 0) hput2 (.lend rfl co_3 (.pv _ (.pv _ .nil))) ?_
      refine AW.go ?_ (by simp only [go_sem, ↓reduceIte, eut, esh, ewd] <;> rfl)
      refine AW.callE (fun _ => 0) hput3 (.lend rfl co_3 (.pv _ (.pv _ .nil))) ?_
      have h1 : (bs.length + q.length) * 8 ≤ room := by omega
      have h2 : bs.length + q.length ≤ room := by omega
      refine AW.go ?_ (by simp only [go_sem, ↓reduceIte, h1, h2, ei] <;> rfl)
      refine AW.again hK (i + 1) hlt (by omega) (by simp only [go_sem, ↓reduceIte]) (by simp only [go_sem, ↓reduceIte, hsn, winA, winB] <;> rfl)
  · have hge : ¬ i < xs.length := by simpa using hc
    rw [List.take_of_length_le (by omega)]
    have hgl := gF_len xs
    refine AW.go ?_
    refine AW.callE (fun _ => 0) (refBits_fn (gF xs).1 (by omega) (gF_bit xs)) (.lend rfl co_3 .nil) ?_
    refine AW.go ?_
    refine AW.finE (.move rfl (.pv _ .nil)) rfl
end Go.Ck

set_option linter.unusedVariables false
set_option maxRecDepth 10000
set_option maxHeartbeats 1000000
namespace Go.Ck
open Go.Proofs

def gwB : Option (Nat × Nat) → Int
  | none => 0
  | some (_, t) => t
theorem winV_eq (wn : Option (Nat × Nat)) : winV wn = .agg [.int .i64 (winA wn), .int .i64 (gwB wn)] := by
  rcases wn with _ | ⟨l, t⟩ <;> rfl

theorem gorEnc_fn (xs : List Nat) (hx : ∀ x ∈ xs, x < 2 ^ 64) : Fn Tryd.prog 30 [] [.pv (.sl 1 (u64s xs))]
    (fun rs H' => rs = [.own 5 (bytes (if xs.length ≤ 65536 then enc09 xs else [])), .pv (.int .i64 (if xs.length ≤ 65536 then 0 else 4))] ∧ H' = []) := by
  refine Fn.of_body (fn := Tryd.f30) (n := 71) (res := [.tmp 2, .tmp 3]) (by kernel_rfl) rfl rfl rfl rfl rfl (fun C => ?_)
  have hr : room = 140737488355328 := rfl
  refine AW.go ?_
  refine AW.cond rfl (fun hc => ?_) (fun hc => ?_)
  · have hle : ¬ xs.length ≤ 65536 := by simp at hc; omega
    simp only [if_neg hle]
    refine AW.go ?_
    refine AW.finE (.move rfl (.pv _ .nil)) rfl
  have hle : xs.length ≤ 65536 := by simp at hc; omega
  simp only [if_pos hle]
  refine AW.go ?_
  refine AW.callE (fun _ => 0) none_fn .nil ?_
  refine AW.go ?_
  refine AW.nilsOwnAt (.cell 13 0) 5 ?_
  refine AW.loopS (fun i : Nat => ⟨71, [(17, .pv (.int .i64 i)), (16, .pv (.int .i64 xs.length)), (15, .pv (.sl 1 (u64s xs))), (4, .ptr 13 0), (5, .ptr 5 0), (0, .pv (.sl 1 (u64s xs)))], [(13, .cells 88 [.own 5 (bytes (pk (gF (xs.take i)).1)), .pv (.int .i64 (gF (xs.take i)).1.length)]), (5, .cells 92 [.pv (.int .i64 (winA (gF (xs.take i)).2.1)), .pv (.int .i64 (gwB (gF (xs.take i)).2.1))])]⟩) (fun i => i ≤ xs.length) (fun i => xs.length - i) [17, 16, 15, 4, 5, 0] [13, 5] 0 (Nat.zero_le _) ?_
  rintro i hi K hK
  refine AW.go ?_
  refine AW.cond rfl (fun hc => ?_) (fun hc => ?_)
  · have hlt : i < xs.length := by simpa using hc
    have hget := u64s_get hlt
    have hxx := hx _ (List.getElem_mem hlt)
    have hti : xs.take (i + 1) = xs.take i ++ [xs[i]] := by simp
    have hsn := gF_snoc (xs.take i) xs[i]
    rw [← hti] at hsn
    have ei : IntKind.i64.wrap ((i : Int) + 1) = ((i + 1 : Nat) : Int) := wrap_i64_succ (by omega)
    have hgl := gF_len (xs.take i)
    have htl : (xs.take i).length = i := by simp; omega
    have hok := gF_ok (xs.take i) (fun x h => hx x (List.mem_of_mem_take h))
    have hbit := gF_bit (xs.take i)
    by_cases h0 : i = 0
    · subst h0
      generalize xs[0] = x at *
      have hg0 : gF (xs.take (0 + 1)) = (binB x 64, none, some x) := by rw [hsn]; rfl
      rw [show gF (xs.take 0) = ([], none, none) from rfl]
      refine AW.go ?_ (by simp only [go_sem, ↓reduceIte, hget] <;> rfl)
      refine AW.condT rfl ?_
      refine AW.go ?_
      refine AW.callE (fun _ => 13) (wrPut_fn [] x 64 (by simp) (by omega) hxx (by simp; omega)) (.ptr rfl (.pv _ (.pv _ .nil))) ?_
      refine AW.go ?_ (by simp only [go_sem, ↓reduceIte, List.nil_append, ei] <;> rfl)
      refine AW.again hK (0 + 1) hlt (by omega) (by simp only [go_sem, ↓reduceIte]) (by simp only [go_sem, ↓reduceIte, hg0, winA, gwB] <;> rfl)
    have hi1 : i - 1 < xs.length := by omega
    have hget1 := u64s_get hi1
    have hxx1 := hx _ (List.getElem_mem hi1)
    have hpr := prevOf hlt h0
    rw [← getD_get hi1] at hpr
    generalize xs[i] = x at *
    generalize xs[i - 1] = p at *
    have hgs : gS (gF (xs.take i)) x = ((gF (xs.take i)).1 ++ (gStep (gF (xs.take i)).2.1 (x ^^^ p)).1, (gStep (gF (xs.take i)).2.1 (x ^^^ p)).2, some x) := by rw [gS, hpr]
    rw [hgs] at hsn
    have hxo : x ^^^ p < 2 ^ 64 := Nat.xor_lt_two_pow hxx hxx1
    have ex := ibits_xor64 hxx hxx1
    have e0 : ((i : Int) == 0) = false := by simp; omega
    have e1 : IntKind.i64.wrap ((i : Int) - 1) = ((i - 1 : Nat) : Int) := by rw [wrap_i64_of (by omega) (by omega)]; omega
    clear hgs
    generalize x ^^^ p = y at *
    generalize gF (xs.take i) = g at *
    obtain ⟨bs, wn, pv⟩ := g
    simp only at hsn hgl hok hpr hbit ⊢
    refine AW.go ?_ (by simp only [go_sem, ↓reduceIte, hget] <;> rfl)
    refine AW.condF (by rw [← e0]; rfl) ?_
    refine AW.go ?_ (by simp only [go_sem, ↓reduceIte, hget1, e1, ex] <;> rfl)
    refine AW.joinS (fun a : Nat × Nat × List Nat => ⟨71, [(17, .pv (.int .i64 i)), (16, .pv (.int .i64 xs.length)), (15, .pv (.sl 1 (u64s xs))), (4, .ptr 13 0), (5, .ptr 5 0), (0, .pv (.sl 1 (u64s xs))), (8, .pv (.int .u64 y))], [(13, .cells 88 [.own 5 (bytes (pk a.2.2)), .pv (.int .i64 a.2.2.length)]), (5, .cells 92 [.pv (.int .i64 a.1), .pv (.int .i64 a.2.1)])]⟩)
      (fun a => a.1 + a.2.1 ≤ 63 ∧ a.1 ≤ 64 - blen y ∧ gF (xs.take (i + 1)) = (a.2.2 ++ binB (y / 2 ^ a.2.1) (64 - a.1 - a.2.1), some (a.1, a.2.1), some x) ∧ a.2.2.length ≤ bs.length + 13 ∧ ∀ z ∈ a.2.2, z < 2) [17, 16, 15, 4, 5, 0, 8] [13, 5] ?_ ?_
    · intro K' hK'
      refine AW.cond rfl (fun hc2 => ?_) (fun hc2 => ?_)
      · have hy : y = 0 := by simp at hc2; omega
        subst hy
        rw [gStep_zero] at hsn
        refine AW.go ?_
        refine AW.callE (fun _ => 13) (wrPut_fn bs 0 1 hbit (by omega) (by omega) (by omega)) (.ptr rfl (.pv _ (.pv _ .nil))) ?_
        have hb01 : binB 0 1 = [0] := rfl
        refine AW.go ?_ (by simp only [go_sem, ↓reduceIte, hb01, ei] <;> rfl)
        refine AW.again hK (i + 1) hlt (by omega) (by simp only [go_sem, ↓reduceIte]) (by simp only [go_sem, ↓reduceIte, hsn] <;> rfl)
      have hy : y ≠ 0 := by simp at hc2; omega
      have hfits := fits_fn wn y hy hxo
      rw [winV_eq] at hfits
      refine AW.go ?_
      refine AW.callE (fun _ => 0) hfits (.pv _ (.pv _ .nil)) ?_
      refine AW.go ?_
      refine AW.cond rfl (fun hf => ?_) (fun hf => ?_)
      · rcases wn with _ | ⟨l, t⟩
        · cases hf
        rw [gStep_fits hy hf] at hsn
        simp only [fitsW, Bool.and_eq_true] at hf
        obtain ⟨hf1, hf2⟩ := hf
        have hl1 : l ≤ 64 - blen y := by simpa using hf1
        refine AW.go ?_
        refine AW.callE (fun _ => 13) (wrPut_fn bs 2 2 hbit (by omega) (by omega) (by omega)) (.ptr rfl (.pv _ (.pv _ .nil))) ?_
        refine AW.go ?_
        refine AW.meet hK' (l, t, bs ++ binB 2 2) ⟨(hok l t rfl).1, hl1, ?_, by simp [binB_len], ?_⟩
        · simp only [hsn, Prod.mk.injEq, and_true]
          rw [List.append_assoc]; rfl
        · intro z hz
          simp only [List.mem_append] at hz
          rcases hz with hz | hz
          · exact hbit z hz
          · exact binB_bit _ _ z hz
      · rw [gStep_new hy hf] at hsn
        obtain ⟨hn1, hn2⟩ := newW_ok hy hxo
        have hn3 := (newW_fits (x := y)).1
        have hof := of_fn y hy hxo
        have hN : (min (64 - blen y) 31, tzn y) = newW y := rfl
        have hN1 : min (64 - blen y) 31 = (newW y).1 := rfl
        have hN2 : tzn y = (newW y).2 := rfl
        rw [hN1, hN2] at hof
        generalize newW y = nw at *
        obtain ⟨l, t⟩ := nw
        simp only at hn1 hn2 hn3 hsn hof
        have eul : IntKind.u64.wrap ((l : Nat) : Int) = (l : Nat) := wrap_u64_lt (by omega)
        have e63 : IntKind.u64.wrap (IntKind.i64.wrap (((64 - l - t : Nat) : Int) - 1)) = ((63 - l - t : Nat) : Int) := by
          rw [wrap_i64_of (by omega) (by omega), show ((64 - l - t : Nat) : Int) - 1 = ((63 - l - t : Nat) : Int) by omega]; exact wrap_u64_lt (by omega)
        refine AW.go ?_
        refine AW.callE (fun _ => 0) hof (.pv _ .nil) ?_
        refine AW.go ?_
        refine AW.callE (fun _ => 13) (wrPut_fn bs 3 2 hbit (by omega) (by omega) (by omega)) (.ptr rfl (.pv _ (.pv _ .nil))) ?_
        have hb1 : ∀ z ∈ bs ++ binB 3 2, z < 2 := fun z hz => (List.mem_append.1 hz).elim (hbit z) (binB_bit _ _ z)
        refine AW.go ?_ (by simp only [go_sem, ↓reduceIte, eul] <;> rfl)
        refine AW.callE (fun _ => 13) (wrPut_fn (bs ++ binB 3 2) l 5 hb1 (by omega) (by omega) (by simp [binB_len]; omega)) (.ptr rfl (.pv _ (.pv _ .nil))) ?_
        have hb2 : ∀ z ∈ bs ++ binB 3 2 ++ binB l 5, z < 2 := fun z hz => (List.mem_append.1 hz).elim (hb1 z) (binB_bit _ _ z)
        refine AW.go ?_
        refine AW.callE (fun _ => 0) (rest_fn l t (by omega)) (.pv _ .nil) ?_
        refine AW.go ?_ (by simp only [go_sem, ↓reduceIte, e63] <;> rfl)
        refine AW.callE (fun _ => 13) (wrPut_fn (bs ++ binB 3 2 ++ binB l 5) (63 - l - t) 6 hb2 (by omega) (by omega) (by simp [binB_len]; omega)) (.ptr rfl (.pv _ (.pv _ .nil))) ?_
        refine AW.go ?_
        refine AW.meet hK' (l, t, bs ++ binB 3 2 ++ binB l 5 ++ binB (63 - l - t) 6) ⟨hn1, hn3, ?_, by simp [binB_len], fun z hz => (List.mem_append.1 hz).elim (hb2 z) (binB_bit _ _ z)⟩
        simp only [hsn, Prod.mk.injEq, and_true]
        simp only [List.append_assoc]; rfl
    · rintro ⟨l, t, b2⟩ ⟨j1, j2, j3, j4, j5⟩
      simp only at j1 j2 j3 j4 j5 ⊢
      have hfit := fit_lt hxo j2 j1
      have esh : shrI .u64 ((y : Nat) : Int) ((t : Nat) : Int) = ((y / 2 ^ t : Nat) : Int) := shrI_nat .u64 y t (by show t ≤ 64; omega)
      refine AW.go ?_
      refine AW.any0 mixed ?_
      refine AW.takes (fuel := 5) [0, 1, 2] ?_ (by simp only [go_sem, ↓reduceIte] <;> rfl) Ends.noPanic (listed' := #[true, true, true, false, false, false, false, false]) (by decide +kernel) (by decide +kernel)
      refine via (T := ?T1) (fun hT => ?_) ?_
      rotate_left
      · refine AW.branch (fuel := 4) (rs := [3, 5]) ?_ (by decide +kernel) (by simp)
        intro j hj
        simp only [List.mem_cons, List.not_mem_nil, or_false] at hj
        rcases hj with rfl | rfl
        · refine AW.go ?_
          refine AW.takes (fuel := 3) [4] ?_ (by simp only [go_sem, ↓reduceIte, esh] <;> rfl) Ends.noPanic (listed' := #[true, true, true, true, true, false, false, false]) (by decide +kernel) (by decide +kernel)
          refine AW.seqs (fuel := 1) (listed' := #[true, true, true, true, true, true, true, false]) [5, 6] ?_ (by decide +kernel)
          refine AW.go ?_
          refine AW.callE (fun _ => 0) (rest_fn l t (by omega)) (.pv _ .nil) ?_
          refine AW.go ?_
          refine AW.keepB [17, 16, 15, 4, 5, 0, 60, 64, 66] [13, 5] (by simp only [go_sem, ↓reduceIte]) (by simp only [go_sem, ↓reduceIte] <;> rfl) ?_
          exact hT ()
        · refine AW.go ?_
          refine AW.branch (fuel := 3) (rs := [3, 6]) ?_ (by decide +kernel) (by simp)
          intro j hj
          simp only [List.mem_cons, List.not_mem_nil, or_false] at hj
          rcases hj with rfl | rfl
          · refine AW.go ?_
            refine AW.takes (fuel := 2) [4] ?_ (by simp only [go_sem, ↓reduceIte, esh] <;> rfl) Ends.noPanic (listed' := #[true, true, true, true, true, true, false, false]) (by decide +kernel) (by decide +kernel)
            refine AW.seqs (fuel := 1) (listed' := #[true, true, true, true, true, true, true, false]) [6] ?_ (by decide +kernel)
            refine AW.go ?_
            refine AW.callE (fun _ => 0) (rest_fn l t (by omega)) (.pv _ .nil) ?_
            refine AW.go ?_
            refine AW.keepB [17, 16, 15, 4, 5, 0, 60, 64, 66] [13, 5] (by simp only [go_sem, ↓reduceIte]) (by simp only [go_sem, ↓reduceIte] <;> rfl) ?_
            exact hT ()
          · refine AW.go ?_
            refine AW.callE (fun _ => 0) (rest_fn l t (by omega)) (.pv _ .nil) ?_
            refine AW.go ?_
            refine AW.seqs (fuel := 1) (listed' := #[true, true, true, true, true, true, true, false]) [3, 4] ?_ (by decide +kernel)
            refine AW.go ?_ (by simp only [go_sem, ↓reduceIte, esh] <;> rfl)
            refine AW.keepB [17, 16, 15, 4, 5, 0, 60, 64, 66] [13, 5] (by simp only [go_sem, ↓reduceIte]) (by simp only [go_sem, ↓reduceIte] <;> rfl) ?_
            exact hT ()
      refine AW.seqs (fuel := 0) (listed' := #[true, true, true, true, true, true, true, true]) [7] ?_ (by decide +kernel)
      refine AW.go ?_
      refine AW.callE (fun _ => 13) (wrPut_fn b2 (y / 2 ^ t) (64 - l - t) j5 (by omega) hfit (by omega)) (.ptr rfl (.pv _ (.pv _ .nil))) ?_
      refine AW.go ?_
      refine AW.anyDone (by decide +kernel) ?_
      refine AW.go ?_ (by simp only [go_sem, ↓reduceIte, ei] <;> rfl)
      refine AW.again hK (i + 1) hlt (by omega) (by simp only [go_sem, ↓reduceIte]) (by simp only [go_sem, ↓reduceIte, j3, winA, gwB] <;> rfl)
  · have hge : ¬ i < xs.length := by simpa using hc
    rw [List.take_of_length_le (by omega)]
    have hgl := gF_len xs
    refine AW.go ?_
    refine AW.callE (fun _ => 13) (wrBytes_fn (gF xs).1 (by omega)) (.ptr rfl .nil) ?_
    refine AW.go ?_
    refine AW.finE (.move rfl (.pv _ .nil)) rfl
end Go.Ck

set_option linter.unusedVariables false
/-! Four ways. -/
namespace Go.Ck
def encP (xs : List Nat) : List Nat := xs.flatMap fun x => beB x 8
theorem encP_len (xs : List Nat) : (encP xs).length = 8 * xs.length := be8_len xs
def oneV (xs : List Nat) : Bool := xs.all fun x => x == xs.getD 0 0
def wayS (xs : List Nat) (w : Int) : List Nat × Int :=
  if w < 0 ∨ 4 ≤ w then ([], 1) else if 65536 < xs.length then ([], 4) else if w = 2 then (enc10 xs, 0) else if w = 3 then (enc09 xs, 0) else if w = 0 then (encP xs, 0)
  else if oneV xs = false ∨ xs = [] then ([], 1) else (encP (xs.take 1), 0)
end Go.Ck

set_option linter.unusedVariables false
set_option maxRecDepth 10000
set_option maxHeartbeats 1000000
namespace Go.Ck
open Go.Proofs

theorem plain_fn (xs : List Nat) (hl : xs.length ≤ 2 ^ 40) (hx : ∀ x ∈ xs, x < 2 ^ 64) : Fn Tryd.prog 31 [] [.pv (.sl 1 (u64s xs))] (fun rs H' => rs = [.own 5 (bytes (encP xs))] ∧ H' = []) := by
  refine Fn.of_body (fn := Tryd.f31) (n := 18) (res := [.tmp 2]) (by kernel_rfl) rfl rfl rfl rfl rfl (fun C => ?_)
  have hr : room = 140737488355328 := rfl
  refine AW.go ?_
  refine AW.loopS (fun i : Nat => ⟨18, [(8, .pv (.int .i64 i)), (7, .pv (.int .i64 xs.length)), (6, .pv (.sl 1 (u64s xs))), (3, .own 5 (bytes (encP (xs.take i))))], []⟩) (fun i => i ≤ xs.length) (fun i => xs.length - i) [8, 7, 6, 3] [] 0 (Nat.zero_le _) ?_
  rintro i hi K hK
  refine AW.go ?_
  refine AW.cond rfl (fun hc => ?_) (fun hc => ?_)
  · have hlt : i < xs.length := by simpa using hc
    have hget := u64s_get hlt
    have hxx := hx _ (List.getElem_mem hlt)
    have hti : xs.take (i + 1) = xs.take i ++ [xs[i]] := by simp
    have hel := encP_len (xs.take i)
    have hfn : encP (xs.take (i + 1)) = encP (xs.take i) ++ beB xs[i] 8 := by rw [hti, encP, List.flatMap_append]; simp [encP]
    rw [List.length_take] at hel
    generalize xs[i] = x at *
    have ei : IntKind.i64.wrap ((i : Int) + 1) = ((i + 1 : Nat) : Int) := wrap_i64_succ (by omega)
    refine AW.go ?_ (by simp only [go_sem, ↓reduceIte, hget] <;> rfl)
    refine AW.callE (fun _ => 0) (fix_fn x 8 hxx (by omega)) (.pv _ (.pv _ .nil)) ?_
    have h2 : (encP (xs.take i)).length + (beB x 8).length ≤ room := by rw [beB_len]; omega
    refine AW.go ?_ (by simp only [go_sem, ↓reduceIte, h2, ei, ← hfn] <;> rfl)
    refine AW.again hK (i + 1) hlt (by omega)
  · have hge : ¬ i < xs.length := by simpa using hc
    rw [List.take_of_length_le (by omega)]
    refine AW.go ?_
    refine AW.finE (.move rfl .nil) rfl

theorem fixed_fn (l : List Nat) (n : Nat) (hn : n ≤ 65536) (hl : l.length ≤ 2 ^ 40) (hb : ∀ x ∈ l, x < 256) : Fn Tryd.prog 74 (curO l) [.ptr 1000 0, .pv (.int .i64 n)]
    (fun rs H' => rs = [.own 38 (u64s (if 8 * n ≤ l.length then dic l n else [])), .pv (.int .i64 (if 8 * n ≤ l.length then (if l.drop (8 * n) = [] then 0 else 3) else 2))] ∧ H' = curO (if 8 * n ≤ l.length then l.drop (8 * n) else l.drop (8 * (l.length / 8)))) := by
  refine Fn.of_body (fn := Tryd.f74) (n := 28) (res := [.tmp 4, .tmp 5]) (by kernel_rfl) rfl rfl rfl rfl rfl (fun C => ?_)
  have hr : room = 140737488355328 := rfl
  refine AW.go ?_
  refine AW.loopS (fun i : Nat => ⟨28, [(10, .pv (.int .i64 i)), (9, .pv (.int .i64 n)), (6, .own 38 (u64s (dic l i))), (0, .ptr 1000 0)], curO (l.drop (8 * i))⟩) (fun i => i ≤ n ∧ 8 * i ≤ l.length) (fun i => n - i) [10, 9, 6, 0] [1000] 0 ⟨Nat.zero_le _, by omega⟩ ?_
  rintro i ⟨hi, hi2⟩ K hK
  refine AW.go ?_
  refine AW.cond rfl (fun hc => ?_) (fun hc => ?_)
  · have hlt : i < n := by simpa using hc
    have hbd : ∀ x ∈ l.drop (8 * i), x < 256 := fun x hx => hb x (List.mem_of_mem_drop hx)
    have hdl : (l.drop (8 * i)).length = l.length - 8 * i := by simp
    refine AW.go ?_
    refine AW.callE id (curFixed_fn (l.drop (8 * i)) 8 (by omega) (by omega) hbd) (.ptr rfl (.pv _ .nil)) ?_
    refine AW.go ?_
    by_cases h8 : 8 ≤ (l.drop (8 * i)).length
    · simp only [if_pos h8]
      refine AW.condF rfl ?_
      have h1 : (i + 1) * 8 ≤ room := by omega
      have h2 : i + 1 ≤ room := by omega
      have ei : IntKind.i64.wrap ((i : Int) + 1) = ((i + 1 : Nat) : Int) := wrap_i64_succ (by omega)
      have hdr : (l.drop (8 * i)).drop 8 = l.drop (8 * (i + 1)) := by rw [List.drop_drop]; congr 1
      rw [hdr]
      refine AW.go ?_ (by simp only [go_sem, ↓reduceIte, dic_len, u64s_one, h1, h2, ei, ← dic_succ] <;> rfl)
      refine AW.again hK (i + 1) ⟨hlt, by omega⟩ (by omega)
    · simp only [if_neg h8]
      have hs : ¬ 8 * n ≤ l.length := by omega
      have hq : 8 * (l.length / 8) = 8 * i := by omega
      simp only [if_neg hs, hq]
      refine AW.condT rfl ?_
      refine AW.go ?_
      refine AW.finE (.move rfl (.pv _ .nil)) rfl
  · have hge : i = n := by simp at hc; omega
    subst hge
    simp only [if_pos hi2]
    refine AW.go ?_
    refine AW.callE id (curEnd_fn (l.drop (8 * i))) (.ptr rfl .nil) ?_
    refine AW.go ?_
    refine AW.finE (.move rfl (.pv _ .nil)) rfl
end Go.Ck

set_option linter.unusedVariables false
set_option maxRecDepth 10000
set_option maxHeartbeats 1000000
namespace Go.Ck
open Go.Proofs

theorem bne_nat {a b : Nat} (h : ((a : Int) != (b : Int)) = true) : a ≠ b := by simp at h; omega
theorem beq_nat {a b : Nat} (h : ((a : Int) != (b : Int)) = false) : a = b := by simp at h; omega
theorem oneV_false {xs : List Nat} {i : Nat} (h : i < xs.length) (hne : xs[i] ≠ xs.getD 0 0) : oneV xs = false := by
  rw [oneV, List.all_eq_false]
  exact ⟨xs[i], List.getElem_mem h, by simpa using hne⟩
theorem oneV_true {xs : List Nat} (h : ∀ j, j < xs.length → xs.getD j 0 = xs.getD 0 0) : oneV xs = true := by
  rw [oneV, List.all_eq_true]
  intro x hx
  obtain ⟨j, hj, rfl⟩ := List.mem_iff_getElem.1 hx
  have := h j hj
  rw [getD_get hj]
  simpa using this
theorem way_fn (xs : List Nat) (w : Int) (hx : ∀ x ∈ xs, x < 2 ^ 64) : Fn Tryd.prog 15 [] [.pv (.sl 1 (u64s xs)), .pv (.int .i64 w)]
    (fun rs H' => rs = [.own 5 (bytes (wayS xs w).1), .pv (.int .i64 (wayS xs w).2)] ∧ H' = []) := by
  refine Fn.of_body (fn := Tryd.f15) (n := 54) (res := [.tmp 4, .tmp 5]) (by kernel_rfl) rfl rfl rfl rfl rfl (fun C => ?_)
  have hr : room = 140737488355328 := rfl
  by_cases hw : w < 0 ∨ 4 ≤ w
  · have hws : wayS xs w = ([], 1) := by rw [wayS, if_pos hw]
    rw [hws]
    by_cases h1 : w < 0
    · have d1 : decide (w < 0) = true := decide_eq_true h1
      refine AW.gg ?_ (by simp only [go_sem, ↓reduceIte, d1] <;> rfl)
      refine AW.condT rfl ?_
      refine AW.go ?_
      refine AW.finE (.move rfl (.pv _ .nil)) rfl
    · have d1 : decide (w < 0) = false := decide_eq_false h1
      have d2 : decide (w ≥ 4) = true := decide_eq_true (by omega)
      refine AW.gg ?_ (by simp only [go_sem, ↓reduceIte, d1, d2] <;> rfl)
      refine AW.condT rfl ?_
      refine AW.go ?_
      refine AW.finE (.move rfl (.pv _ .nil)) rfl
  have d1 : decide (w < 0) = false := decide_eq_false (by omega)
  have d2 : decide (w ≥ 4) = false := decide_eq_false (by omega)
  refine AW.gg ?_ (by simp only [go_sem, ↓reduceIte, d1, d2] <;> rfl)
  refine AW.condF rfl ?_
  refine AW.go ?_
  refine AW.cond rfl (fun hc => ?_) (fun hc => ?_)
  · have hl : 65536 < xs.length := by simp at hc; omega
    have hws : wayS xs w = ([], 4) := by rw [wayS, if_neg hw, if_pos hl]
    rw [hws]
    refine AW.go ?_
    refine AW.finE (.move rfl (.pv _ .nil)) rfl
  have hl : ¬ 65536 < xs.length := by simp at hc; omega
  have hle : xs.length ≤ 65536 := by omega
  refine AW.go ?_
  have hw4 : w = 0 ∨ w = 1 ∨ w = 2 ∨ w = 3 := by omega
  rcases hw4 with rfl | rfl | rfl | rfl
  · have hws : wayS xs 0 = (encP xs, 0) := by rw [wayS, if_neg hw, if_neg hl]; rfl
    rw [hws]
    refine AW.condF rfl ?_
    refine AW.go ?_
    refine AW.condF rfl ?_
    refine AW.go ?_
    refine AW.condT rfl ?_
    refine AW.go ?_
    refine AW.callE (fun _ => 0) (plain_fn xs (by omega) hx) (.pv _ .nil) ?_
    refine AW.go ?_
    refine AW.finE (.move rfl (.pv _ .nil)) rfl
  · have hws : wayS xs 1 = if oneV xs = false ∨ xs = [] then ([], 1) else (encP (xs.take 1), 0) := by rw [wayS, if_neg hw, if_neg hl]; rfl
    rw [hws]
    refine AW.condF rfl ?_
    refine AW.go ?_
    refine AW.condF rfl ?_
    refine AW.go ?_
    refine AW.condF rfl ?_
    refine AW.go ?_
    refine AW.loopS (fun i : Nat => ⟨54, [(38, .pv (.int .i64 i)), (37, .pv (.int .i64 xs.length)), (36, .pv (.sl 1 (u64s xs))), (0, .pv (.sl 1 (u64s xs)))], []⟩) (fun i => i ≤ xs.length ∧ ∀ j, j < i → xs.getD j 0 = xs.getD 0 0) (fun i => xs.length - i) [38, 37, 36, 0] [] 0 ⟨Nat.zero_le _, fun j hj => by omega⟩ ?_
    rintro i ⟨hi, hall⟩ K hK
    refine AW.go ?_
    refine AW.cond rfl (fun hc => ?_) (fun hc => ?_)
    · have hlt : i < xs.length := by simpa using hc
      have hlt0 : 0 < xs.length := by omega
      have hget := u64s_get hlt
      have hget0 := u64s_get hlt0
      rw [getD_get hlt0] at hget0
      have ei : IntKind.i64.wrap ((i : Int) + 1) = ((i + 1 : Nat) : Int) := wrap_i64_succ (by omega)
      refine AW.go ?_ (by simp only [go_sem, ↓reduceIte, hget, hget0] <;> rfl)
      refine AW.cond rfl (fun hc2 => ?_) (fun hc2 => ?_)
      · have hne : xs[i] ≠ xs.getD 0 0 := bne_nat hc2
        rw [if_pos (.inl (oneV_false hlt hne))]
        refine AW.go ?_
        refine AW.finE (.move rfl (.pv _ .nil)) rfl
      · have he : xs[i] = xs.getD 0 0 := beq_nat hc2
        refine AW.go ?_ (by simp only [go_sem, ↓reduceIte, ei] <;> rfl)
        refine AW.again hK (i + 1) ⟨hlt, fun j hj => ?_⟩ (by omega)
        by_cases hji : j = i
        · subst hji; rw [← getD_get hlt]; exact he
        · exact hall j (by omega)
    · have hge : i = xs.length := by simp at hc; omega
      subst hge
      refine AW.go ?_
      refine AW.cond rfl (fun hc2 => ?_) (fun hc2 => ?_)
      · have hnil : xs = [] := by simpa using hc2
        rw [if_pos (.inr hnil)]
        refine AW.go ?_
        refine AW.finE (.move rfl (.pv _ .nil)) rfl
      · have hnil : xs ≠ [] := by simpa using hc2
        have hpos0 : 1 ≤ xs.length := by cases xs with | nil => exact absurd rfl hnil | cons a r => simp
        have hpos : (1 : Int) ≤ (xs.length : Int) := by omega
        rw [if_neg (by rw [oneV_true hall]; simpa using hnil)]
        refine AW.go ?_ (by simp only [go_sem, ↓reduceIte, hpos] <;> rfl)
        refine AW.callE (fun _ => 0) (plain_fn (xs.take 1) (by simp; omega) (fun x h => hx x (List.mem_of_mem_take h))) (.pv _ .nil) ?_
        refine AW.go ?_
        refine AW.finE (.move rfl (.pv _ .nil)) rfl
  · have hws : wayS xs 2 = (enc10 xs, 0) := by rw [wayS, if_neg hw, if_neg hl]; rfl
    rw [hws]
    refine AW.condT rfl ?_
    refine AW.go ?_
    refine AW.callE (fun _ => 0) (dictEnc_fn xs hx) (.pv _ .nil) ?_
    simp only [if_pos hle]
    refine AW.go ?_
    refine AW.finE (.move rfl (.pv _ .nil)) rfl
  · have hws : wayS xs 3 = (enc09 xs, 0) := by rw [wayS, if_neg hw, if_neg hl]; rfl
    rw [hws]
    refine AW.condF rfl ?_
    refine AW.go ?_
    refine AW.condT rfl ?_
    refine AW.go ?_
    refine AW.callE (fun _ => 0) (gorEnc_fn xs hx) (.pv _ .nil) ?_
    simp only [if_pos hle]
    refine AW.go ?_
    refine AW.finE (.move rfl (.pv _ .nil)) rfl
end Go.Ck

set_option linter.unusedVariables false
set_option maxRecDepth 10000
set_option maxHeartbeats 1000000
namespace Go.Ck
open Go.Proofs

theorem refWay_fn (xs : List Nat) (w : Int) (hx : ∀ x ∈ xs, x < 2 ^ 64) : Fn Tryd.prog 16 [] [.pv (.sl 1 (u64s xs)), .pv (.int .i64 w)]
    (fun rs H' => rs = [.own 5 (bytes (wayS xs w).1), .pv (.int .i64 (wayS xs w).2)] ∧ H' = []) := by
  refine Fn.of_body (fn := Tryd.f16) (n := 68) (res := [.tmp 4, .tmp 5]) (by kernel_rfl) rfl rfl rfl rfl rfl (fun C => ?_)
  have hr : room = 140737488355328 := rfl
  by_cases hw : w < 0 ∨ 4 ≤ w
  · have hws : wayS xs w = ([], 1) := by rw [wayS, if_pos hw]
    rw [hws]
    by_cases h1 : w < 0
    · have d1 : decide (w < 0) = true := decide_eq_true h1
      refine AW.gg ?_ (by simp only [go_sem, ↓reduceIte, d1] <;> rfl)
      refine AW.condT rfl ?_
      refine AW.go ?_
      refine AW.finE (.move rfl (.pv _ .nil)) rfl
    · have d1 : decide (w < 0) = false := decide_eq_false h1
      have d2 : decide (w > 3) = true := decide_eq_true (by omega)
      refine AW.gg ?_ (by simp only [go_sem, ↓reduceIte, d1, d2] <;> rfl)
      refine AW.condT rfl ?_
      refine AW.go ?_
      refine AW.finE (.move rfl (.pv _ .nil)) rfl
  have d1 : decide (w < 0) = false := decide_eq_false (by omega)
  have d2 : decide (w > 3) = false := decide_eq_false (by omega)
  refine AW.gg ?_ (by simp only [go_sem, ↓reduceIte, d1, d2] <;> rfl)
  refine AW.condF rfl ?_
  refine AW.go ?_
  refine AW.cond rfl (fun hc => ?_) (fun hc => ?_)
  · have hl : 65536 < xs.length := by simp at hc; omega
    have hws : wayS xs w = ([], 4) := by rw [wayS, if_neg hw, if_pos hl]
    rw [hws]
    refine AW.go ?_
    refine AW.finE (.move rfl (.pv _ .nil)) rfl
  have hl : ¬ 65536 < xs.length := by simp at hc; omega
  have hle : xs.length ≤ 65536 := by omega
  refine AW.go ?_
  have hw4 : w = 0 ∨ w = 1 ∨ w = 2 ∨ w = 3 := by omega
  rcases hw4 with rfl | rfl | rfl | rfl
  · have hws : wayS xs 0 = (encP xs, 0) := by rw [wayS, if_neg hw, if_neg hl]; rfl
    rw [hws]
    refine AW.condT rfl ?_
    refine AW.go ?_
    refine AW.loopS (fun i : Nat => ⟨68, [(7, .pv (.int .i64 i)), (6, .own 5 (bytes (encP (xs.take i)))), (0, .pv (.sl 1 (u64s xs)))], []⟩) (fun i => i ≤ xs.length) (fun i => xs.length - i) [7, 6, 0] [] 0 (Nat.zero_le _) ?_
    rintro i hi K hK
    refine AW.go ?_
    refine AW.cond rfl (fun hc => ?_) (fun hc => ?_)
    · have hlt : i < xs.length := by simpa using hc
      have hget := u64s_get hlt
      have hxx := hx _ (List.getElem_mem hlt)
      have hti : xs.take (i + 1) = xs.take i ++ [xs[i]] := by simp
      have hel := encP_len (xs.take i)
      have hfn : encP (xs.take (i + 1)) = encP (xs.take i) ++ beB xs[i] 8 := by rw [hti, encP, List.flatMap_append]; simp [encP]
      rw [List.length_take] at hel
      generalize xs[i] = x at *
      have ei : IntKind.i64.wrap ((i : Int) + 1) = ((i + 1 : Nat) : Int) := wrap_i64_succ (by omega)
      refine AW.go ?_ (by simp only [go_sem, ↓reduceIte, hget] <;> rfl)
      refine AW.callE (fun _ => 0) (refFix_fn x 8 hxx (by omega)) (.pv _ (.pv _ .nil)) ?_
      have h2 : (encP (xs.take i)).length + (beB x 8).length ≤ room := by rw [beB_len]; omega
      refine AW.go ?_ (by simp only [go_sem, ↓reduceIte, h2, ei, ← hfn] <;> rfl)
      refine AW.again hK (i + 1) hlt (by omega)
    · have hge : ¬ i < xs.length := by simpa using hc
      rw [List.take_of_length_le (by omega)]
      refine AW.go ?_
      refine AW.finE (.move rfl (.pv _ .nil)) rfl
  · have hws : wayS xs 1 = if oneV xs = false ∨ xs = [] then ([], 1) else (encP (xs.take 1), 0) := by rw [wayS, if_neg hw, if_neg hl]; rfl
    rw [hws]
    refine AW.condF rfl ?_
    refine AW.go ?_
    refine AW.condT rfl ?_
    refine AW.go ?_
    refine AW.cond rfl (fun hc2 => ?_) (fun hc2 => ?_)
    · have hnil : xs = [] := by simpa using hc2
      rw [if_pos (.inr hnil)]
      refine AW.go ?_
      refine AW.finE (.move rfl (.pv _ .nil)) rfl
    have hnil : xs ≠ [] := by simpa using hc2
    have hlt0 : 0 < xs.length := by cases xs with | nil => exact absurd rfl hnil | cons a r => simp
    have hget0 := u64s_get hlt0
    have hx0 := hx _ (List.getElem_mem hlt0)
    have ht1 : xs.take 1 = [xs[0]] := by cases xs with | nil => exact absurd rfl hnil | cons a r => simp
    have heP : encP (xs.take 1) = beB xs[0] 8 := by rw [ht1, encP]; simp
    rw [heP]
    rw [getD_get hlt0] at hget0 hx0 ⊢
    refine AW.go ?_
    refine AW.loopS (fun i : Nat => ⟨68, [(8, .pv (.int .i64 i)), (0, .pv (.sl 1 (u64s xs)))], []⟩) (fun i => i ≤ xs.length ∧ ∀ j, j < i → xs.getD j 0 = xs.getD 0 0) (fun i => xs.length - i) [8, 0] [] 0 ⟨Nat.zero_le _, fun j hj => by omega⟩ ?_
    rintro i ⟨hi, hall⟩ K hK
    refine AW.go ?_
    refine AW.cond rfl (fun hc => ?_) (fun hc => ?_)
    · have hlt : i < xs.length := by simpa using hc
      have hget := u64s_get hlt
      have ei : IntKind.i64.wrap ((i : Int) + 1) = ((i + 1 : Nat) : Int) := wrap_i64_succ (by omega)
      refine AW.go ?_
      refine AW.sr mixed (by decide +kernel) ?_ (by simp only [go_sem, ↓reduceIte, hget, hget0] <;> rfl)
      refine AW.go ?_
      refine AW.cond rfl (fun hc2 => ?_) (fun hc2 => ?_)
      · have hne : xs[i] ≠ xs.getD 0 0 := bne_nat hc2
        rw [if_pos (.inl (oneV_false hlt hne))]
        refine AW.go ?_
        refine AW.finE (.move rfl (.pv _ .nil)) rfl
      · have he : xs[i] = xs.getD 0 0 := beq_nat hc2
        refine AW.go ?_ (by simp only [go_sem, ↓reduceIte, ei] <;> rfl)
        refine AW.again hK (i + 1) ⟨hlt, fun j hj => ?_⟩ (by omega)
        by_cases hji : j = i
        · subst hji; rw [← getD_get hlt]; exact he
        · exact hall j (by omega)
    · have hge : i = xs.length := by simp at hc; omega
      subst hge
      rw [if_neg (by rw [oneV_true hall]; simpa using hnil)]
      refine AW.go ?_ (by simp only [go_sem, ↓reduceIte, hget0] <;> rfl)
      refine AW.callE (fun _ => 0) (refFix_fn (xs.getD 0 0) 8 hx0 (by omega)) (.pv _ (.pv _ .nil)) ?_
      refine AW.go ?_
      refine AW.finE (.move rfl (.pv _ .nil)) rfl
  · have hws : wayS xs 2 = (enc10 xs, 0) := by rw [wayS, if_neg hw, if_neg hl]; rfl
    rw [hws]
    refine AW.condF rfl ?_
    refine AW.go ?_
    refine AW.condF rfl ?_
    refine AW.go ?_
    refine AW.condT rfl ?_
    refine AW.go ?_
    refine AW.callE (fun _ => 0) (ref10Enc_fn xs hx) (.pv _ .nil) ?_
    simp only [if_pos hle]
    refine AW.go ?_
    refine AW.finE (.move rfl (.pv _ .nil)) rfl
  · have hws : wayS xs 3 = (enc09 xs, 0) := by rw [wayS, if_neg hw, if_neg hl]; rfl
    rw [hws]
    refine AW.condF rfl ?_
    refine AW.go ?_
    refine AW.condF rfl ?_
    refine AW.go ?_
    refine AW.condF rfl ?_
    refine AW.go ?_
    refine AW.callE (fun _ => 0) (ref09Enc_fn xs hx) (.pv _ .nil) ?_
    simp only [if_pos hle]
    refine AW.go ?_
    refine AW.finE (.move rfl (.pv _ .nil)) rfl
end Go.Ck

set_option linter.unusedVariables false
/-! The shortest way. -/
namespace Go.Ck
def stepB (xs : List Nat) (b : Nat × List Nat) (w : Nat) : Nat × List Nat := if (wayS xs w).2 = 0 ∧ (wayS xs w).1.length < b.2.length then (w, (wayS xs w).1) else b
def bestB (xs : List Nat) (n : Nat) : Nat × List Nat := (List.range n).foldl (fun b w => stepB xs b (w + 1)) (0, encP xs)
theorem bestB_zero (xs : List Nat) : bestB xs 0 = (0, encP xs) := rfl
theorem bestB_succ (xs : List Nat) (n : Nat) : bestB xs (n + 1) = stepB xs (bestB xs n) (n + 1) := by simp [bestB, List.range_succ]
def encV (xs : List Nat) : List Nat × Int := if 65536 < xs.length then ([], 4) else ((bestB xs 3).1 :: (bestB xs 3).2, 0)
theorem wayS_zero {xs : List Nat} (h : ¬ 65536 < xs.length) : wayS xs 0 = (encP xs, 0) := by
  rw [wayS, if_neg (by omega), if_neg h]; rfl
theorem bestB_le (xs : List Nat) (n : Nat) : (bestB xs n).2.length ≤ 8 * xs.length := by
  induction n with
  | zero => rw [bestB_zero]; simp only [encP_len]; omega
  | succ n ih =>
    rw [bestB_succ, stepB]
    split
    · rename_i h; simp only; omega
    · exact ih
theorem bestB_tag (xs : List Nat) (n : Nat) : (bestB xs n).1 ≤ n := by
  induction n with
  | zero => simp [bestB_zero]
  | succ n ih =>
    rw [bestB_succ, stepB]
    split
    · simp
    · omega
end Go.Ck
namespace Go.Ck
theorem filt_get (p : Nat → Bool) : ∀ (n w : Nat), w < n → p w = true → ((List.range n).filter p)[((List.range w).filter p).length]? = some w
  | 0, w, h, _ => by omega
  | n + 1, w, h, hp => by
    rw [List.range_succ, List.filter_append]
    by_cases hw : w < n
    · have ih := filt_get p n w hw hp
      obtain ⟨hlt, _⟩ := List.getElem?_eq_some_iff.1 ih
      rw [List.getElem?_append_left hlt]; exact ih
    · have : w = n := by omega
      subst this
      rw [List.getElem?_append_right (Nat.le_refl _), Nat.sub_self]
      simp [hp]
def okB' (xs : List Nat) (w : Nat) : Bool := decide ((wayS xs (w : Int)).2 = 0)
def okTo (xs : List Nat) (w : Nat) : Nat := ((List.range w).filter (okB' xs)).length
theorem okTo_succ (xs : List Nat) (w : Nat) : okTo xs (w + 1) = okTo xs w + (if okB' xs w = true then 1 else 0) := by
  rw [okTo, okTo, List.range_succ, List.filter_append, List.length_append]
  cases h : okB' xs w <;> simp [h]
/-- What is handed out, as it comes. -/
def outs (xs : List Nat) (i : Nat) : Option (List PV) := (((List.range 4).filter (okB' xs))[i]?).map fun (w : Nat) => [PV.int .i64 (w : Int), .sl 1 (bytes (wayS xs (w : Int)).1)]
theorem outs_at {xs : List Nat} {w : Nat} (hw : w < 4) (h : okB' xs w = true) : outs xs (okTo xs w) = some [.int .i64 (w : Int), .sl 1 (bytes (wayS xs (w : Int)).1)] := by
  rw [outs, okTo, filt_get _ 4 w hw h]; rfl
theorem outs_end (xs : List Nat) : outs xs (okTo xs 4) = none := by
  rw [outs, okTo, List.getElem?_eq_none (Nat.le_refl _)]; rfl
end Go.Ck
namespace Go.Ck
/-- The best so far, as the program keeps it. -/
def stepC (xs : List Nat) (b : Nat × List Nat) (w : Nat) : Nat × List Nat := if b.1 = 4 ∨ (wayS xs w).1.length < b.2.length then (w, (wayS xs w).1) else b
def okL (xs : List Nat) : List Nat := (List.range 4).filter (okB' xs)
def bestC (xs : List Nat) (i : Nat) : Nat × List Nat := ((okL xs).take i).foldl (stepC xs) (4, [])
theorem bestC_succ {xs : List Nat} {i w : Nat} (h : (okL xs)[i]? = some w) : bestC xs (i + 1) = stepC xs (bestC xs i) w := by
  rw [bestC, List.take_add_one, h]
  simp [bestC]
theorem bestC_all {xs : List Nat} (h : ¬ 65536 < xs.length) : bestC xs (okL xs).length = bestB xs 3 := by
  have h0 := wayS_zero h
  have hr : List.range 4 = [0, 1, 2, 3] := rfl
  have k0 : okB' xs 0 = true := by
    unfold okB'
    have : wayS xs ((0 : Nat) : Int) = (encP xs, 0) := h0
    rw [this]; rfl
  rw [bestC, List.take_length, okL, hr, bestB_succ, bestB_succ, bestB_succ, bestB_zero]
  have s0 : stepC xs (4, []) 0 = (0, encP xs) := by
    have : wayS xs ((0 : Nat) : Int) = (encP xs, 0) := h0
    rw [stepC, if_pos (.inl rfl), this]
  have st : ∀ (b : Nat × List Nat) (w : Nat), b.1 ≠ 4 → (if okB' xs w = true then stepC xs b w else b) = stepB xs b w := by
    intro b w hb
    unfold stepC stepB okB'
    by_cases h1 : (wayS xs (w : Int)).2 = 0
    · simp [h1, hb]
    · simp [h1]
  have ne : ∀ (b : Nat × List Nat) (w : Nat), w ≠ 4 → b.1 ≠ 4 → (stepB xs b w).1 ≠ 4 := by
    intro b w hw hb
    unfold stepB
    split
    · exact hw
    · exact hb
  have fo : ∀ (l : List Nat) (b : Nat × List Nat), (∀ w ∈ l, w ≠ 4) → b.1 ≠ 4 → (l.filter (okB' xs)).foldl (stepC xs) b = l.foldl (stepB xs) b := by
    intro l
    induction l with
    | nil => intro b _ _; rfl
    | cons w r ih =>
      intro b hw hb
      have hst := st b w hb
      rw [List.filter_cons]
      by_cases hk : okB' xs w = true
      · rw [if_pos hk] at hst ⊢
        rw [List.foldl_cons, List.foldl_cons, hst]
        exact ih _ (fun y hy => hw y (by simp [hy])) (ne b w (hw w (by simp)) hb)
      · rw [if_neg hk] at hst ⊢
        rw [List.foldl_cons, ← hst]
        exact ih _ (fun y hy => hw y (by simp [hy])) hb
  rw [List.filter_cons, if_pos k0, List.foldl_cons, s0, fo [1, 2, 3] (0, encP xs) (by simp) (by simp)]
  rfl
theorem bestC_len {xs : List Nat} (i : Nat) : (bestC xs i).1 ≤ 4 := by
  induction i with
  | zero => simp [bestC]
  | succ i ih =>
    cases hk : (okL xs)[i]? with
    | none =>
      have : (okL xs).length ≤ i := by simpa using hk
      rw [bestC, List.take_of_length_le (by omega)]
      rw [bestC, List.take_of_length_le this] at ih
      exact ih
    | some w =>
      rw [bestC_succ hk, stepC]
      split
      · have : w ∈ okL xs := List.mem_of_getElem? hk
        simp [okL] at this
        omega
      · exact ih
theorem outs_eq (xs : List Nat) (i : Nat) : outs xs i = ((okL xs)[i]?).map fun (w : Nat) => [PV.int .i64 (w : Int), .sl 1 (bytes (wayS xs (w : Int)).1)] := rfl
end Go.Ck

set_option linter.unusedVariables false
set_option maxRecDepth 10000
set_option maxHeartbeats 1000000
namespace Go.Ck
open Go.Proofs

def tgW (xs : List Nat) (w : Nat) : Int := if w = 0 then -1 else ((bestB xs (w - 1)).1 : Nat)
def bsW (xs : List Nat) (w : Nat) : List Nat := if w = 0 then [] else (bestB xs (w - 1)).2
theorem refEnc_fn (xs : List Nat) (hx : ∀ x ∈ xs, x < 2 ^ 64) : Fn Tryd.prog 19 [] [.pv (.sl 1 (u64s xs))]
    (fun rs H' => rs = [.own 5 (bytes (encV xs).1), .pv (.int .i64 (encV xs).2)] ∧ H' = []) := by
  refine Fn.of_body (fn := Tryd.f19) (n := 42) (res := [.tmp 2, .tmp 3]) (by kernel_rfl) rfl rfl rfl rfl rfl (fun C => ?_)
  have hr : room = 140737488355328 := rfl
  unfold encV
  refine AW.go ?_
  refine AW.cond rfl (fun hc => ?_) (fun hc => ?_)
  · have hl : 65536 < xs.length := by simp at hc; omega
    simp only [if_pos hl]
    refine AW.go ?_
    refine AW.finE (.move rfl (.pv _ .nil)) rfl
  have hl : ¬ 65536 < xs.length := by simp at hc; omega
  simp only [if_neg hl]
  refine AW.go ?_
  refine AW.freeze (p := .slot 5) (by simp only [go_sem, ↓reduceIte, freeze, freezeO] <;> rfl) ?_
  refine AW.loopS (fun w : Nat => ⟨42, [(6, .pv (.int .i64 w)), (4, .pv (.int .i64 (tgW xs w))), (5, .pv (.sl 1 (bytes (bsW xs w)))), (0, .pv (.sl 1 (u64s xs)))], []⟩) (fun w => w ≤ 4) (fun w => 4 - w) [6, 4, 5, 0] [] 0 (by omega) ?_
  rintro w hw K hK
  refine AW.go ?_
  refine AW.cond rfl (fun hc => ?_) (fun hc => ?_)
  · have hlt : w < 4 := by simp at hc; omega
    have ei : IntKind.i64.wrap ((w : Int) + 1) = ((w + 1 : Nat) : Int) := wrap_i64_succ (by omega)
    refine AW.go ?_
    refine AW.callE (fun _ => 0) (refWay_fn xs w hx) (.pv _ (.pv _ .nil)) ?_
    refine AW.freeze (p := .part 19 0) (by simp only [go_sem, ↓reduceIte, freeze, freezeO] <;> rfl) ?_
    refine AW.go ?_
    by_cases h0 : w = 0
    · subst h0
      have hz := wayS_zero hl
      have hz' : wayS xs ((0 : Nat) : Int) = (encP xs, 0) := hz
      rw [hz']
      refine AW.gg ?_
      refine AW.condT rfl ?_
      refine AW.go ?_ (by simp only [go_sem, ↓reduceIte, ei] <;> rfl)
      refine AW.again hK 1 (by omega) (by omega) (by simp only [go_sem, ↓reduceIte]) (by simp only [go_sem, ↓reduceIte, tgW, bsW, bestB_zero, Nat.sub_self, Nat.one_ne_zero] <;> rfl)
    obtain ⟨u, rfl⟩ : ∃ u, w = u + 1 := ⟨w - 1, by omega⟩
    have e0 : tgW xs (u + 1) = ((bestB xs u).1 : Nat) := rfl
    have e1 : bsW xs (u + 1) = (bestB xs u).2 := rfl
    have e2 : tgW xs (u + 1 + 1) = ((bestB xs (u + 1)).1 : Nat) := rfl
    have e3 : bsW xs (u + 1 + 1) = (bestB xs (u + 1)).2 := rfl
    have hss := bestB_succ xs u
    rw [stepB] at hss
    rw [e0, e1]
    generalize bestB xs u = b at *
    obtain ⟨t, bs⟩ := b
    simp only at hss ⊢
    by_cases he : (wayS xs ((u + 1 : Nat) : Int)).2 = 0
    · by_cases hlen : (wayS xs ((u + 1 : Nat) : Int)).1.length < bs.length
      · rw [if_pos ⟨he, hlen⟩] at hss
        generalize wayS xs ((u + 1 : Nat) : Int) = r at *
        obtain ⟨rb, re⟩ := r
        simp only at he hlen hss ⊢
        subst he
        refine AW.gg ?_
        refine AW.cond rfl (fun hc2 => ?_) (fun hc2 => absurd hlen (by simpa using hc2))
        refine AW.go ?_ (by simp only [go_sem, ↓reduceIte, ei] <;> rfl)
        refine AW.again hK (u + 1 + 1) (by omega) (by omega) (by simp only [go_sem, ↓reduceIte]) (by simp only [go_sem, ↓reduceIte, e2, e3, hss] <;> rfl)
      · rw [if_neg (fun h => hlen h.2)] at hss
        generalize wayS xs ((u + 1 : Nat) : Int) = r at *
        obtain ⟨rb, re⟩ := r
        simp only at he hlen hss ⊢
        subst he
        refine AW.gg ?_
        refine AW.cond rfl (fun hc2 => absurd (by simpa using hc2) hlen) (fun hc2 => ?_)
        refine AW.go ?_ (by simp only [go_sem, ↓reduceIte, ei] <;> rfl)
        refine AW.again hK (u + 1 + 1) (by omega) (by omega) (by simp only [go_sem, ↓reduceIte]) (by simp only [go_sem, ↓reduceIte, e2, e3, hss] <;> rfl)
    · rw [if_neg (fun h => he h.1)] at hss
      generalize wayS xs ((u + 1 : Nat) : Int) = r at *
      obtain ⟨rb, re⟩ := r
      simp only at he hss ⊢
      have hre : (re == 0) = false := by simpa using he
      refine AW.gg ?_ (by simp only [go_sem, ↓reduceIte, hre] <;> rfl)
      refine AG.start 5 27 false ?_ ?_ ⟨_, rfl, rfl⟩
      · skip
        refine AG.want rfl rfl (AG.step (hg := rfl) rfl (by decide) (by simp only [go_sem, ↓reduceIte] <;> rfl) ?_)
        refine AG.want rfl rfl (AG.step (hg := rfl) rfl (by decide) (by simp only [go_sem, ↓reduceIte] <;> rfl) ?_)
        refine AG.want rfl rfl (AG.step (hg := rfl) rfl (by decide) (by simp only [go_sem, ↓reduceIte] <;> rfl) ?_)
        refine AG.want rfl rfl (AG.step (hg := rfl) rfl (by decide) (by simp only [go_sem, ↓reduceIte] <;> rfl) ?_)
        refine AG.want rfl rfl (AG.step (hg := rfl) rfl (by decide) (by simp only [go_sem, ↓reduceIte] <;> rfl) ?_)
        refine AG.forget ?_
        refine AW.gg ?_
        refine AW.condF rfl ?_
        refine AW.go ?_ (by simp only [go_sem, ↓reduceIte, ei] <;> rfl)
        refine AW.again hK (u + 1 + 1) (by omega) (by omega) (by simp only [go_sem, ↓reduceIte]) (by simp only [go_sem, ↓reduceIte, e2, e3, hss] <;> rfl)
      · intro v hv
        refine AG.skip rfl rfl (by decide) hv ?_
        refine AG.skip rfl rfl (by decide) hv ?_
        refine AG.skip rfl rfl (by decide) hv ?_
        refine AG.skip rfl rfl (by decide) hv ?_
        refine AG.skip rfl rfl (by decide) hv ?_
        refine AG.forget ?_
        refine AW.gg ?_
        refine AW.condF rfl ?_
        refine AW.go ?_ (by simp only [go_sem, ↓reduceIte, ei] <;> rfl)
        refine AW.again hK (u + 1 + 1) (by omega) (by omega) (by simp only [go_sem, ↓reduceIte]) (by simp only [go_sem, ↓reduceIte, e2, e3, hss] <;> rfl)
  · have h4 : w = 4 := by simp at hc; omega
    subst h4
    have hle := bestB_le xs 3
    have htg := bestB_tag xs 3
    have e0 : tgW xs 4 = ((bestB xs 3).1 : Nat) := rfl
    have e1 : bsW xs 4 = (bestB xs 3).2 := rfl
    rw [e0, e1]
    generalize bestB xs 3 = b at *
    obtain ⟨t, bs⟩ := b
    simp only at hle htg ⊢
    have eu : IntKind.u8.wrap ((t : Nat) : Int) = (t : Nat) := wrap_u8_lt (by omega)
    have h1 : 1 + bs.length ≤ room := by omega
    refine AW.go ?_ (by simp only [go_sem, ↓reduceIte, eu, bytes_one, h1, List.length_cons, List.length_nil, Nat.zero_add, List.cons_append, List.nil_append] <;> rfl)
    refine AW.finE (.move rfl (.pv _ .nil)) rfl
end Go.Ck

set_option linter.unusedVariables false
set_option maxRecDepth 10000
set_option maxHeartbeats 1000000
namespace Go.Ck
open Go.Proofs

theorem AW.absurdC {P : Program} {R : Option Nat} {Φ : Exit → Cx → St → Prop} {e : Exit} {k : List It} {X : Bs → Prop} {s : St} (h : ∀ B, ¬ X B) : AW P R Φ e k (plain X) s := fun B a w ha => absurd ha.1.1.2 (h B)

theorem all_fn (xs : List Nat) : Fn Tryd.prog 35 [] [.pv (.sl 1 (u64s xs))] (fun rs H' => rs = [.fn 71 [.ptr 1 0]] ∧ H' = [(1, .cells 22 [.pv (.sl 1 (u64s xs))])]) := by
  refine Fn.of_body (fn := Tryd.f35) (n := 4) (res := [.tmp 2]) (by kernel_rfl) rfl rfl rfl rfl rfl (fun C => ?_)
  refine AW.go ?_
  refine AW.finE (.fn rfl .nil) rfl

theorem all1_iter (xs : List Nat) (o : Nat) (ho : o ≠ 0) (hx : ∀ x ∈ xs, x < 2 ^ 64) : Iter Tryd.prog 71 [.ptr 12 0] [(12, .cells 22 [.pv (.sl 1 (u64s xs))])] (outs xs) := by
  refine Iter.of_body (fn := Tryd.f71) (n := 25) (by kernel_rfl) rfl rfl rfl rfl (fun l X X0 N hY hN => ?_)
  refine AW.go ?_
  refine AW.loopC (n := 4) (fun m C s => ∃ w, m = 4 - w ∧ w ≤ 4 ∧ okTo xs w ≤ N ∧ C = plain (X (okTo xs w)) ∧ keepB [0, 1, 6] [12] s = ⟨25, [(0, .yl l), (1, .ptr 12 0), (6, .pv (.int .i64 w))], [(12, .cells 22 [.pv (.sl 1 (u64s xs))])]⟩ ∧ keptB none [0, 1, 6] [12] s = true) ⟨0, rfl, by omega, Nat.zero_le _, rfl, by simp only [go_sem, ↓reduceIte] <;> rfl, by simp only [go_sem, ↓reduceIte]⟩ ?_
  rintro m C s ⟨w, rfl, hw, hiN, rfl, hs, hk⟩
  refine AW.keepB [0, 1, 6] [12] hk hs ?_
  refine AW.go ?_
  refine AW.cond rfl (fun hc => ?_) (fun hc => ?_)
  · have hlt : w < 4 := by simp at hc; omega
    have ei : IntKind.i64.wrap ((w : Int) + 1) = ((w + 1 : Nat) : Int) := wrap_i64_succ (by omega)
    have hsu := okTo_succ xs w
    refine AW.go ?_
    refine AW.callE (fun _ => 0) (way_fn xs w hx) (.pv _ (.pv _ .nil)) ?_
    refine AW.freeze (p := .part 12 0) (by simp only [go_sem, ↓reduceIte, freeze, freezeO] <;> rfl) ?_
    refine AW.go ?_
    have hout := outs_at (xs := xs) hlt
    unfold okB' at hout hsu
    generalize wayS xs (w : Int) = r at *
    obtain ⟨rb, re⟩ := r
    simp only at hout hsu ⊢
    by_cases he : re = 0
    · subst he
      rw [if_pos (by simp)] at hsu
      have hout := hout (by simp)
      by_cases hn : okTo xs w = N
      · rcases hN with h | h
        · rw [← hn, hout] at h; cases h
        · rw [hn]; exact AW.absurdC h
      have hlt2 : okTo xs w < N := by omega
      obtain ⟨p, hp, hY1⟩ := hY _ hlt2
      rw [hout] at hp
      cases hp
      refine AW.gg ?_
      refine AW.guardT rfl rfl ?_
      refine AW.yield hY1 rfl rfl ?_ ?_
      · refine AW.gg ?_
        refine AW.condF rfl ?_
        refine AW.go ?_ (by simp only [go_sem, ↓reduceIte, ei] <;> rfl)
        refine AW.stop ⟨4 - (w + 1), by omega, w + 1, rfl, by omega, by omega, by rw [hsu], by simp only [go_sem, ↓reduceIte] <;> rfl, by simp only [go_sem, ↓reduceIte]⟩
      · refine AW.gg ?_
        refine AW.condT rfl ?_
        refine AW.go ?_
        exact AW.nil ⟨.inr rfl, .inr rfl⟩
    · have hre : (re == 0) = false := by simpa using he
      rw [if_neg (by simpa using he), Nat.add_zero] at hsu
      refine AW.gg ?_ (by simp only [go_sem, ↓reduceIte, hre] <;> rfl)
      refine AW.condF rfl ?_
      refine AW.go ?_ (by simp only [go_sem, ↓reduceIte, ei] <;> rfl)
      refine AW.stop ⟨4 - (w + 1), by omega, w + 1, rfl, by omega, by omega, by rw [hsu, Nat.add_zero], by simp only [go_sem, ↓reduceIte] <;> rfl, by simp only [go_sem, ↓reduceIte]⟩
  · have h4 : w = 4 := by simp at hc; omega
    subst h4
    have hend := outs_end xs
    have hNe : okTo xs 4 = N := by
      apply Classical.byContradiction
      intro hne
      obtain ⟨p, hp, _⟩ := hY _ (by omega : okTo xs 4 < N)
      rw [hend] at hp; cases hp
    rw [hNe] at hend ⊢
    refine AW.go ?_
    exact AW.nil ⟨.inl rfl, .inl ⟨hend, rfl⟩⟩
end Go.Ck

set_option linter.unusedVariables false
set_option maxRecDepth 10000
set_option maxHeartbeats 1000000
namespace Go.Ck
open Go.Proofs

attribute [go_sem] putParams keptH allNames pickH
theorem encV_fn (xs : List Nat) (hx : ∀ x ∈ xs, x < 2 ^ 64) : Fn Tryd.prog 18 [] [.pv (.sl 1 (u64s xs))]
    (fun rs H' => rs = [.own 5 (bytes (encV xs).1), .pv (.int .i64 (encV xs).2)] ∧ H' = []) := by
  refine Fn.of_bodyR (fn := Tryd.f18) (n := 31) (res := [.tmp 2, .tmp 3]) (by kernel_rfl) rfl rfl rfl rfl rfl (fun C => ?_)
  have hr : room = 140737488355328 := rfl
  unfold encV
  refine AW.go ?_
  refine AW.cond rfl (fun hc => ?_) (fun hc => ?_)
  · have hl : 65536 < xs.length := by simp at hc; omega
    simp only [if_pos hl]
    refine AW.go ?_
    refine AW.finR (.inl rfl) (.inr rfl) (by simp only [go_sem, ↓reduceIte, retsV] <;> rfl) (.move rfl (.pv _ .nil)) (H' := []) (by simp only [go_sem, ↓reduceIte]) (by simp only [go_sem, ↓reduceIte]) (by simp only [go_sem, ↓reduceIte]) ⟨rfl, rfl⟩
  have hl : ¬ 65536 < xs.length := by simp at hc; omega
  simp only [if_neg hl]
  refine AW.go ?_
  refine AW.callE (fun _ => 12) (all_fn xs) (.pv _ .nil) ?_
  refine AW.go ?_
  refine AW.nilsOwnAt (.cell 5 0) 5 ?_
  refine AW.freeze (p := .cell 5 0) (by simp only [go_sem, ↓reduceIte, freeze, freezeO] <;> rfl) ?_
  have hout : ∀ i p, outs xs i = some p → ∃ w : Nat, (okL xs)[i]? = some w ∧ p = [PV.int .i64 (w : Int), .sl 1 (bytes (wayS xs (w : Int)).1)] := by
    intro i p hp
    rw [outs_eq] at hp
    cases hk : (okL xs)[i]? with
    | none => rw [hk] at hp; cases hp
    | some w => rw [hk] at hp; cases hp; exact ⟨w, rfl, rfl⟩
  refine AW.rangeFunc [4, 5] [4, 5] (fun i hp => hp = [(4, .cells 3 [.pv (.int .i64 ((bestC xs i).1 : Nat))]), (5, .cells 24 [.pv (.sl 1 (bytes (bestC xs i).2))])]) (fun _ _ => False) (okL xs).length (all1_iter xs 1 (by omega) hx) rfl (by simp only [go_sem, ↓reduceIte]) (by simp only [go_sem, ↓reduceIte]) (by simp only [go_sem, ↓reduceIte]) (by simp only [go_sem, ↓reduceIte] <;> rfl) rfl rfl rfl rfl rfl ?_ ?_ (.inl ?_) ?_ ?_ ?_
  · intro i p hp
    obtain ⟨w, _, rfl⟩ := hout i p hp
    rfl
  · intro i hi
    rw [outs_eq]
    have := List.getElem?_eq_getElem hi
    rw [this]
    exact ⟨_, rfl⟩
  · rw [outs_eq, List.getElem?_eq_none (Nat.le_refl _)]; rfl
  · intro i p hi hp
    obtain ⟨w, hw, rfl⟩ := hout i p hp
    have hsu := bestC_succ hw
    rintro _ rfl l C1
    refine AW.go ?_
    refine AW.nil ⟨rfl, rfl, fun C2 => ?_⟩
    rw [stepC] at hsu
    generalize bestC xs i = b at *
    obtain ⟨t, bs⟩ := b
    generalize (wayS xs (w : Int)).1 = r at *
    simp only at hsu ⊢
    have e4 : ((t : Int) == 4) = decide (t = 4) := by rw [Bool.eq_iff_iff]; simp; omega
    by_cases ht : t = 4
    · have d4 : decide (t = 4) = true := decide_eq_true ht
      rw [if_pos (.inl ht)] at hsu
      refine AW.gg ?_ (by simp only [go_sem, ↓reduceIte, e4, d4] <;> rfl)
      refine AW.condT rfl ?_
      refine AW.go ?_
      refine AW.nil ⟨rfl, by simp only [go_sem, ↓reduceIte], by simp only [go_sem, ↓reduceIte], .inl ⟨rfl, ?_⟩⟩
      simp only [go_sem, ↓reduceIte, hsu]
    · have d4 : decide (t = 4) = false := decide_eq_false ht
      by_cases hlen : r.length < bs.length
      · rw [if_pos (.inr hlen)] at hsu
        have dl : decide (r.length < bs.length) = true := decide_eq_true hlen
        refine AW.gg ?_ (by simp only [go_sem, ↓reduceIte, e4, d4, dl] <;> rfl)
        refine AW.condT rfl ?_
        refine AW.go ?_
        refine AW.nil ⟨rfl, by simp only [go_sem, ↓reduceIte], by simp only [go_sem, ↓reduceIte], .inl ⟨rfl, ?_⟩⟩
        simp only [go_sem, ↓reduceIte, hsu]
      · rw [if_neg (fun h => h.elim ht hlen)] at hsu
        have dl : decide (r.length < bs.length) = false := decide_eq_false hlen
        refine AW.gg ?_ (by simp only [go_sem, ↓reduceIte, e4, d4, dl] <;> rfl)
        refine AW.condF rfl ?_
        refine AW.go ?_
        refine AW.nil ⟨rfl, by simp only [go_sem, ↓reduceIte], by simp only [go_sem, ↓reduceIte], .inl ⟨rfl, ?_⟩⟩
        simp only [go_sem, ↓reduceIte, hsu]
  · rintro _ _ rfl
    rw [bestC_all hl]
    have hle := bestB_le xs 3
    have htg := bestB_tag xs 3
    generalize bestB xs 3 = b at *
    obtain ⟨t, bs⟩ := b
    simp only at hle htg ⊢
    have eu : IntKind.u8.wrap ((t : Nat) : Int) = (t : Nat) := wrap_u8_lt (by omega)
    have h1 : 1 + bs.length ≤ room := by omega
    refine AW.go ?_ (by simp only [go_sem, ↓reduceIte, eu, bytes_one, h1, List.length_cons, List.length_nil, Nat.zero_add, List.cons_append, List.nil_append] <;> rfl)
    refine AW.finR (.inr rfl) (.inr rfl) (by simp only [go_sem, ↓reduceIte, retsV] <;> rfl) (.move rfl (.pv _ .nil)) (H' := []) (by simp only [go_sem, ↓reduceIte]) (by simp only [go_sem, ↓reduceIte]) (by simp only [go_sem, ↓reduceIte]) ⟨rfl, rfl⟩
  · rintro j hp h; exact h.elim
end Go.Ck

set_option linter.unusedVariables false
/-! Patterns, read against the one ahead. -/
namespace Go.Ck
/-- What differs, or why that is not told; the place behind it; the window behind it. -/
structure GN where
  x : Nat
  e : Int
  k : Nat
  a : Int
  z : Int
def gNy (bs : List Nat) (k : Nat) (a z : Int) : GN :=
  if (a = -1 ∧ z = 0) ∨ z < 0 then ⟨0, 3, k, a, z⟩
  else if k + (64 - a - z).toNat ≤ bs.length then ⟨getB bs k (64 - a - z).toNat * 2 ^ z.toNat % 2 ^ 64, 0, k + (64 - a - z).toNat, a, z⟩ else ⟨0, 2, k, a, z⟩
def gNx (bs : List Nat) (k : Nat) (a z : Int) : GN :=
  if bs.length < k + 1 then ⟨0, 2, k, a, z⟩
  else if getB bs k 1 = 0 then ⟨0, 0, k + 1, a, z⟩
  else if bs.length < k + 2 then ⟨0, 2, k + 1, a, z⟩
  else if getB bs (k + 1) 1 = 1 then
    if bs.length < k + 7 then ⟨0, 2, k + 2, a, z⟩
    else if bs.length < k + 13 then ⟨0, 2, k + 7, a, z⟩
    else gNy bs (k + 13) (getB bs (k + 2) 5 : Nat) (63 - (getB bs (k + 2) 5 : Nat) - (getB bs (k + 7) 6 : Nat))
  else gNy bs (k + 2) a z
/-- A window that may be. -/
def wOK (a z : Int) : Prop := (a = -1 ∧ z = 0) ∨ (0 ≤ a ∧ a ≤ 31 ∧ 0 ≤ z ∧ a + z ≤ 63)
theorem getB_lt {bs : List Nat} (hb : ∀ x ∈ bs, x < 2) (k n : Nat) : getB bs k n < 2 ^ n := by
  have := binN_lt ((bs.drop k).take n) (fun x hx => hb x (List.mem_of_mem_drop (List.mem_of_mem_take hx)))
  exact Nat.lt_of_lt_of_le this (Nat.pow_le_pow_right (by omega) (by simp; omega))
/-- A window as it is read, or the one that was. -/
def wRd (a z : Int) : Prop := (a = -1 ∧ z = 0) ∨ (0 ≤ a ∧ a ≤ 31 ∧ a + z ≤ 63 ∧ -63 ≤ z)
theorem wOK.rd {a z : Int} (h : wOK a z) : wRd a z := by unfold wOK at h; unfold wRd; omega
theorem gNy_ok {bs : List Nat} {k : Nat} {a z : Int} (hw : wRd a z) (hk : k ≤ bs.length) : (gNy bs k a z).k ≤ bs.length ∧ (gNy bs k a z).x < 2 ^ 64 ∧ ((gNy bs k a z).e = 0 → wOK (gNy bs k a z).a (gNy bs k a z).z) := by
  unfold gNy
  split
  · exact ⟨hk, by simp, fun h => by simp at h⟩
  · rename_i h
    split
    · rename_i h2
      exact ⟨h2, Nat.mod_lt _ (by omega), fun _ => by simp only; unfold wRd at hw; unfold wOK; omega⟩
    · exact ⟨hk, by simp, fun h => by simp at h⟩
theorem gNx_ok {bs : List Nat} {k : Nat} {a z : Int} (hb : ∀ x ∈ bs, x < 2) (hw : wOK a z) (hk : k ≤ bs.length) : (gNx bs k a z).k ≤ bs.length ∧ (gNx bs k a z).x < 2 ^ 64 ∧ ((gNx bs k a z).e = 0 → wOK (gNx bs k a z).a (gNx bs k a z).z) := by
  unfold gNx
  split
  · exact ⟨hk, by simp, fun h => by simp at h⟩
  split
  · exact ⟨by simp only; omega, by simp, fun _ => hw⟩
  split
  · exact ⟨by simp only; omega, by simp, fun h => by simp at h⟩
  split
  · split
    · exact ⟨by simp only; omega, by simp, fun h => by simp at h⟩
    split
    · exact ⟨by simp only; omega, by simp, fun h => by simp at h⟩
    · have h5 := getB_lt hb (k + 2) 5
      have h6 := getB_lt hb (k + 7) 6
      exact gNy_ok (by unfold wRd; omega) (by omega)
  · exact gNy_ok hw.rd (by omega)
/-- So many patterns: those so far, why there are no more, the place, the window. -/
structure GS where
  o : List Nat
  e : Int
  k : Nat
  a : Int
  z : Int
def gRs (bs : List Nat) (r : GS) : GS :=
  if r.e ≠ 0 then r
  else if r.o.length = 0 then (if r.k + 64 ≤ bs.length then ⟨[getB bs r.k 64], 0, r.k + 64, r.a, r.z⟩ else ⟨[], 2, r.k, r.a, r.z⟩)
  else ⟨if (gNx bs r.k r.a r.z).e = 0 then r.o ++ [(gNx bs r.k r.a r.z).x ^^^ r.o.getD (r.o.length - 1) 0] else r.o, (gNx bs r.k r.a r.z).e, (gNx bs r.k r.a r.z).k, (gNx bs r.k r.a r.z).a, (gNx bs r.k r.a r.z).z⟩
def gR (bs : List Nat) : Nat → GS
  | 0 => ⟨[], 0, 0, -1, 0⟩
  | n + 1 => gRs bs (gR bs n)
theorem gR_stop {bs : List Nat} {i n : Nat} (hi : i ≤ n) (h : (gR bs i).e ≠ 0) : gR bs n = gR bs i := by
  induction n with
  | zero => rw [show i = 0 by omega]
  | succ n ih =>
    by_cases h1 : i = n + 1
    · rw [h1]
    · rw [gR, ih (by omega), gRs, if_pos h]
structure gOK (bs : List Nat) (n : Nat) : Prop where
  len : (gR bs n).o.length = n
  k : (gR bs n).k ≤ bs.length
  w : wOK (gR bs n).a (gR bs n).z
  lt : ∀ x ∈ (gR bs n).o, x < 2 ^ 64
theorem getD_lt {l : List Nat} {b : Nat} (h : ∀ x ∈ l, x < b) (hb : 0 < b) (i : Nat) : l.getD i 0 < b := by
  rw [List.getD_eq_getElem?_getD]
  cases hg : l[i]? with
  | none => exact hb
  | some z => exact h z (List.mem_of_getElem? hg)
theorem gR_ok {bs : List Nat} (hb : ∀ x ∈ bs, x < 2) : ∀ n, (gR bs n).e = 0 → gOK bs n
  | 0, _ => ⟨rfl, Nat.zero_le _, .inl ⟨rfl, rfl⟩, by simp [gR]⟩
  | n + 1, h => by
    by_cases h0 : (gR bs n).e = 0
    · obtain ⟨h1, h2, h3, h4⟩ := gR_ok hb n h0
      have hg := gNx_ok hb h3 h2
      have hlast : (gR bs n).o.getD ((gR bs n).o.length - 1) 0 < 2 ^ 64 := getD_lt h4 (by omega) _
      have hdef : gR bs (n + 1) = gRs bs (gR bs n) := rfl
      constructor <;> rw [hdef] at h ⊢ <;> generalize gR bs n = r at * <;> unfold gRs at h ⊢ <;> rw [if_neg (by simpa using h0)] at h ⊢
      · split
        · rename_i hl
          rw [if_pos hl] at h
          split
          · simp; omega
          · rename_i h6; rw [if_neg h6] at h; simp at h
        · rename_i hl
          rw [if_neg hl] at h
          simp only at h
          simp only [if_pos h, List.length_append, List.length_singleton]
          omega
      · split
        · split
          · assumption
          · exact h2
        · exact hg.1
      · split
        · split <;> exact h3
        · rename_i hl
          rw [if_neg hl] at h
          exact hg.2.2 h
      · split
        · split
          · intro x hx
            simp at hx
            subst hx
            exact getB_lt hb _ _
          · simp
        · rename_i hl
          rw [if_neg hl] at h
          simp only at h
          intro x hx
          simp only [if_pos h, List.mem_append, List.mem_singleton] at hx
          rcases hx with hx | rfl
          · exact h4 x hx
          · exact Nat.xor_lt_two_pow hg.2.1 hlast
    · have : gR bs (n + 1) = gR bs n := gR_stop (by omega) h0
      rw [this] at h
      exact absurd h h0
def dec09 (l : List Nat) (n : Nat) : List Nat × Int :=
  if (gR (unb l) n).e ≠ 0 then ([], (gR (unb l) n).e) else if enc09 (gR (unb l) n).o = l then ((gR (unb l) n).o, 0) else ([], 3)
theorem enc09_byte (xs : List Nat) : ∀ x ∈ enc09 xs, x < 256 := pk_byte _ (gF_bit xs)
end Go.Ck

set_option linter.unusedVariables false
set_option maxRecDepth 10000
set_option maxHeartbeats 1000000
namespace Go.Ck
open Go.Proofs

abbrev gwO (l : List Nat) (k : Nat) (a z : Int) : List (Nat × HO) := [(1000, .cells 136 [.pv (.sl 1 (bytes l)), .pv (.int .i64 k)]), (1001, .cells 92 [.pv (.int .i64 a), .pv (.int .i64 z)])]
attribute [go_sem] gwO
theorem gnext_fn (l : List Nat) (k : Nat) (a z : Int) (hk : k ≤ 8 * l.length) (hl : 8 * l.length ≤ room) (hb : ∀ x ∈ l, x < 256) (hw : wOK a z) : Fn Tryd.prog 102 (gwO l k a z) [.ptr 1000 0, .ptr 1001 0]
    (fun rs H' => rs = [.pv (.int .u64 (gNx (unb l) k a z).x), .pv (.int .i64 (gNx (unb l) k a z).e)] ∧ H' = gwO l (gNx (unb l) k a z).k (gNx (unb l) k a z).a (gNx (unb l) k a z).z) := by
  refine Fn.of_body (fn := Tryd.f102) (n := 90) (res := [.tmp 4, .tmp 5]) (by kernel_rfl) rfl rfl rfl rfl rfl (fun C => ?_)
  have hr : room < 2 ^ 62 := by decide
  have hul := unb_len l
  have hub := unb_bit l
  refine AW.go ?_
  refine AW.callE id (rdGet_fn l k 1 (by omega) hk hl hb) (.ptr rfl (.pv _ .nil)) ?_
  by_cases h1 : 8 * l.length < k + 1
  · have hs : gNx (unb l) k a z = ⟨0, 2, k, a, z⟩ := by rw [gNx, if_pos (by omega)]
    simp only [if_neg (Nat.not_le.2 h1), hs]
    refine AW.gg ?_
    refine AW.condT rfl ?_
    refine AW.go ?_
    refine AW.finE (.pv _ (.pv _ .nil)) rfl
  have h1' : k + 1 ≤ 8 * l.length := by omega
  simp only [if_pos h1']
  by_cases h2 : getB (unb l) k 1 = 0
  · have hs : gNx (unb l) k a z = ⟨0, 0, k + 1, a, z⟩ := by rw [gNx, if_neg (by omega), if_pos h2]
    simp only [h2, hs]
    refine AW.gg ?_
    refine AW.condT rfl ?_
    refine AW.go ?_
    refine AW.finE (.pv _ (.pv _ .nil)) rfl
  have e2 : (((getB (unb l) k 1 : Nat) : Int) == 0) = false := by simpa using h2
  refine AW.gg ?_ (by simp only [go_sem, ↓reduceIte, e2] <;> rfl)
  refine AW.condF rfl ?_
  refine AW.go ?_
  refine AW.callE id (rdGet_fn l (k + 1) 1 (by omega) h1' hl hb) (.ptr rfl (.pv _ .nil)) ?_
  by_cases h3 : 8 * l.length < k + 2
  · have hs : gNx (unb l) k a z = ⟨0, 2, k + 1, a, z⟩ := by rw [gNx, if_neg (by omega), if_neg h2, if_pos (by omega)]
    simp only [if_neg (Nat.not_le.2 h3), hs]
    refine AW.go ?_
    refine AW.condT rfl ?_
    refine AW.go ?_
    refine AW.finE (.pv _ (.pv _ .nil)) rfl
  have h3' : k + 2 ≤ 8 * l.length := by omega
  simp only [if_pos h3']
  refine AW.go ?_
  refine AW.condF rfl ?_
  refine AW.go ?_
  refine AW.joinS (fun q : Nat × Int × Int => ⟨90, [(0, .ptr 1000 0), (1, .ptr 1001 0)], gwO l q.1 q.2.1 q.2.2⟩) (fun q => q.1 ≤ 8 * l.length ∧ wRd q.2.1 q.2.2 ∧ gNx (unb l) k a z = gNy (unb l) q.1 q.2.1 q.2.2) [0, 1] [1000, 1001] ?_ ?_
  · intro K hK
    refine AW.cond rfl (fun hc => ?_) (fun hc => ?_)
    · have h4 : getB (unb l) (k + 1) 1 = 1 := by simp at hc; omega
      refine AW.go ?_
      refine AW.callE id (rdGet_fn l (k + 2) 5 (by omega) h3' hl hb) (.ptr rfl (.pv _ .nil)) ?_
      by_cases h5 : 8 * l.length < k + 7
      · have hs : gNx (unb l) k a z = ⟨0, 2, k + 2, a, z⟩ := by rw [gNx, if_neg (by omega), if_neg h2, if_neg (by omega), if_pos h4, if_pos (by omega)]
        simp only [if_neg (show ¬ k + 2 + 5 ≤ 8 * l.length by omega), hs]
        refine AW.go ?_
        refine AW.condT rfl ?_
        refine AW.go ?_
        refine AW.finE (.pv _ (.pv _ .nil)) rfl
      have h5' : k + 2 + 5 ≤ 8 * l.length := by omega
      simp only [if_pos h5']
      refine AW.go ?_
      refine AW.condF rfl ?_
      refine AW.go ?_
      refine AW.callE id (rdGet_fn l (k + 7) 6 (by omega) h5' hl hb) (.ptr rfl (.pv _ .nil)) ?_
      by_cases h6 : 8 * l.length < k + 13
      · have hs : gNx (unb l) k a z = ⟨0, 2, k + 7, a, z⟩ := by rw [gNx, if_neg (by omega), if_neg h2, if_neg (by omega), if_pos h4, if_neg (by omega), if_pos (by omega)]
        simp only [if_neg (show ¬ k + 7 + 6 ≤ 8 * l.length by omega), hs]
        refine AW.go ?_
        refine AW.condT rfl ?_
        refine AW.go ?_
        refine AW.finE (.pv _ (.pv _ .nil)) rfl
      have h6' : k + 7 + 6 ≤ 8 * l.length := by omega
      simp only [if_pos h6']
      have hs : gNx (unb l) k a z = gNy (unb l) (k + 13) (getB (unb l) (k + 2) 5 : Nat) (63 - (getB (unb l) (k + 2) 5 : Nat) - (getB (unb l) (k + 7) 6 : Nat)) := by rw [gNx, if_neg (by omega), if_neg h2, if_neg (by omega), if_pos h4, if_neg (by omega), if_neg (by omega)]
      have b5 := getB_lt hub (k + 2) 5
      have b6 := getB_lt hub (k + 7) 6
      generalize getB (unb l) (k + 2) 5 = u at *
      generalize getB (unb l) (k + 7) 6 = v at *
      have w1 : IntKind.i64.wrap (u : Int) = u := wrap_i64_nat (by omega)
      have w2 : IntKind.i64.wrap (v : Int) = v := wrap_i64_nat (by omega)
      have w3 : IntKind.i64.wrap (IntKind.i64.wrap (63 - (u : Int)) - (v : Int)) = 63 - (u : Int) - (v : Int) := by rw [wrap_i64_of (n := 63 - (u : Int)) (by omega) (by omega), wrap_i64_of (by omega) (by omega)]
      refine AW.go ?_
      refine AW.condF rfl ?_
      refine AW.go ?_ (by simp only [go_sem, ↓reduceIte, w1, w2, w3] <;> rfl)
      exact AW.meet hK (k + 13, (u : Int), 63 - (u : Int) - (v : Int)) ⟨by simp only; omega, by unfold wRd; simp only; omega, hs⟩
    · have h4 : ¬ getB (unb l) (k + 1) 1 = 1 := by simp at hc; omega
      have hs : gNx (unb l) k a z = gNy (unb l) (k + 2) a z := by rw [gNx, if_neg (by omega), if_neg h2, if_neg (by omega), if_neg h4]
      refine AW.go ?_
      exact AW.meet hK (k + 2, a, z) ⟨h3', hw.rd, hs⟩
  clear hw hk h1 h1' h2 e2 h3 h3'
  rintro ⟨k', a', z'⟩ ⟨hk, hw, hs⟩
  simp only at hk hw hs
  rw [hs]
  clear hs
  refine AW.go ?_
  refine AW.any0 mixed ?_
  refine via (T := ?T1) (fun hT => ?_) ?_
  rotate_left
  · refine AW.branch (rs := [0, 3]) ?_ (by decide +kernel) (by simp)
    intro j hj
    simp only [List.mem_cons, List.not_mem_nil, or_false] at hj
    rcases hj with rfl | rfl
    · refine AW.go ?_
      refine AW.branch (fuel := 10) (rs := [1, 3]) ?_ (by decide +kernel) (by simp)
      intro j hj
      simp only [List.mem_cons, List.not_mem_nil, or_false] at hj
      rcases hj with rfl | rfl
      · refine AW.go ?_
        refine AW.branch (fuel := 9) (rs := [2, 3]) ?_ (by decide +kernel) (by simp)
        intro j hj
        simp only [List.mem_cons, List.not_mem_nil, or_false] at hj
        rcases hj with rfl | rfl
        · refine AW.go ?_
          refine AW.seqs (fuel := 8) (listed' := #[true, true, true, true, false, false, false, false, false, false, false, false]) [3] ?_ (by decide +kernel)
          refine AW.go ?_
          refine AW.callE (fun _ => 0) none_fn .nil ?_
          refine AW.go ?_
          refine AW.keepB [0, 1, 64, 65] [1000, 1001] (by simp only [go_sem, ↓reduceIte]) (by simp only [go_sem, ↓reduceIte] <;> rfl) ?_
          exact hT ()
        · refine AW.go ?_
          refine AW.callE (fun _ => 0) none_fn .nil ?_
          refine AW.seqs (fuel := 8) (listed' := #[true, true, true, true, false, false, false, false, false, false, false, false]) [2] ?_ (by decide +kernel)
          refine AW.go ?_
          refine AW.keepB [0, 1, 64, 65] [1000, 1001] (by simp only [go_sem, ↓reduceIte]) (by simp only [go_sem, ↓reduceIte] <;> rfl) ?_
          exact hT ()
      · refine AW.go ?_
        refine AW.callE (fun _ => 0) none_fn .nil ?_
        refine AW.seqs (fuel := 8) (listed' := #[true, true, true, true, false, false, false, false, false, false, false, false]) [1, 2] ?_ (by decide +kernel)
        refine AW.go ?_
        refine AW.keepB [0, 1, 64, 65] [1000, 1001] (by simp only [go_sem, ↓reduceIte]) (by simp only [go_sem, ↓reduceIte] <;> rfl) ?_
        exact hT ()
    · refine AW.go ?_
      refine AW.callE (fun _ => 0) none_fn .nil ?_
      refine AW.seqs (fuel := 8) (listed' := #[true, true, true, true, false, false, false, false, false, false, false, false]) [0, 1, 2] ?_ (by decide +kernel)
      refine AW.go ?_
      refine AW.keepB [0, 1, 64, 65] [1000, 1001] (by simp only [go_sem, ↓reduceIte]) (by simp only [go_sem, ↓reduceIte] <;> rfl) ?_
      exact hT ()
  refine AW.seqs (fuel := 7) (listed' := #[true, true, true, true, true, false, false, false, false, false, false, false]) [4] ?_ (by decide +kernel)
  refine AW.go ?_
  refine AW.eq2 (ho := rfl) eqWin rfl rfl ?_
  by_cases hn : a' = -1 ∧ z' = 0
  · have hs : gNy (unb l) k' a' z' = ⟨0, 3, k', a', z'⟩ := by rw [gNy, if_pos (.inl hn)]
    obtain ⟨rfl, rfl⟩ := hn
    rw [hs]
    refine AW.gg ?_
    refine AW.seqs (fuel := 0) (listed' := #[true, true, true, true, true, true, true, true, true, true, true, true]) [5, 6, 7, 8, 9, 10, 11] ?_ (by decide +kernel)
    refine AW.gg ?_
    refine AW.anyDone (by decide +kernel) ?_
    refine AW.condT rfl ?_
    refine AW.go ?_
    refine AW.finE (.pv _ (.pv _ .nil)) rfl
  have en : (a' == -1 && z' == 0) = false := by simp; intro h; exact fun h2 => hn ⟨h, h2⟩
  rw [en]
  by_cases hz : z' < 0
  · have hs : gNy (unb l) k' a' z' = ⟨0, 3, k', a', z'⟩ := by rw [gNy, if_pos (.inr hz)]
    rw [hs]
    have ez : decide (z' < 0) = true := decide_eq_true hz
    refine AW.gg ?_
    refine AW.seqs (fuel := 0) (listed' := #[true, true, true, true, true, true, true, true, true, true, true, true]) [5, 6, 7, 8, 9, 10, 11] ?_ (by decide +kernel)
    refine AW.gg ?_ (by simp only [go_sem, ↓reduceIte, ez] <;> rfl)
    refine AW.anyDone (by decide +kernel) ?_
    refine AW.condT rfl ?_
    refine AW.go ?_
    refine AW.finE (.pv _ (.pv _ .nil)) rfl
  have ez : decide (z' < 0) = false := decide_eq_false hz
  refine AW.gg ?_
  refine AW.seqs (fuel := 0) (listed' := #[true, true, true, true, true, true, true, true, true, true, true, true]) [5, 6, 7, 8, 9, 10, 11] ?_ (by decide +kernel)
  refine AW.gg ?_ (by simp only [go_sem, ↓reduceIte, ez] <;> rfl)
  refine AW.anyDone (by decide +kernel) ?_
  refine AW.condF rfl ?_
  have hnz : ¬ ((a' = -1 ∧ z' = 0) ∨ z' < 0) := fun h => h.elim hn hz
  have hs : gNy (unb l) k' a' z' = if k' + (64 - a' - z').toNat ≤ 8 * l.length then ⟨getB (unb l) k' (64 - a' - z').toNat * 2 ^ z'.toNat % 2 ^ 64, 0, k' + (64 - a' - z').toNat, a', z'⟩ else ⟨0, 2, k', a', z'⟩ := by rw [gNy, if_neg hnz, hul]
  rw [hs]
  clear hs en ez
  unfold wRd at hw
  obtain ⟨u, rfl⟩ : ∃ u : Nat, a' = u := ⟨a'.toNat, by omega⟩
  obtain ⟨t, rfl⟩ : ∃ t : Nat, z' = t := ⟨z'.toNat, by omega⟩
  have eR : (64 - (u : Int) - (t : Int)).toNat = 64 - u - t := by omega
  rw [eR, Int.toNat_natCast]
  refine AW.go ?_
  refine AW.callE (fun _ => 0) (rest_fn u t (by omega)) (.pv _ .nil) ?_
  refine AW.go ?_
  refine AW.callE id (rdGet_fn l k' (64 - u - t) (by omega) hk hl hb) (.ptr rfl (.pv _ .nil)) ?_
  by_cases h7 : k' + (64 - u - t) ≤ 8 * l.length
  · simp only [if_pos h7]
    generalize getB (unb l) k' (64 - u - t) = y at *
    have e7 := shlI_nat64 y t (by omega)
    refine AW.go ?_ (by simp only [go_sem, ↓reduceIte, e7] <;> rfl)
    refine AW.finE (.pv _ (.pv _ .nil)) rfl
  · simp only [if_neg h7]
    have e7 : shlI .u64 ((0 : Nat) : Int) (t : Int) = ((0 : Nat) : Int) := by have := shlI_nat64 0 t (by omega); simpa using this
    refine AW.go ?_ (by simp only [go_sem, ↓reduceIte, e7] <;> rfl)
    refine AW.finE (.pv _ (.pv _ .nil)) rfl

theorem gorDec_fn (l : List Nat) (n : Nat) (hn : n ≤ 65536) (hl : l.length ≤ 2 ^ 40) (hb : ∀ x ∈ l, x < 256) : Fn Tryd.prog 77 [] [.pv (.sl 1 (bytes l)), .pv (.int .i64 n)]
    (fun rs H' => rs = [.own 38 (u64s (dec09 l n).1), .pv (.int .i64 (dec09 l n).2)] ∧ H' = []) := by
  refine Fn.of_body (fn := Tryd.f77) (n := 64) (res := [.tmp 4, .tmp 5]) (by kernel_rfl) rfl rfl rfl rfl rfl (fun C => ?_)
  have hr : room = 140737488355328 := rfl
  have hub := unb_bit l
  have hul := unb_len l
  refine AW.gg ?_
  refine AW.condF (by simp only [go_sem, ↓reduceIte]; congr 3; simp; omega) ?_
  refine AW.go ?_
  refine AW.callE (fun o => if o = 6 then 21 else 0) (rdNew_fn l (by omega)) (.pv _ .nil) ?_
  refine AW.go ?_
  refine AW.callE (fun _ => 0) none_fn .nil ?_
  refine AW.go ?_
  unfold dec09
  generalize hbs : unb l = bs at *
  refine AW.loopS (fun i : Nat => ⟨64, [(24, .pv (.int .i64 i)), (23, .pv (.int .i64 n)), (8, .own 38 (u64s (gR bs i).o)), (7, .ptr 7 0), (6, .ptr 21 0), (0, .pv (.sl 1 (bytes l)))], [(21, .cells 136 [.pv (.sl 1 (bytes l)), .pv (.int .i64 (gR bs i).k)]), (7, .cells 92 [.pv (.int .i64 (gR bs i).a), .pv (.int .i64 (gR bs i).z)])]⟩) (fun i => i ≤ n ∧ (gR bs i).e = 0) (fun i => n - i) [24, 23, 8, 7, 6, 0] [21, 7] 0 ⟨Nat.zero_le _, rfl⟩ ?_
  rintro i ⟨hi, he⟩ K hK
  obtain ⟨o1, o2, o3, o4⟩ := gR_ok hub i he
  refine AW.go ?_
  refine AW.cond rfl (fun hc => ?_) (fun hc => ?_)
  · have hlt : i < n := by simpa using hc
    have hsu : gR bs (i + 1) = gRs bs (gR bs i) := rfl
    have hstop := @gR_stop bs (i + 1) n hlt
    generalize hrr : gR bs (i + 1) = r' at hsu hstop
    generalize gR bs i = r at *
    obtain ⟨o, e, k, a, z⟩ := r
    simp only at he o1 o2 o3 o4 hsu ⊢
    subst he
    have h1 : (i + 1) * 8 ≤ room := by omega
    have h2 : i + 1 ≤ room := by omega
    have ei : IntKind.i64.wrap ((i : Int) + 1) = ((i + 1 : Nat) : Int) := wrap_i64_succ (by omega)
    by_cases h0 : i = 0
    · subst h0
      unfold gRs at hsu
      rw [if_neg (by simp), if_pos (by simpa using o1)] at hsu
      simp only at hsu
      have ho : o = [] := List.length_eq_zero_iff.1 o1
      subst ho
      refine AW.go ?_
      refine AW.condT rfl ?_
      refine AW.go ?_
      refine AW.callE (fun _ => 21) (rdGet_fn l k 64 (by omega) (by omega) (by omega) hb) (.ptr rfl (.pv _ .nil)) ?_
      rw [hbs]
      by_cases h64 : k + 64 ≤ 8 * l.length
      · rw [if_pos (by omega)] at hsu
        simp only [if_pos h64]
        refine AW.go ?_
        refine AW.condF rfl ?_
        refine AW.go ?_ (by simp only [go_sem, ↓reduceIte, u64s_one, ei] <;> rfl)
        rw [hsu] at hrr
        refine AW.again hK 1 ⟨hlt, by rw [show gR bs 1 = _ from hrr]⟩ (by omega) (by simp only [go_sem, ↓reduceIte]) (by simp only [go_sem, ↓reduceIte, show gR bs 1 = _ from hrr] <;> rfl)
      · rw [if_neg (by omega)] at hsu
        have hst := hstop (by rw [hsu]; simp)
        rw [hsu] at hst
        simp only [if_neg h64, hst]
        refine AW.go ?_
        refine AW.condT rfl ?_
        refine AW.go ?_
        refine AW.finE (.move rfl (.pv _ .nil)) rfl
    · unfold gRs at hsu
      rw [if_neg (by simp), if_neg (by simp only; omega)] at hsu
      simp only at hsu
      have c0 : ((i : Int) == 0) = false := by simpa using h0
      have ei1 : IntKind.i64.wrap ((i : Int) - 1) = ((i - 1 : Nat) : Int) := by rw [wrap_i64_of (by omega) (by omega)]; omega
      have hlo : i - 1 < o.length := by omega
      have hget : (u64s o)[i - 1]? = some (.int .u64 (o.getD (o.length - 1) 0 : Nat)) := by rw [u64s_get hlo, getD_get hlo, o1]
      have hy := getD_lt o4 (by omega) (o.length - 1)
      have hgn := gNx_ok hub o3 (a := a) (z := z) (k := k) (by omega)
      have hnx := gnext_fn l k a z (by omega) (by omega) hb o3
      rw [hbs] at hnx
      refine AW.go ?_ (by simp only [go_sem, ↓reduceIte, c0] <;> rfl)
      refine AW.condF rfl ?_
      refine AW.go ?_
      refine AW.callE (fun o => if o = 1000 then 21 else if o = 1001 then 7 else 0) hnx (.ptr rfl (.ptr rfl .nil)) ?_
      generalize gNx bs k a z = q at *
      obtain ⟨x, e, k2, a2, z2⟩ := q
      simp only at hgn hsu ⊢
      generalize o.getD (o.length - 1) 0 = y at *
      have hxy := ibits_xor64 hgn.2.1 hy
      refine AW.go ?_ (by simp only [go_sem, ↓reduceIte, ei1, hlo, hget, hxy] <;> rfl)
      refine AW.cond rfl (fun hc2 => ?_) (fun hc2 => ?_)
      · have hne : e ≠ 0 := by simpa using hc2
        have hst := hstop (by rw [hsu]; exact hne)
        rw [hsu] at hst
        simp only [hst, if_pos hne]
        refine AW.go ?_
        refine AW.finE (.move rfl (.pv _ .nil)) rfl
      · have hne : e = 0 := by simpa using hc2
        subst hne
        rw [if_pos rfl] at hsu
        refine AW.go ?_ (by simp only [go_sem, ↓reduceIte, o1, h1, h2, u64s_one, ei] <;> rfl)
        rw [hsu] at hrr
        refine AW.again hK (i + 1) ⟨hlt, by rw [hrr]⟩ (by omega) (by simp only [go_sem, ↓reduceIte]) (by simp only [go_sem, ↓reduceIte, hrr] <;> rfl)
  have hge : i = n := by simp at hc; omega
  subst hge
  simp only [if_neg (show ¬ (gR bs i).e ≠ 0 from fun h => h he)]
  generalize (gR bs i).o = o at *
  have hle : o.length ≤ 65536 := by omega
  refine AW.go ?_
  refine AW.callE (fun _ => 0) (gorEnc_fn o o4) (.lend rfl co_38 .nil) ?_
  simp only [if_pos hle]
  refine AW.go ?_
  refine AW.callE (fun _ => 0) (bytesEqual_fn (enc09 o) l (enc09_byte _) hb) (.lend rfl co_5 (.pv _ .nil)) ?_
  refine AW.go ?_
  refine AW.cond rfl (fun hc2 => ?_) (fun hc2 => ?_)
  · have hne : ¬ enc09 o = l := by simpa using hc2
    simp only [if_neg hne]
    refine AW.go ?_
    refine AW.finE (.move rfl (.pv _ .nil)) rfl
  · have hne : enc09 o = l := by simpa using hc2
    simp only [if_pos hne]
    refine AW.go ?_
    refine AW.finE (.move rfl (.pv _ .nil)) rfl
end Go.Ck

set_option linter.unusedVariables false
/-! Any way, read. -/
namespace Go.Ck
def zr (a z : Int) : Int := if a = -1 then -1 else z
/-- The reference's reading, between two rounds. -/
structure RQ where
  i : Nat
  o : List Nat
  rest : List Nat
  bad : Int
  a : Int
  z : Int
def RQ.ok (bs : List Nat) (n : Nat) (q : RQ) : Prop := q.i ≤ n ∧ q.o.length = q.i ∧ (∀ x ∈ q.o, x < 2 ^ 64) ∧ (gR bs q.i).e = q.bad ∧
  (q.bad = 0 → q.o = (gR bs q.i).o ∧ q.rest = bs.drop (gR bs q.i).k ∧ q.a = (gR bs q.i).a ∧ q.z = zr (gR bs q.i).a (gR bs q.i).z)
theorem zr_neg {a z : Int} (h : wRd a z) : ((a = -1 ∧ z = 0) ∨ z < 0) ↔ (a < 0 ∨ zr a z < 0) := by
  unfold wRd at h; unfold zr; split <;> omega
theorem zr_pos {a z : Int} (h : 0 ≤ a) : zr a z = z := by unfold zr; rw [if_neg (by omega)]
theorem getB_drop (bs : List Nat) (k n : Nat) : binN ((bs.drop k).take n) = getB bs k n := rfl
/-- n patterns out of bytes, some way. -/
def rd11 (l : List Nat) (n t : Nat) : List Nat × Int :=
  if t = 2 then dec10 l n else if t = 3 then dec09 l n
  else if l.length < 8 * (if t = 1 then 1 else n) then ([], 2) else if l.length ≠ 8 * (if t = 1 then 1 else n) then ([], 3)
  else (if t = 1 then List.replicate n (beN (l.take 8)) else dic l n, 0)
def dec11 (l : List Nat) (n : Int) : List Nat × Int :=
  if n < 0 ∨ 65536 < n then ([], 1) else if l = [] then ([], 2) else if 4 ≤ l.headD 0 then ([], 3)
  else if (rd11 l.tail n.toNat (l.headD 0)).2 ≠ 0 then ([], (rd11 l.tail n.toNat (l.headD 0)).2)
  else if (encV (rd11 l.tail n.toNat (l.headD 0)).1).1 = l then ((rd11 l.tail n.toNat (l.headD 0)).1, 0) else ([], 3)
/-- What fixed reads: the patterns, why not, what is left. -/
def fx (l : List Nat) (n : Nat) : List Nat × Int × List Nat :=
  if 8 * n ≤ l.length then (dic l n, if l.drop (8 * n) = [] then 0 else 3, l.drop (8 * n)) else ([], 2, l.drop (8 * (l.length / 8)))
def vR (l : List Nat) (n t : Nat) : List Nat × Int × List Nat :=
  if t = 0 then fx l n
  else if t = 1 then (if (fx l 1).2.1 ≠ 0 then ([], (fx l 1).2.1, (fx l 1).2.2) else (List.replicate n (beN (l.take 8)), 0, (fx l 1).2.2))
  else if t = 2 then ((dec10 l n).1, (dec10 l n).2, []) else ((dec09 l n).1, (dec09 l n).2, [])
theorem fx_err (l : List Nat) (n : Nat) : (fx l n).2.1 = if l.length < 8 * n then 2 else if l.length ≠ 8 * n then 3 else 0 := by
  unfold fx
  by_cases h : 8 * n ≤ l.length
  · rw [if_pos h]
    have h1 : ¬ l.length < 8 * n := by omega
    by_cases h2 : l.length ≤ 8 * n
    · have h3 : ¬ l.length ≠ 8 * n := by omega
      simp only [List.drop_eq_nil_iff, if_pos h2, if_neg h1, if_neg h3]
    · have h3 : l.length ≠ 8 * n := by omega
      simp only [List.drop_eq_nil_iff, if_neg h2, if_neg h1, if_pos h3]
  · rw [if_neg h, if_pos (by omega)]
theorem vR_rd {l : List Nat} {n t : Nat} (ht : t < 4) : (vR l n t).2.1 = (rd11 l n t).2 ∧ ((rd11 l n t).2 = 0 → (vR l n t).1 = (rd11 l n t).1) := by
  have hc : t = 0 ∨ t = 1 ∨ t = 2 ∨ t = 3 := by omega
  rcases hc with rfl | rfl | rfl | rfl
  · have e := fx_err l n
    simp only [vR, rd11, if_true, Nat.reduceEqDiff, if_false] at *
    constructor
    · rw [e]; split
      · rfl
      · split <;> rfl
    · split
      · intro h; simp at h
      · split
        · intro h; simp at h
        · intro _; unfold fx; rw [if_pos (by omega)]
  · have e := fx_err l 1
    simp only [vR, rd11, if_true, Nat.reduceEqDiff, if_false, Nat.one_ne_zero] at *
    rw [e]
    split
    · simp
    · split <;> simp
  · simp [vR, rd11]
  · simp [vR, rd11]
theorem dec10_lt {l : List Nat} (hb : ∀ x ∈ l, x < 256) (n : Nat) : ∀ x ∈ (dec10 l n).1, x < 2 ^ 64 := by
  unfold dec10 dec10b
  split
  · simp
  split
  · simp
  split
  · simp
  split
  · simp
  split
  · simp
  split
  · exact pats_lt _ _ _ (fun x hx => hb x (List.mem_of_mem_drop hx))
  · simp
theorem dec09_lt (l : List Nat) (n : Nat) : ∀ x ∈ (dec09 l n).1, x < 2 ^ 64 := by
  unfold dec09
  split
  · simp
  · rename_i h
    split
    · exact (gR_ok (unb_bit l) n (by simpa using h)).lt
    · simp
theorem beN8_lt {l : List Nat} (h : ∀ x ∈ l, x < 256) : beN (l.take 8) < 2 ^ 64 := be8_lt l h
theorem rd11_lt {l : List Nat} (hb : ∀ x ∈ l, x < 256) (n t : Nat) : ∀ x ∈ (rd11 l n t).1, x < 2 ^ 64 := by
  unfold rd11
  by_cases h2 : t = 2
  · rw [if_pos h2]; exact dec10_lt hb n
  rw [if_neg h2]
  by_cases h3 : t = 3
  · rw [if_pos h3]; exact dec09_lt l n
  rw [if_neg h3]
  generalize 8 * (if t = 1 then 1 else n) = m
  by_cases h4 : l.length < m
  · rw [if_pos h4]; intro x hx; cases hx
  rw [if_neg h4]
  by_cases h5 : l.length ≠ m
  · rw [if_pos h5]; intro x hx; cases hx
  rw [if_neg h5]
  by_cases h1 : t = 1
  · rw [if_pos h1]
    intro x hx
    rw [List.eq_of_mem_replicate hx]
    exact be8_lt l hb
  · rw [if_neg h1]
    exact dic_lt l n hb
theorem encP_byte (xs : List Nat) : ∀ x ∈ encP xs, x < 256 := by
  intro x hx
  simp only [encP, List.mem_flatMap] at hx
  obtain ⟨y, _, hx⟩ := hx
  exact beB_byte _ _ x hx
theorem wayS_byte (xs : List Nat) (w : Int) : ∀ x ∈ (wayS xs w).1, x < 256 := by
  unfold wayS
  split
  · simp
  split
  · simp
  split
  · exact enc10_byte xs
  split
  · exact enc09_byte xs
  split
  · exact encP_byte xs
  split
  · simp
  · exact encP_byte _
theorem bestB_byte (xs : List Nat) (n : Nat) : ∀ x ∈ (bestB xs n).2, x < 256 := by
  induction n with
  | zero => rw [bestB_zero]; exact encP_byte xs
  | succ n ih =>
    rw [bestB_succ, stepB]
    split
    · exact wayS_byte xs _
    · exact ih
theorem encV_byte (xs : List Nat) : ∀ x ∈ (encV xs).1, x < 256 := by
  unfold encV
  split
  · simp
  · intro x hx
    rcases List.mem_cons.1 hx with rfl | hx
    · have := bestB_tag xs 3; omega
    · exact bestB_byte xs 3 x hx
theorem dec11_arg {l : List Nat} {n : Int} (h : n < 0 ∨ 65536 < n) : dec11 l n = ([], 1) := by rw [dec11, if_pos h]
theorem dec11_nil {n : Int} (h : ¬ (n < 0 ∨ 65536 < n)) : dec11 [] n = ([], 2) := by rw [dec11, if_neg h]; rfl
theorem dec11_cons (t : Nat) (r : List Nat) {n : Nat} (h : ¬ ((n : Int) < 0 ∨ 65536 < (n : Int))) : dec11 (t :: r) n = if 4 ≤ t then ([], 3) else if (rd11 r n t).2 ≠ 0 then ([], (rd11 r n t).2)
    else if (encV (rd11 r n t).1).1 = t :: r then ((rd11 r n t).1, 0) else ([], 3) := by
  rw [dec11, if_neg h, if_neg (by simp)]; rfl
theorem encV_len (xs : List Nat) : (encV xs).1.length ≤ 8 * xs.length + 1 := by
  unfold encV
  split
  · simp
  · have := bestB_le xs 3; simp only [List.length_cons]; omega
theorem encV_room (xs : List Nat) : (encV xs).1.length ≤ room := by
  unfold encV
  split
  · simp
  · rename_i h
    have := bestB_le xs 3; have : room = 140737488355328 := rfl; simp only [List.length_cons]; omega
end Go.Ck

set_option linter.unusedVariables false
set_option maxRecDepth 10000
set_option maxHeartbeats 1000000
namespace Go.Ck
open Go.Proofs

abbrev rrO (bs : List Nat) (e : Int) : List (Nat × HO) := [(1000, .cells 130 [.pv (.sl 1 (nis bs)), .pv (.int .i64 e)])]
attribute [go_sem] rrO
theorem rget_fn (bs : List Nat) (e : Int) (n : Nat) (hn : n ≤ 64) (hb : ∀ x ∈ bs, x < 2) : Fn Tryd.prog 105 (rrO bs e) [.ptr 1000 0, .pv (.int .i64 n)]
    (fun rs H' => rs = [.pv (.int .u64 ((if n ≤ bs.length then binN (bs.take n) else 0 : Nat) : Int))] ∧ H' = rrO (if n ≤ bs.length then bs.drop n else bs) (if n ≤ bs.length then e else if e = 0 then 2 else e)) := by
  refine Fn.of_body (fn := Tryd.f105) (n := 36) (res := [.tmp 4]) (by kernel_rfl) rfl rfl rfl rfl rfl (fun C => ?_)
  refine AW.go ?_
  refine AW.callE (fun _ => 0) (refGet_fn bs n hn hb) (.pv _ (.pv _ .nil)) ?_
  by_cases h : n ≤ bs.length
  · simp only [if_pos h]
    refine AW.gg ?_
    refine AW.condF rfl ?_
    refine AW.go ?_
    refine AW.finE (.pv _ .nil) rfl
  · simp only [if_neg h]
    by_cases he : e = 0
    · subst he
      refine AW.gg ?_
      refine AW.condT rfl ?_
      refine AW.go ?_
      refine AW.finE (.pv _ .nil) rfl
    · have e0 : (e == 0) = false := by simpa using he
      simp only [if_neg he]
      refine AW.gg ?_ (by simp only [go_sem, ↓reduceIte, e0] <;> rfl)
      refine AW.condF rfl ?_
      refine AW.go ?_
      refine AW.finE (.pv _ .nil) rfl

theorem ref09Dec_fn (l : List Nat) (n : Nat) (hn : n ≤ 65536) (hl : l.length ≤ 2 ^ 40) (hb : ∀ x ∈ l, x < 256) : Fn Tryd.prog 79 [] [.pv (.sl 1 (bytes l)), .pv (.int .i64 n)]
    (fun rs H' => rs = [.own 38 (u64s (dec09 l n).1), .pv (.int .i64 (dec09 l n).2)] ∧ H' = []) := by
  refine Fn.of_body (fn := Tryd.f79) (n := 117) (res := [.tmp 4, .tmp 5]) (by kernel_rfl) rfl rfl rfl rfl rfl (fun C => ?_)
  have hr : room = 140737488355328 := rfl
  have hub := unb_bit l
  have hul := unb_len l
  refine AW.gg ?_
  refine AW.condF (by simp only [go_sem, ↓reduceIte]; congr 3; simp; omega) ?_
  refine AW.go ?_
  refine AW.callE (fun _ => 0) (refOf_fn l (by omega) hb) (.pv _ .nil) ?_
  refine AW.go ?_
  unfold dec09
  generalize hbs : unb l = bs at *
  refine AW.loopS (fun q : RQ => ⟨117, [(10, .pv (.int .i64 q.i)), (7, .own 38 (u64s q.o)), (6, .ptr 23 0), (8, .pv (.int .i64 q.a)), (9, .pv (.int .i64 q.z)), (0, .pv (.sl 1 (bytes l))), (1, .pv (.int .i64 n))], [(23, .cells 130 [.pv (.sl 1 (nis q.rest)), .pv (.int .i64 q.bad)])]⟩)
    (RQ.ok bs n) (fun q => n - q.i) [10, 7, 6, 8, 9, 0, 1] [23] ⟨0, [], bs, 0, -1, -1⟩ ⟨Nat.zero_le _, rfl, by simp, rfl, fun _ => ⟨rfl, rfl, rfl, rfl⟩⟩ ?_
  rintro ⟨i, o, rest, bad, a, z⟩ ⟨hi, hol, ho, hbad, hq⟩ K hK
  simp only at hi hol ho hbad hq
  by_cases hb0 : bad = 0
  case neg =>
    have e0 : (bad == 0) = false := by simpa using hb0
    have e1 : (bad != 0) = true := by simpa using hb0
    have hst := gR_stop hi (by rw [hbad]; exact hb0)
    rw [hst, hbad, if_pos hb0]
    by_cases hlt : i < n
    · have d1 : decide (i < n) = true := decide_eq_true hlt
      refine AW.gg ?_ (by simp only [go_sem, ↓reduceIte, d1, e0] <;> rfl)
      refine AW.condF rfl ?_
      refine AW.go ?_ (by simp only [go_sem, ↓reduceIte, e1] <;> rfl)
      refine AW.condT rfl ?_
      refine AW.go ?_
      refine AW.sr mixed (by decide +kernel) ?_
      refine AW.go ?_
      refine AW.finE (.move rfl (.pv _ .nil)) rfl
    · have d1 : decide (i < n) = false := decide_eq_false hlt
      refine AW.gg ?_ (by simp only [go_sem, ↓reduceIte, d1] <;> rfl)
      refine AW.condF rfl ?_
      refine AW.go ?_ (by simp only [go_sem, ↓reduceIte, e1] <;> rfl)
      refine AW.condT rfl ?_
      refine AW.go ?_
      refine AW.sr mixed (by decide +kernel) ?_
      refine AW.go ?_
      refine AW.finE (.move rfl (.pv _ .nil)) rfl
  subst hb0
  obtain ⟨q1, q2, q3, q4⟩ := hq rfl
  subst q1 q2 q3 q4
  clear hq
  obtain ⟨o1, o2, o3, o4⟩ := gR_ok hub i hbad
  by_cases hlt : i < n
  case neg =>
    have d1 : decide (i < n) = false := decide_eq_false hlt
    have hge : i = n := by omega
    subst hge
    rw [if_neg (fun h => h hbad)]
    generalize (gR bs i).o = o at *
    have hle : o.length ≤ 65536 := by omega
    refine AW.gg ?_ (by simp only [go_sem, ↓reduceIte, d1] <;> rfl)
    refine AW.condF rfl ?_
    refine AW.go ?_
    refine AW.condF rfl ?_
    refine AW.go ?_
    refine AW.callE (fun _ => 0) (ref09Enc_fn o o4) (.lend rfl co_38 .nil) ?_
    simp only [if_pos hle]
    refine AW.go ?_
    have hpl : (enc09 o).length ≤ room := by
      have := gF_len o
      have := pk_len (gF o).1
      unfold enc09
      omega
    refine AW.callE (fun _ => 0) (ref01Same_fn (enc09 o) l hpl) (.lend rfl co_5 (.pv _ .nil)) ?_
    refine AW.go ?_
    refine AW.cond rfl (fun hc2 => ?_) (fun hc2 => ?_)
    · have hne : ¬ enc09 o = l := by simpa using hc2
      simp only [if_neg hne]
      refine AW.go ?_
      refine AW.finE (.move rfl (.pv _ .nil)) rfl
    · have hne : enc09 o = l := by simpa using hc2
      simp only [if_pos hne]
      refine AW.go ?_
      refine AW.finE (.move rfl (.pv _ .nil)) rfl
  have d1 : decide (i < n) = true := decide_eq_true hlt
  have hsu : gR bs (i + 1) = gRs bs (gR bs i) := rfl
  generalize hrr : gR bs (i + 1) = r' at hsu
  generalize gR bs i = r at *
  obtain ⟨o, e, k, a, z⟩ := r
  simp only at hbad hol ho o1 o2 o3 o4 hsu ⊢
  subst hbad
  have h1 : (i + 1) * 8 ≤ room := by omega
  have h2 : i + 1 ≤ room := by omega
  have ei : IntKind.i64.wrap ((i : Int) + 1) = ((i + 1 : Nat) : Int) := wrap_i64_succ (by omega)
  have hbd : ∀ j, ∀ x ∈ bs.drop j, x < 2 := fun j x hx => hub x (List.mem_of_mem_drop hx)
  refine AW.gg ?_ (by simp only [go_sem, ↓reduceIte, d1] <;> rfl)
  refine AW.condT rfl ?_
  refine AW.go ?_
  by_cases h0 : i = 0
  · subst h0
    unfold gRs at hsu
    rw [if_neg (by simp), if_pos (by simpa using o1)] at hsu
    simp only at hsu
    have ho : o = [] := List.length_eq_zero_iff.1 o1
    subst ho
    refine AW.condT rfl ?_
    refine AW.go ?_
    refine AW.callE (fun _ => 23) (rget_fn (bs.drop k) 0 64 (by omega) (hbd k)) (.ptr rfl (.pv _ .nil)) ?_
    by_cases h64 : k + 64 ≤ bs.length
    · rw [if_pos h64] at hsu
      simp only [if_pos (show 64 ≤ (bs.drop k).length by simp; omega), List.drop_drop, getB_drop]
      refine AW.go ?_ (by simp only [go_sem, ↓reduceIte, u64s_one, ei] <;> rfl)
      rw [hsu] at hrr
      refine AW.again hK ⟨1, [getB bs k 64], bs.drop (k + 64), 0, a, zr a z⟩ ⟨hlt, rfl, ?_, by rw [show gR bs 1 = _ from hrr], fun _ => by rw [show gR bs 1 = _ from hrr]; exact ⟨rfl, rfl, rfl, rfl⟩⟩ (by simp only; omega)
      intro x hx
      simp at hx
      subst hx
      exact getB_lt hub _ _
    · rw [if_neg h64] at hsu
      simp only [if_neg (show ¬ 64 ≤ (bs.drop k).length by simp; omega)]
      have z0 : ((0 : Nat) : Int) = 0 := rfl
      refine AW.go ?_ (by simp only [go_sem, ↓reduceIte, u64s_one, ei] <;> rfl)
      rw [hsu] at hrr
      refine AW.again hK ⟨1, [0], bs.drop k, 2, a, zr a z⟩ ⟨hlt, rfl, by simp, by rw [show gR bs 1 = _ from hrr], fun h => by simp at h⟩ (by simp only; omega)
  unfold gRs at hsu
  rw [if_neg (by simp), if_neg (by simp only; omega)] at hsu
  simp only at hsu
  have c0 : ((i : Int) == 0) = false := by simpa using h0
  refine AW.condF (by simp only [go_sem, ↓reduceIte, c0]) ?_
  refine AW.go ?_
  have ei1 : IntKind.i64.wrap ((i : Int) - 1) = ((i - 1 : Nat) : Int) := by rw [wrap_i64_of (by omega) (by omega)]; omega
  have hlo : i - 1 < o.length := by omega
  have hget : (u64s o)[i - 1]? = some (.int .u64 (o.getD (o.length - 1) 0 : Nat)) := by rw [u64s_get hlo, getD_get hlo, o1]
  have hy := getD_lt o4 (by omega) (o.length - 1)
  have hgn := gNx_ok hub o3 (a := a) (z := z) (k := k) (by omega)
  have hdl : ∀ j, (bs.drop j).length = bs.length - j := fun j => by simp
  refine AW.callE (fun _ => 23) (rget_fn (bs.drop k) 0 1 (by omega) (hbd k)) (.ptr rfl (.pv _ .nil)) ?_
  have hv : (k + 1 ≤ bs.length ∧ (if 1 ≤ (bs.drop k).length then binN ((bs.drop k).take 1) else 0) = getB bs k 1 ∧ (if 1 ≤ (bs.drop k).length then (bs.drop k).drop 1 else bs.drop k) = bs.drop (k + 1) ∧ (if 1 ≤ (bs.drop k).length then (0 : Int) else 2) = 0) ∨
      (bs.length < k + 1 ∧ (if 1 ≤ (bs.drop k).length then binN ((bs.drop k).take 1) else 0) = 0 ∧ (if 1 ≤ (bs.drop k).length then (bs.drop k).drop 1 else bs.drop k) = bs.drop k ∧ (if 1 ≤ (bs.drop k).length then (0 : Int) else 2) = 2) := by
    by_cases h : k + 1 ≤ bs.length
    · rw [if_pos (by rw [hdl]; omega), if_pos (by rw [hdl]; omega), if_pos (by rw [hdl]; omega)]
      exact .inl ⟨h, rfl, by rw [List.drop_drop], rfl⟩
    · rw [if_neg (by rw [hdl]; omega), if_neg (by rw [hdl]; omega), if_neg (by rw [hdl]; omega)]
      exact .inr ⟨by omega, rfl, rfl, rfl⟩
  generalize (if 1 ≤ (bs.drop k).length then binN ((bs.drop k).take 1) else 0) = v at *
  generalize (if 1 ≤ (bs.drop k).length then (bs.drop k).drop 1 else bs.drop k) = rest at *
  generalize (if 1 ≤ (bs.drop k).length then (0 : Int) else 2) = bad at *
  have hv2 : v < 2 := by
    rcases hv with ⟨_, rfl, _⟩ | ⟨_, rfl, _⟩
    · exact getB_lt hub k 1
    · omega
  refine AW.go ?_
  refine AW.joinS (fun q : RQ => ⟨117, [(10, .pv (.int .i64 i)), (7, .own 38 (u64s o)), (11, .pv (.int .u64 q.i)), (6, .ptr 23 0), (8, .pv (.int .i64 q.a)), (9, .pv (.int .i64 q.z)), (0, .pv (.sl 1 (bytes l))), (1, .pv (.int .i64 n))], [(23, .cells 130 [.pv (.sl 1 (nis q.rest)), .pv (.int .i64 q.bad)])]⟩)
    (fun q => q.i < 2 ^ 64 ∧ (gNx bs k a z).e = q.bad ∧ (q.bad = 0 → q.i = (gNx bs k a z).x ∧ q.rest = bs.drop (gNx bs k a z).k ∧ q.a = (gNx bs k a z).a ∧ q.z = zr (gNx bs k a z).a (gNx bs k a z).z)) [10, 7, 11, 6, 8, 9, 0, 1] [23] ?_ ?_
  case refine_2 =>
    clear hv hv2
    rintro ⟨x, o', rest, bad, a', z'⟩ ⟨hx, he, hq⟩
    simp only at hx he hq
    generalize gNx bs k a z = q at *
    obtain ⟨gx, ge, gk, ga, gz⟩ := q
    simp only at hgn hsu he hq
    subst he
    generalize o.getD (o.length - 1) 0 = y at *
    have hxy := ibits_xor64 hx hy
    have hlo' : i - 1 < i := by omega
    refine AW.go ?_ (by simp only [go_sem, ↓reduceIte, ei1, hlo', hget, hxy, o1, h1, h2, u64s_one, ei] <;> rfl)
    rw [hsu] at hrr
    refine AW.again hK ⟨i + 1, o ++ [x ^^^ y], rest, ge, a', z'⟩ ⟨hlt, by simp [o1], ?_, by rw [hrr], fun h => ?_⟩ (by simp only; omega)
    · intro w hw
      simp only [List.mem_append, List.mem_singleton] at hw
      rcases hw with hw | rfl
      · exact o4 w hw
      · exact Nat.xor_lt_two_pow hx hy
    · simp only at h
      obtain ⟨p1, p2, p3, p4⟩ := hq h
      rw [hrr]
      simp only [if_pos h]
      exact ⟨by rw [p1], p2, p3, p4⟩
  intro K' hK'
  refine AW.cond rfl (fun hc => ?_) (fun hc => ?_)
  case refine_2 =>
    have hv0 : v = 0 := by simp at hc; omega
    subst hv0
    refine AW.go ?_
    rcases hv with ⟨g1, g2, rfl, rfl⟩ | ⟨g1, _, rfl, rfl⟩
    · have hs : gNx bs k a z = ⟨0, 0, k + 1, a, z⟩ := by rw [gNx, if_neg (by omega), if_pos g2.symm]
      exact AW.meet hK' ⟨0, [], bs.drop (k + 1), 0, a, zr a z⟩ ⟨by simp, by rw [hs], fun _ => by rw [hs]; exact ⟨rfl, rfl, rfl, rfl⟩⟩
    · have hs : gNx bs k a z = ⟨0, 2, k, a, z⟩ := by rw [gNx, if_pos g1]
      exact AW.meet hK' ⟨0, [], bs.drop k, 2, a, zr a z⟩ ⟨by simp, by rw [hs], fun h => by simp at h⟩
  have hv1 : v = 1 := by simp at hc; omega
  subst hv1
  rcases hv with ⟨g1, g2, rfl, rfl⟩ | ⟨_, h, _⟩
  case inr => cases h
  have g2' : ¬ getB bs k 1 = 0 := by omega
  refine AW.go ?_
  refine AW.callE (fun _ => 23) (rget_fn (bs.drop (k + 1)) 0 1 (by omega) (hbd (k + 1))) (.ptr rfl (.pv _ .nil)) ?_
  have hv : (k + 2 ≤ bs.length ∧ (if 1 ≤ (bs.drop (k + 1)).length then binN ((bs.drop (k + 1)).take 1) else 0) = getB bs (k + 1) 1 ∧ (if 1 ≤ (bs.drop (k + 1)).length then (bs.drop (k + 1)).drop 1 else bs.drop (k + 1)) = bs.drop (k + 2) ∧ (if 1 ≤ (bs.drop (k + 1)).length then (0 : Int) else 2) = 0) ∨
      (bs.length < k + 2 ∧ (if 1 ≤ (bs.drop (k + 1)).length then binN ((bs.drop (k + 1)).take 1) else 0) = 0 ∧ (if 1 ≤ (bs.drop (k + 1)).length then (bs.drop (k + 1)).drop 1 else bs.drop (k + 1)) = bs.drop (k + 1) ∧ (if 1 ≤ (bs.drop (k + 1)).length then (0 : Int) else 2) = 2) := by
    by_cases h : k + 2 ≤ bs.length
    · rw [if_pos (by rw [hdl]; omega), if_pos (by rw [hdl]; omega), if_pos (by rw [hdl]; omega)]
      exact .inl ⟨h, rfl, by rw [List.drop_drop], rfl⟩
    · rw [if_neg (by rw [hdl]; omega), if_neg (by rw [hdl]; omega), if_neg (by rw [hdl]; omega)]
      exact .inr ⟨by omega, rfl, rfl, rfl⟩
  generalize (if 1 ≤ (bs.drop (k + 1)).length then binN ((bs.drop (k + 1)).take 1) else 0) = v at *
  generalize (if 1 ≤ (bs.drop (k + 1)).length then (bs.drop (k + 1)).drop 1 else bs.drop (k + 1)) = rest at *
  generalize (if 1 ≤ (bs.drop (k + 1)).length then (0 : Int) else 2) = bad at *
  have hv2 : v < 2 := by
    rcases hv with ⟨_, rfl, _⟩ | ⟨_, rfl, _⟩
    · exact getB_lt hub (k + 1) 1
    · omega
  refine AW.go ?_
  refine AW.joinS (fun q : RQ => ⟨117, [(10, .pv (.int .i64 i)), (7, .own 38 (u64s o)), (11, .pv (.int .u64 0)), (6, .ptr 23 0), (8, .pv (.int .i64 q.a)), (9, .pv (.int .i64 q.z)), (0, .pv (.sl 1 (bytes l))), (1, .pv (.int .i64 n))], [(23, .cells 130 [.pv (.sl 1 (nis q.rest)), .pv (.int .i64 q.bad)])]⟩)
    (fun q => (q.bad = 0 ∧ ∃ k' z', wRd q.a z' ∧ k' ≤ bs.length ∧ gNx bs k a z = gNy bs k' q.a z' ∧ q.rest = bs.drop k' ∧ q.z = zr q.a z') ∨ (q.bad ≠ 0 ∧ (gNx bs k a z).e = q.bad)) [10, 7, 11, 6, 8, 9, 0, 1] [23] ?_ ?_
  · intro K2 hK2
    refine AW.cond rfl (fun hc => ?_) (fun hc => ?_)
    case refine_2 =>
      have hv0 : v = 0 := by simp at hc; omega
      subst hv0
      refine AW.go ?_
      rcases hv with ⟨g3, g4, rfl, rfl⟩ | ⟨g3, _, rfl, rfl⟩
      · have hs : gNx bs k a z = gNy bs (k + 2) a z := by rw [gNx, if_neg (by omega), if_neg g2', if_neg (by omega), if_neg (by omega)]
        exact AW.meet hK2 ⟨0, [], bs.drop (k + 2), 0, a, zr a z⟩ (.inl ⟨rfl, k + 2, z, o3.rd, g3, hs, rfl, rfl⟩)
      · have hs : gNx bs k a z = ⟨0, 2, k + 1, a, z⟩ := by rw [gNx, if_neg (by omega), if_neg g2', if_pos g3]
        exact AW.meet hK2 ⟨0, [], bs.drop (k + 1), 2, a, zr a z⟩ (.inr ⟨by simp, by rw [hs]⟩)
    have hv1 : v = 1 := by simp at hc; omega
    subst hv1
    rcases hv with ⟨g3, g4, rfl, rfl⟩ | ⟨_, h, _⟩
    case inr => cases h
    refine AW.go ?_
    refine AW.callE (fun _ => 23) (rget_fn (bs.drop (k + 2)) 0 5 (by omega) (hbd (k + 2))) (.ptr rfl (.pv _ .nil)) ?_
    by_cases h5 : k + 7 ≤ bs.length
    · simp only [if_pos (show 5 ≤ (bs.drop (k + 2)).length by rw [hdl]; omega), getB_drop, List.drop_drop]
      have b5 := getB_lt hub (k + 2) 5
      have w1 : IntKind.i64.wrap ((getB bs (k + 2) 5 : Nat) : Int) = (getB bs (k + 2) 5 : Nat) := wrap_i64_nat (by omega)
      refine AW.go ?_ (by simp only [go_sem, ↓reduceIte, w1] <;> rfl)
      refine AW.callE (fun _ => 23) (rget_fn (bs.drop (k + 7)) 0 6 (by omega) (hbd (k + 7))) (.ptr rfl (.pv _ .nil)) ?_
      by_cases h6 : k + 13 ≤ bs.length
      · simp only [if_pos (show 6 ≤ (bs.drop (k + 7)).length by rw [hdl]; omega), getB_drop, List.drop_drop]
        have b6 := getB_lt hub (k + 7) 6
        have hs : gNx bs k a z = gNy bs (k + 13) (getB bs (k + 2) 5 : Nat) (63 - (getB bs (k + 2) 5 : Nat) - (getB bs (k + 7) 6 : Nat)) := by rw [gNx, if_neg (by omega), if_neg g2', if_neg (by omega), if_pos g4.symm, if_neg (by omega), if_neg (by omega)]
        generalize getB bs (k + 2) 5 = u at *
        generalize getB bs (k + 7) 6 = v at *
        have w2 : IntKind.i64.wrap (v : Int) = v := wrap_i64_nat (by omega)
        have w3 : IntKind.i64.wrap (IntKind.i64.wrap (63 - (u : Int)) - (v : Int)) = 63 - (u : Int) - (v : Int) := by rw [wrap_i64_of (n := 63 - (u : Int)) (by omega) (by omega), wrap_i64_of (by omega) (by omega)]
        refine AW.go ?_ (by simp only [go_sem, ↓reduceIte, w2, w3] <;> rfl)
        exact AW.meet hK2 ⟨0, [], bs.drop (k + 13), 0, u, 63 - (u : Int) - (v : Int)⟩ (.inl ⟨rfl, k + 13, 63 - (u : Int) - (v : Int), by unfold wRd; simp only; omega, h6, hs, rfl, by rw [zr_pos (by simp)]⟩)
      · simp only [if_neg (show ¬ 6 ≤ (bs.drop (k + 7)).length by rw [hdl]; omega)]
        have hs : gNx bs k a z = ⟨0, 2, k + 7, a, z⟩ := by rw [gNx, if_neg (by omega), if_neg g2', if_neg (by omega), if_pos g4.symm, if_neg (by omega), if_pos (by omega)]
        generalize getB bs (k + 2) 5 = u at *
        have w3 : IntKind.i64.wrap (IntKind.i64.wrap (63 - (u : Int))) = 63 - (u : Int) := by rw [wrap_i64_of (n := 63 - (u : Int)) (by omega) (by omega), wrap_i64_of (by omega) (by omega)]
        have w0 : IntKind.i64.wrap ((0 : Nat) : Int) = 0 := by decide
        refine AW.go ?_ (by simp only [go_sem, ↓reduceIte, w0, w3] <;> rfl)
        exact AW.meet hK2 ⟨0, [], bs.drop (k + 7), 2, u, 63 - (u : Int)⟩ (.inr ⟨by simp, by rw [hs]⟩)
    · simp only [if_neg (show ¬ 5 ≤ (bs.drop (k + 2)).length by rw [hdl]; omega)]
      have w0 : IntKind.i64.wrap ((0 : Nat) : Int) = 0 := by decide
      have hs : gNx bs k a z = ⟨0, 2, k + 2, a, z⟩ := by rw [gNx, if_neg (by omega), if_neg g2', if_neg (by omega), if_pos g4.symm, if_pos (by omega)]
      refine AW.go ?_ (by simp only [go_sem, ↓reduceIte, w0] <;> rfl)
      refine AW.callE (fun _ => 23) (rget_fn (bs.drop (k + 2)) 2 6 (by omega) (hbd (k + 2))) (.ptr rfl (.pv _ .nil)) ?_
      simp only [if_neg (show ¬ 6 ≤ (bs.drop (k + 2)).length by rw [hdl]; omega)]
      have w3 : IntKind.i64.wrap (IntKind.i64.wrap (63 - 0) - 0) = 63 := by decide
      refine AW.go ?_ (by simp only [go_sem, ↓reduceIte, w0, w3] <;> rfl)
      exact AW.meet hK2 ⟨0, [], bs.drop (k + 2), 2, 0, 63⟩ (.inr ⟨by simp, by rw [hs]⟩)
  clear hv hv2
  rintro ⟨x, o', rest, bad, a', z1⟩ hq
  simp only at hq
  rcases hq with ⟨rfl, k', z', hw, hk', hs, rfl, rfl⟩ | ⟨hb0, he⟩
  · have hneg := zr_neg hw
    rw [gNy] at hs
    by_cases ha : a' < 0
    · rw [if_pos (hneg.2 (.inl ha))] at hs
      have d1 : decide (a' < 0) = true := decide_eq_true ha
      refine AW.gg ?_ (by simp only [go_sem, ↓reduceIte, d1] <;> rfl)
      refine AW.condT rfl ?_
      refine AW.go ?_
      refine AW.condF rfl ?_
      refine AW.go ?_
      exact AW.meet hK' ⟨0, [], bs.drop k', 3, a', zr a' z'⟩ ⟨by simp, by rw [hs], fun h => by simp at h⟩
    have d1 : decide (a' < 0) = false := decide_eq_false ha
    by_cases hz : zr a' z' < 0
    · rw [if_pos (hneg.2 (.inr hz))] at hs
      have d2 : decide (zr a' z' < 0) = true := decide_eq_true hz
      refine AW.gg ?_ (by simp only [go_sem, ↓reduceIte, d1, d2] <;> rfl)
      refine AW.condT rfl ?_
      refine AW.go ?_
      refine AW.condF rfl ?_
      refine AW.go ?_
      exact AW.meet hK' ⟨0, [], bs.drop k', 3, a', zr a' z'⟩ ⟨by simp, by rw [hs], fun h => by simp at h⟩
    rw [if_neg (fun h => (hneg.1 h).elim ha hz)] at hs
    rw [zr_pos (by omega)] at hz ⊢
    have d2 : decide (z' < 0) = false := decide_eq_false hz
    unfold wRd at hw
    obtain ⟨u, rfl⟩ : ∃ u : Nat, a' = u := ⟨a'.toNat, by omega⟩
    obtain ⟨t, rfl⟩ : ∃ t : Nat, z' = t := ⟨z'.toNat, by omega⟩
    have eR : (64 - (u : Int) - (t : Int)).toNat = 64 - u - t := by omega
    rw [eR, Int.toNat_natCast] at hs
    refine AW.gg ?_ (by simp only [go_sem, ↓reduceIte, d1, d2] <;> rfl)
    refine AW.condF rfl ?_
    refine AW.go ?_
    refine AW.condT rfl ?_
    have w3 : IntKind.i64.wrap (IntKind.i64.wrap (64 - (u : Int)) - (t : Int)) = ((64 - u - t : Nat) : Int) := by rw [wrap_i64_of (n := 64 - (u : Int)) (by omega) (by omega), wrap_i64_of (by omega) (by omega)]; omega
    refine AW.go ?_ (by simp only [go_sem, ↓reduceIte, w3] <;> rfl)
    refine AW.callE (fun _ => 23) (rget_fn (bs.drop k') 0 (64 - u - t) (by omega) (hbd k')) (.ptr rfl (.pv _ .nil)) ?_
    have wu : IntKind.u64.wrap (t : Int) = t := wrap_u64_lt (by omega)
    by_cases h7 : k' + (64 - u - t) ≤ bs.length
    · rw [if_pos h7] at hs
      simp only [if_pos (show 64 - u - t ≤ (bs.drop k').length by rw [hdl]; omega), getB_drop, List.drop_drop]
      generalize getB bs k' (64 - u - t) = y at *
      have e7 := shlI_nat64 y t (by omega)
      refine AW.go ?_ (by simp only [go_sem, ↓reduceIte, wu, e7] <;> rfl)
      exact AW.meet hK' ⟨y * 2 ^ t % 2 ^ 64, [], bs.drop (k' + (64 - u - t)), 0, u, t⟩ ⟨Nat.mod_lt _ (by omega), by rw [hs], fun _ => by rw [hs]; exact ⟨rfl, rfl, rfl, by rw [zr_pos (by simp)]⟩⟩
    · rw [if_neg h7] at hs
      simp only [if_neg (show ¬ 64 - u - t ≤ (bs.drop k').length by rw [hdl]; omega)]
      have e7 : shlI .u64 ((0 : Nat) : Int) (t : Int) = ((0 : Nat) : Int) := by have := shlI_nat64 0 t (by omega); simpa using this
      refine AW.go ?_ (by simp only [go_sem, ↓reduceIte, wu, e7] <;> rfl)
      exact AW.meet hK' ⟨0, [], bs.drop k', 2, u, t⟩ ⟨by simp, by rw [hs], fun h => by simp at h⟩
  · have e0 : (bad == 0) = false := by simpa using hb0
    refine AW.gg ?_ (by simp only [go_sem, ↓reduceIte, e0] <;> rfl)
    refine AG.start 8 66 false ?_ ?_ ⟨_, rfl, rfl⟩
    · refine AG.want rfl rfl (AG.step (hg := rfl) rfl (by decide) (by simp only [go_sem, ↓reduceIte] <;> rfl) ?_)
      refine AG.want rfl rfl (AG.step (hg := rfl) rfl (by decide) (by simp only [go_sem, ↓reduceIte] <;> rfl) ?_)
      refine AG.forget ?_
      refine AW.gg ?_
      refine AW.condF rfl ?_
      refine AW.go ?_ (by simp only [go_sem, ↓reduceIte, e0] <;> rfl)
      refine AW.condF rfl ?_
      refine AW.go ?_
      exact AW.meet hK' ⟨0, [], rest, bad, a', z1⟩ ⟨by simp, he, fun h => absurd h hb0⟩
    · intro v hv
      refine AG.skip rfl rfl (by decide) hv ?_
      refine AG.skip rfl rfl (by decide) hv ?_
      refine AG.forget ?_
      refine AW.gg ?_
      refine AW.condF rfl ?_
      refine AW.go ?_ (by simp only [go_sem, ↓reduceIte, e0] <;> rfl)
      refine AW.condF rfl ?_
      refine AW.go ?_
      exact AW.meet hK' ⟨0, [], rest, bad, a', z1⟩ ⟨by simp, he, fun h => absurd h hb0⟩
end Go.Ck

set_option linter.unusedVariables false
set_option maxRecDepth 10000
set_option maxHeartbeats 1000000
namespace Go.Ck
open Go.Proofs

theorem dic_one (l : List Nat) : dic l 1 = [beN (l.take 8)] := rfl
theorem vread_fn (l : List Nat) (n t : Nat) (ht : t < 4) (hn : n ≤ 65536) (hl : l.length ≤ 2 ^ 40) (hb : ∀ x ∈ l, x < 256) : Fn Tryd.prog 38 (curO l) [.ptr 1000 0, .pv (.int .i64 n), .pv (.int .i64 t)]
    (fun rs H' => rs = [.own 38 (u64s (vR l n t).1), .pv (.int .i64 (vR l n t).2.1)] ∧ H' = curO (vR l n t).2.2) := by
  refine Fn.of_body (fn := Tryd.f38) (n := 61) (res := [.tmp 6, .tmp 7]) (by kernel_rfl) rfl rfl rfl rfl rfl (fun C => ?_)
  have hr : room = 140737488355328 := rfl
  have hfx : ∀ m : Nat, m ≤ 65536 → Fn Tryd.prog 74 (curO l) [.ptr 1000 0, .pv (.int .i64 m)] (fun rs H' => rs = [.own 38 (u64s (fx l m).1), .pv (.int .i64 (fx l m).2.1)] ∧ H' = curO (fx l m).2.2) := by
    intro m hm
    refine (fixed_fn l m hm hl hb).mono (fun rs H' h => ?_)
    unfold fx
    by_cases h8 : 8 * m ≤ l.length
    · simp only [if_pos h8] at h ⊢; exact h
    · simp only [if_neg h8] at h ⊢; exact h
  have hc : t = 0 ∨ t = 1 ∨ t = 2 ∨ t = 3 := by omega
  rcases hc with rfl | rfl | rfl | rfl
  · have hs : vR l n 0 = fx l n := by simp [vR]
    rw [hs]
    refine AW.go ?_
    refine AW.condT rfl ?_
    refine AW.go ?_
    refine AW.callE id (hfx n hn) (.ptr rfl (.pv _ .nil)) ?_
    refine AW.go ?_
    refine AW.finE (.move rfl (.pv _ .nil)) rfl
  · have hs : vR l n 1 = if (fx l 1).2.1 ≠ 0 then ([], (fx l 1).2.1, (fx l 1).2.2) else (List.replicate n (beN (l.take 8)), 0, (fx l 1).2.2) := by simp [vR]
    rw [hs]
    refine AW.go ?_
    refine AW.condF rfl ?_
    refine AW.go ?_
    refine AW.condT rfl ?_
    refine AW.go ?_
    refine AW.callE id (hfx 1 (by omega)) (.ptr rfl (.pv _ .nil)) ?_
    refine AW.go ?_
    refine AW.cond rfl (fun hc => ?_) (fun hc => ?_)
    · have he : (fx l 1).2.1 ≠ 0 := by simpa using hc
      simp only [if_pos he]
      refine AW.go ?_
      refine AW.finE (.move rfl (.pv _ .nil)) rfl
    have he : ¬ (fx l 1).2.1 ≠ 0 := by simpa using hc
    have h1 : (fx l 1).1 = [beN (l.take 8)] := by
      have := fx_err l 1
      unfold fx at he ⊢
      split
      · exact dic_one l
      · rename_i h; rw [if_neg h] at he; simp at he
    simp only [if_neg he, h1]
    generalize beN (l.take 8) = v at *
    refine AW.go ?_
    refine AW.loopS (fun i : Nat => ⟨61, [(32, .pv (.int .i64 i)), (31, .pv (.int .i64 n)), (10, .own 38 (u64s (List.replicate i v))), (8, .own 38 (u64s [v])), (0, .ptr 1000 0)], curO (fx l 1).2.2⟩) (fun i => i ≤ n) (fun i => n - i) [32, 31, 10, 8, 0] [1000] 0 (Nat.zero_le _) ?_
    rintro i hi K hK
    refine AW.go ?_
    refine AW.cond rfl (fun hc => ?_) (fun hc => ?_)
    · have hlt : i < n := by simpa using hc
      have k1 : (i + 1) * 8 ≤ room := by omega
      have k2 : i + 1 ≤ room := by omega
      have ei : IntKind.i64.wrap ((i : Int) + 1) = ((i + 1 : Nat) : Int) := wrap_i64_succ (by omega)
      have er : List.replicate i v ++ [v] = List.replicate (i + 1) v := List.replicate_append_replicate (n := i) (m := 1)
      refine AW.go ?_ (by simp only [go_sem, ↓reduceIte, List.length_replicate, List.length_singleton, u64s_one, k1, k2, ei, er] <;> rfl)
      refine AW.again hK (i + 1) hlt (by omega)
    · have hge : i = n := by simp at hc; omega
      subst hge
      refine AW.go ?_
      refine AW.finE (.move rfl (.pv _ .nil)) rfl
  · have hs : vR l n 2 = ((dec10 l n).1, (dec10 l n).2, []) := by simp [vR]
    rw [hs]
    refine AW.go ?_
    refine AW.condF rfl ?_
    refine AW.go ?_
    refine AW.condF rfl ?_
    refine AW.go ?_
    refine AW.callE id (curLeft_fn l) (.ptr rfl .nil) ?_
    refine AW.go ?_
    refine AW.callE id (curBytes_fn l l.length (by omega)) (.ptr rfl (.pv _ .nil)) ?_
    simp only [if_pos (Nat.le_refl _), List.take_length, List.drop_length]
    refine AW.go ?_
    refine AW.condT rfl ?_
    refine AW.go ?_
    refine AW.callE (fun _ => 0) (dictDec_fn l n hn hl hb) (.lend rfl co_5 (.pv _ .nil)) ?_
    refine AW.go ?_
    refine AW.finE (.move rfl (.pv _ .nil)) rfl
  · have hs : vR l n 3 = ((dec09 l n).1, (dec09 l n).2, []) := by simp [vR]
    rw [hs]
    refine AW.go ?_
    refine AW.condF rfl ?_
    refine AW.go ?_
    refine AW.condF rfl ?_
    refine AW.go ?_
    refine AW.callE id (curLeft_fn l) (.ptr rfl .nil) ?_
    refine AW.go ?_
    refine AW.callE id (curBytes_fn l l.length (by omega)) (.ptr rfl (.pv _ .nil)) ?_
    simp only [if_pos (Nat.le_refl _), List.take_length, List.drop_length]
    refine AW.go ?_
    refine AW.condF rfl ?_
    refine AW.go ?_
    refine AW.callE (fun _ => 0) (gorDec_fn l n hn hl hb) (.lend rfl co_5 (.pv _ .nil)) ?_
    refine AW.go ?_
    refine AW.finE (.move rfl (.pv _ .nil)) rfl

theorem vdec_fn (l : List Nat) (n : Int) (hl : l.length ≤ 2 ^ 40) (hb : ∀ x ∈ l, x < 256) : Fn Tryd.prog 20 [] [.pv (.sl 1 (bytes l)), .pv (.int .i64 n)]
    (fun rs H' => rs = [.own 38 (u64s (dec11 l n).1), .pv (.int .i64 (dec11 l n).2)] ∧ H' = []) := by
  refine Fn.of_body (fn := Tryd.f20) (n := 53) (res := [.tmp 4, .tmp 5]) (by kernel_rfl) rfl rfl rfl rfl rfl (fun C => ?_)
  have hr : room = 140737488355328 := rfl
  by_cases hn : n < 0 ∨ 65536 < n
  · rw [dec11_arg hn]
    by_cases h0 : n < 0
    · have d1 : decide (n < 0) = true := decide_eq_true h0
      refine AW.gg ?_ (by simp only [go_sem, ↓reduceIte, d1] <;> rfl)
      refine AW.condT rfl ?_
      refine AW.go ?_
      refine AW.finE (.move rfl (.pv _ .nil)) rfl
    · have d1 : decide (n < 0) = false := decide_eq_false h0
      have d2 : decide (n > 65536) = true := decide_eq_true (by omega)
      refine AW.gg ?_ (by simp only [go_sem, ↓reduceIte, d1, d2] <;> rfl)
      refine AW.condT rfl ?_
      refine AW.go ?_
      refine AW.finE (.move rfl (.pv _ .nil)) rfl
  have d1 : decide (n < 0) = false := decide_eq_false (by omega)
  have d2 : decide (n > 65536) = false := decide_eq_false (by omega)
  refine AW.gg ?_ (by simp only [go_sem, ↓reduceIte, d1, d2] <;> rfl)
  refine AW.condF rfl ?_
  obtain ⟨n, rfl⟩ : ∃ m : Nat, n = m := ⟨n.toNat, by omega⟩
  refine AW.go ?_
  refine AW.callE (fun o => if o = 7 then 19 else 0) (curNew_fn l (by omega)) (.pv _ .nil) ?_
  refine AW.go ?_
  refine AW.callE (fun _ => 19) (curByte_fn l (by omega)) (.ptr rfl .nil) ?_
  by_cases hnil : l = []
  · subst hnil
    rw [dec11_nil hn]
    simp only [if_true]
    refine AW.go ?_
    refine AW.condT rfl ?_
    refine AW.go ?_
    refine AW.finE (.move rfl (.pv _ .nil)) rfl
  simp only [if_neg hnil]
  obtain ⟨t, r, rfl⟩ : ∃ t r, l = t :: r := by cases l with | nil => exact absurd rfl hnil | cons t r => exact ⟨t, r, rfl⟩
  rw [dec11_cons t r hn]
  simp only [List.headD_cons, List.tail_cons]
  have ht : t < 256 := hb t (by simp)
  have hbr : ∀ x ∈ r, x < 256 := fun x hx => hb x (by simp [hx])
  refine AW.go ?_
  refine AW.condF rfl ?_
  refine AW.go ?_
  refine AW.cond rfl (fun hc => ?_) (fun hc => ?_)
  · have h4 : 4 ≤ t := by simp at hc; omega
    simp only [if_pos h4]
    refine AW.go ?_
    refine AW.finE (.move rfl (.pv _ .nil)) rfl
  have h4 : ¬ 4 ≤ t := by simp at hc; omega
  simp only [if_neg h4]
  have et : IntKind.i64.wrap (t : Int) = t := wrap_i64_nat (by omega)
  have hlr : r.length ≤ 2 ^ 40 := by simp at hl; omega
  refine AW.go ?_ (by simp only [go_sem, ↓reduceIte, et] <;> rfl)
  refine AW.callE (fun _ => 19) (vread_fn r n t (by omega) (by omega) hlr hbr) (.ptr rfl (.pv _ (.pv _ .nil))) ?_
  obtain ⟨he, hx⟩ := @vR_rd r n t (by omega)
  have hlt := rd11_lt hbr n t
  generalize vR r n t = v at *
  generalize rd11 r n t = q at *
  obtain ⟨xs, e, rest⟩ := v
  obtain ⟨ys, e'⟩ := q
  simp only at he hx hlt ⊢
  subst he
  refine AW.go ?_
  refine AW.cond rfl (fun hc2 => ?_) (fun hc2 => ?_)
  · have hne : e ≠ 0 := by simpa using hc2
    simp only [if_pos hne]
    refine AW.go ?_
    refine AW.finE (.move rfl (.pv _ .nil)) rfl
  have hne : ¬ e ≠ 0 := by simpa using hc2
  simp only [if_neg hne]
  have hxy := hx (by simpa using hne)
  subst hxy
  refine AW.go ?_
  refine AW.callE (fun _ => 0) (encV_fn xs hlt) (.lend rfl co_38 .nil) ?_
  refine AW.go ?_
  refine AW.callE (fun _ => 0) (bytesEqual_fn (encV xs).1 (t :: r) (encV_byte _) hb) (.lend rfl co_5 (.pv _ .nil)) ?_
  refine AW.go ?_
  refine AW.cond rfl (fun hc2 => ?_) (fun hc2 => ?_)
  · have hne : ¬ (encV xs).1 = t :: r := by simpa using hc2
    simp only [if_neg hne]
    refine AW.go ?_
    refine AW.finE (.move rfl (.pv _ .nil)) rfl
  · have hne : (encV xs).1 = t :: r := by simpa using hc2
    simp only [if_pos hne]
    refine AW.go ?_
    refine AW.finE (.move rfl (.pv _ .nil)) rfl
end Go.Ck

set_option linter.unusedVariables false
set_option maxRecDepth 10000
set_option maxHeartbeats 1000000
namespace Go.Ck
open Go.Proofs

theorem refread_fn (l : List Nat) (n t : Nat) (ht : t < 4) (hn : n ≤ 65536) (hl : l.length ≤ 2 ^ 40) (hb : ∀ x ∈ l, x < 256) : Fn Tryd.prog 40 [] [.pv (.sl 1 (bytes l)), .pv (.int .i64 n), .pv (.int .i64 t)]
    (fun rs H' => rs = [.pv (.sl 1 (u64s (rd11 l n t).1)), .pv (.int .i64 (rd11 l n t).2)] ∧ H' = []) := by
  refine Fn.of_body (fn := Tryd.f40) (n := 73) (res := [.tmp 6, .tmp 7]) (by kernel_rfl) rfl rfl rfl rfl rfl (fun C => ?_)
  have hr : room = 140737488355328 := rfl
  have hc : t = 2 ∨ t = 3 ∨ t < 2 := by omega
  rcases hc with rfl | rfl | ht2
  · have hs : rd11 l n 2 = dec10 l n := by simp [rd11]
    rw [hs]
    refine AW.go ?_
    refine AW.condT rfl ?_
    refine AW.go ?_
    refine AW.callE (fun _ => 0) (ref10Dec_fn l n hn hl hb) (.pv _ (.pv _ .nil)) ?_
    refine AW.go ?_
    refine AW.freeze (p := .slot 6) (by simp only [go_sem, ↓reduceIte, freeze, freezeO] <;> rfl) ?_
    refine AW.finE (.pv _ (.pv _ .nil)) rfl
  · have hs : rd11 l n 3 = dec09 l n := by simp [rd11]
    rw [hs]
    refine AW.go ?_
    refine AW.condF rfl ?_
    refine AW.go ?_
    refine AW.condT rfl ?_
    refine AW.go ?_
    refine AW.callE (fun _ => 0) (ref09Dec_fn l n hn hl hb) (.pv _ (.pv _ .nil)) ?_
    refine AW.go ?_
    refine AW.freeze (p := .slot 6) (by simp only [go_sem, ↓reduceIte, freeze, freezeO] <;> rfl) ?_
    refine AW.finE (.pv _ (.pv _ .nil)) rfl
  have c2 : ((t : Int) == 2) = false := by simp; omega
  have c3 : ((t : Int) == 3) = false := by simp; omega
  refine AW.go ?_ (by simp only [go_sem, ↓reduceIte, c2] <;> rfl)
  refine AW.condF rfl ?_
  refine AW.go ?_ (by simp only [go_sem, ↓reduceIte, c3] <;> rfl)
  refine AW.condF rfl ?_
  refine AW.go ?_
  obtain ⟨kk, hkk⟩ : ∃ kk, kk = if t = 1 then 1 else n := ⟨_, rfl⟩
  have hs : rd11 l n t = if l.length < 8 * kk then ([], 2) else if l.length ≠ 8 * kk then ([], 3) else (if t = 1 then List.replicate n (beN (l.take 8)) else dic l n, 0) := by
    rw [rd11, if_neg (by omega), if_neg (by omega), ← hkk]
  have hk6 : kk ≤ 65536 := by split at hkk <;> omega
  refine AW.joinS (fun _ : Unit => ⟨73, [(8, .pv (.int .i64 kk)), (0, .pv (.sl 1 (bytes l))), (1, .pv (.int .i64 n)), (2, .pv (.int .i64 t))], []⟩) (fun _ => True) [8, 0, 1, 2] [] ?_ ?_
  · intro K hK
    refine AW.cond rfl (fun hc => ?_) (fun hc => ?_)
    · have h1 : t = 1 := by simp at hc; omega
      rw [if_pos h1] at hkk
      subst hkk
      refine AW.go ?_
      exact AW.meet hK () trivial
    · have h1 : ¬ t = 1 := by simp at hc; omega
      rw [if_neg h1] at hkk
      subst hkk
      refine AW.go ?_
      exact AW.meet hK () trivial
  rintro _ -
  refine AW.go ?_
  refine AW.loopS (fun i : Nat => ⟨73, [(10, .pv (.int .i64 i)), (8, .pv (.int .i64 kk)), (9, .own 38 (u64s (dic l i))), (0, .pv (.sl 1 (bytes (l.drop (8 * i))))), (1, .pv (.int .i64 n)), (2, .pv (.int .i64 t))], []⟩) (fun i => i ≤ kk ∧ 8 * i ≤ l.length) (fun i => kk - i) [10, 8, 9, 0, 1, 2] [] 0 ⟨Nat.zero_le _, by omega⟩ ?_
  rintro i ⟨hi, hi2⟩ K hK
  refine AW.go ?_
  refine AW.cond rfl (fun hc => ?_) (fun hc => ?_)
  · have hlt : i < kk := by simpa using hc
    have hbd : ∀ x ∈ l.drop (8 * i), x < 256 := fun x hx => hb x (List.mem_of_mem_drop hx)
    have hdl : (l.drop (8 * i)).length = l.length - 8 * i := by simp
    refine AW.go ?_
    refine AW.callE (fun _ => 0) (refFixed_fn (l.drop (8 * i)) 8 (by omega) (by omega) hbd) (.pv _ (.pv _ .nil)) ?_
    by_cases h8 : 8 ≤ (l.drop (8 * i)).length
    · simp only [if_pos h8]
      have hdr : (l.drop (8 * i)).drop 8 = l.drop (8 * (i + 1)) := by rw [List.drop_drop]; congr 1
      have h1 : (i + 1) * 8 ≤ room := by omega
      have h2 : i + 1 ≤ room := by omega
      have ei : IntKind.i64.wrap ((i : Int) + 1) = ((i + 1 : Nat) : Int) := wrap_i64_succ (by omega)
      rw [hdr]
      refine AW.go ?_
      refine AW.condF rfl ?_
      refine AW.go ?_ (by simp only [go_sem, ↓reduceIte, dic_len, u64s_one, h1, h2, ei, ← dic_succ] <;> rfl)
      refine AW.again hK (i + 1) ⟨hlt, by omega⟩ (by omega)
    · simp only [if_neg h8]
      rw [hs, if_pos (by omega)]
      refine AW.go ?_
      refine AW.condT rfl ?_
      refine AW.go ?_
      refine AW.freeze (p := .slot 6) (by simp only [go_sem, ↓reduceIte, freeze, freezeO] <;> rfl) ?_
      refine AW.finE (.pv _ (.pv _ .nil)) rfl
  have hge : i = kk := by simp at hc; omega
  rw [hge] at hi2 ⊢
  clear hge
  have hle := hi2
  clear hK
  rw [if_neg (by omega)] at hs
  refine AW.go ?_
  refine AW.cond rfl (fun hc => ?_) (fun hc => ?_)
  · have hne : l.length ≠ 8 * kk := by simp at hc; omega
    rw [hs, if_pos hne]
    refine AW.go ?_
    refine AW.freeze (p := .slot 6) (by simp only [go_sem, ↓reduceIte, freeze, freezeO] <;> rfl) ?_
    refine AW.finE (.pv _ (.pv _ .nil)) rfl
  have hne : ¬ l.length ≠ 8 * kk := by simp at hc; omega
  rw [hs, if_neg hne]
  refine AW.go ?_
  have hc : t = 0 ∨ t = 1 := by omega
  rcases hc with rfl | rfl
  · rw [if_neg (by omega)] at hkk
    subst hkk
    simp only [Nat.zero_ne_one, if_false]
    refine AW.loopS (fun _ : Unit => ⟨73, [(14, .pv (.int .i64 1)), (9, .own 38 (u64s (dic l kk))), (1, .pv (.int .i64 kk)), (2, .pv (.int .i64 0))], []⟩) (fun _ => True) (fun _ => 0) [14, 9, 1, 2] [] () trivial ?_
    rintro _ - K hK
    by_cases hlt : 1 < kk
    · have d1 : decide (1 < (kk : Int)) = true := decide_eq_true (by omega)
      refine AW.gg ?_ (by simp only [go_sem, ↓reduceIte, d1] <;> rfl)
      refine AW.condF rfl ?_
      refine AW.freeze (p := .slot 9) (by simp only [go_sem, ↓reduceIte, freeze, freezeO] <;> rfl) ?_
      have hle : kk ≤ (dic l kk).length := by rw [dic_len]; omega
      have htk : (dic l kk).take kk = dic l kk := List.take_of_length_le (by rw [dic_len]; omega)
      refine AW.go ?_ (by simp only [go_sem, ↓reduceIte, dic_len, Nat.le_refl, htk, Int.sub_zero, List.drop_zero] <;> rfl)
      refine AW.finE (.pv _ (.pv _ .nil)) rfl
    · have d1 : decide (1 < (kk : Int)) = false := decide_eq_false (by omega)
      refine AW.gg ?_ (by simp only [go_sem, ↓reduceIte, d1] <;> rfl)
      refine AW.condF rfl ?_
      refine AW.freeze (p := .slot 9) (by simp only [go_sem, ↓reduceIte, freeze, freezeO] <;> rfl) ?_
      have hle : kk ≤ (dic l kk).length := by rw [dic_len]; omega
      have htk : (dic l kk).take kk = dic l kk := List.take_of_length_le (by rw [dic_len]; omega)
      refine AW.go ?_ (by simp only [go_sem, ↓reduceIte, dic_len, Nat.le_refl, htk, Int.sub_zero, List.drop_zero] <;> rfl)
      refine AW.finE (.pv _ (.pv _ .nil)) rfl
  · rw [if_pos rfl] at hkk
    subst hkk
    simp only [if_true, dic_one]
    generalize beN (l.take 8) = v at *
    refine AW.loopS (fun j : Nat => ⟨73, [(14, .pv (.int .i64 j)), (9, .own 38 (u64s (List.replicate j v))), (1, .pv (.int .i64 n)), (2, .pv (.int .i64 1))], []⟩) (fun j => 1 ≤ j ∧ (j = 1 ∨ j ≤ n)) (fun j => n - j) [14, 9, 1, 2] [] 1 ⟨Nat.le_refl _, .inl rfl⟩ ?_
    rintro j ⟨hj, hj2⟩ K hK
    by_cases hlt : j < n
    · have d1 : decide (j < n) = true := decide_eq_true hlt
      have hj0 : 0 < j := by omega
      have k1 : (j + 1) * 8 ≤ room := by omega
      have k2 : j + 1 ≤ room := by omega
      have ei : IntKind.i64.wrap ((j : Int) + 1) = ((j + 1 : Nat) : Int) := wrap_i64_succ (by omega)
      have er : List.replicate j v ++ [v] = List.replicate (j + 1) v := List.replicate_append_replicate (n := j) (m := 1)
      have hget : (u64s (List.replicate j v))[0]? = some (.int .u64 (v : Nat)) := by rw [u64s_get (by simp; omega)]; simp
      refine AW.gg ?_ (by simp only [go_sem, ↓reduceIte, d1] <;> rfl)
      refine AW.condT rfl ?_
      refine AW.go ?_ (by simp only [go_sem, ↓reduceIte, List.length_replicate, hj0, hget, u64s_one, k1, k2, ei, er] <;> rfl)
      refine AW.again hK (j + 1) ⟨by omega, .inr hlt⟩ (by omega)
    · have d1 : decide (j < n) = false := decide_eq_false hlt
      refine AW.gg ?_ (by simp only [go_sem, ↓reduceIte, d1] <;> rfl)
      refine AW.condF rfl ?_
      refine AW.freeze (p := .slot 9) (by simp only [go_sem, ↓reduceIte, freeze, freezeO] <;> rfl) ?_
      have hle : n ≤ j := by omega
      have htk : (List.replicate j v).take n = List.replicate n v := by rw [List.take_replicate, Nat.min_eq_left hle]
      refine AW.go ?_ (by simp only [go_sem, ↓reduceIte, List.length_replicate, hle, htk, Int.sub_zero, List.drop_zero] <;> rfl)
      refine AW.finE (.pv _ (.pv _ .nil)) rfl

theorem refdec_fn (l : List Nat) (n : Int) (hl : l.length ≤ 2 ^ 40) (hb : ∀ x ∈ l, x < 256) : Fn Tryd.prog 21 [] [.pv (.sl 1 (bytes l)), .pv (.int .i64 n)]
    (fun rs H' => rs = [.pv (.sl 1 (u64s (dec11 l n).1)), .pv (.int .i64 (dec11 l n).2)] ∧ H' = []) := by
  refine Fn.of_body (fn := Tryd.f21) (n := 47) (res := [.tmp 4, .tmp 5]) (by kernel_rfl) rfl rfl rfl rfl rfl (fun C => ?_)
  have hr : room = 140737488355328 := rfl
  by_cases hn : n < 0 ∨ 65536 < n
  · rw [dec11_arg hn]
    by_cases h0 : n < 0
    · have d1 : decide (n < 0) = true := decide_eq_true h0
      refine AW.gg ?_ (by simp only [go_sem, ↓reduceIte, d1] <;> rfl)
      refine AW.condT rfl ?_
      refine AW.go ?_
      refine AW.freeze (p := .slot 4) (by simp only [go_sem, ↓reduceIte, freeze, freezeO] <;> rfl) ?_
      refine AW.finE (.pv _ (.pv _ .nil)) rfl
    · have d1 : decide (n < 0) = false := decide_eq_false h0
      have d2 : decide (n > 65536) = true := decide_eq_true (by omega)
      refine AW.gg ?_ (by simp only [go_sem, ↓reduceIte, d1, d2] <;> rfl)
      refine AW.condT rfl ?_
      refine AW.go ?_
      refine AW.freeze (p := .slot 4) (by simp only [go_sem, ↓reduceIte, freeze, freezeO] <;> rfl) ?_
      refine AW.finE (.pv _ (.pv _ .nil)) rfl
  have d1 : decide (n < 0) = false := decide_eq_false (by omega)
  have d2 : decide (n > 65536) = false := decide_eq_false (by omega)
  refine AW.gg ?_ (by simp only [go_sem, ↓reduceIte, d1, d2] <;> rfl)
  refine AW.condF rfl ?_
  obtain ⟨n, rfl⟩ : ∃ m : Nat, n = m := ⟨n.toNat, by omega⟩
  refine AW.go ?_
  refine AW.cond rfl (fun hc => ?_) (fun hc => ?_)
  · have hnil : l = [] := by simpa using hc
    subst hnil
    rw [dec11_nil hn]
    refine AW.go ?_
    refine AW.freeze (p := .slot 4) (by simp only [go_sem, ↓reduceIte, freeze, freezeO] <;> rfl) ?_
    refine AW.finE (.pv _ (.pv _ .nil)) rfl
  have hnil : l ≠ [] := by simpa using hc
  obtain ⟨t, r, rfl⟩ : ∃ t r, l = t :: r := by cases l with | nil => exact absurd rfl hnil | cons t r => exact ⟨t, r, rfl⟩
  rw [dec11_cons t r hn]
  have ht : t < 256 := hb t (by simp)
  have hbr : ∀ x ∈ r, x < 256 := fun x hx => hb x (by simp [hx])
  refine AW.go ?_
  refine AW.cond rfl (fun hc => ?_) (fun hc => ?_)
  · have h4 : 4 ≤ t := by simp at hc; omega
    simp only [if_pos h4]
    refine AW.go ?_
    refine AW.freeze (p := .slot 4) (by simp only [go_sem, ↓reduceIte, freeze, freezeO] <;> rfl) ?_
    refine AW.finE (.pv _ (.pv _ .nil)) rfl
  have h4 : ¬ 4 ≤ t := by simp at hc; omega
  simp only [if_neg h4]
  have et : IntKind.i64.wrap (t : Int) = t := wrap_i64_nat (by omega)
  have hlr : r.length ≤ 2 ^ 40 := by simp at hl; omega
  have hsl : (bytes (List.drop 1 (t :: r))).take (((r.length + 1 : Nat) : Int) - 1).toNat = bytes r := by
    rw [bytes_take]; congr 1; simp
  refine AW.go ?_
  have e1 : ((1 : Int) ≤ ((r.length + 1 : Nat) : Int)) = True := by simp; omega
  have e2 : (((r.length + 1 : Nat) : Int) - 1).toNat = r.length := by omega
  refine AW.any0 mixed ?_
  refine AW.takes (fuel := 8) [0, 2, 3, 1, 4] ?_ (by simp only [go_sem, ↓reduceIte, List.length_cons, e1, e2, List.drop_succ_cons, List.drop_zero, List.take_length] <;> rfl) Ends.noPanic (listed' := #[true, true, true, true, true, false, false, false, false, false, false, false, false]) (by decide +kernel) (by decide +kernel)
  refine AW.seqs (fuel := 4) (listed' := #[true, true, true, true, true, true, true, true, true, false, false, false, false]) [5, 6, 7, 8] ?_ (by decide +kernel)
  refine AW.gg ?_ (by simp only [go_sem, ↓reduceIte, et] <;> rfl)
  refine AW.callE (fun _ => 0) (refread_fn r n t (by omega) (by omega) hlr hbr) (.pv _ (.pv _ (.pv _ .nil))) ?_
  refine AW.gg ?_
  refine AW.takes (fuel := 0) [9, 10, 11, 12] ?_ (by simp only [go_sem, ↓reduceIte] <;> rfl) Ends.noPanic (listed' := #[true, true, true, true, true, true, true, true, true, true, true, true, true]) (by decide +kernel) (by decide +kernel)
  refine AW.anyDone (by decide +kernel) ?_
  have hlt := rd11_lt hbr n t
  generalize rd11 r n t = q at *
  obtain ⟨xs, e⟩ := q
  simp only at hlt ⊢
  refine AW.go ?_
  refine AW.cond rfl (fun hc2 => ?_) (fun hc2 => ?_)
  · have hne : e ≠ 0 := by simpa using hc2
    simp only [if_pos hne]
    refine AW.go ?_
    refine AW.freeze (p := .slot 4) (by simp only [go_sem, ↓reduceIte, freeze, freezeO] <;> rfl) ?_
    refine AW.finE (.pv _ (.pv _ .nil)) rfl
  have hne : ¬ e ≠ 0 := by simpa using hc2
  simp only [if_neg hne]
  refine AW.go ?_
  refine AW.callE (fun _ => 0) (refEnc_fn xs hlt) (.pv _ .nil) ?_
  refine AW.go ?_
  refine AW.callE (fun _ => 0) (ref01Same_fn (encV xs).1 (t :: r) (encV_room xs)) (.lend rfl co_5 (.pv _ .nil)) ?_
  refine AW.go ?_
  refine AW.cond rfl (fun hc2 => ?_) (fun hc2 => ?_)
  · have hne : ¬ (encV xs).1 = t :: r := by simpa using hc2
    simp only [if_neg hne]
    refine AW.go ?_
    refine AW.freeze (p := .slot 4) (by simp only [go_sem, ↓reduceIte, freeze, freezeO] <;> rfl) ?_
    refine AW.finE (.pv _ (.pv _ .nil)) rfl
  · have hne : (encV xs).1 = t :: r := by simpa using hc2
    simp only [if_pos hne]
    refine AW.go ?_
    refine AW.finE (.pv _ (.pv _ .nil)) rfl
end Go.Ck

set_option linter.unusedVariables false
/-! How long the ways are. -/
namespace Go.Ck
theorem awake_enc : encV [5, 5, 5] = ([1, 0, 0, 0, 0, 0, 0, 0, 5], 0) := by decide +kernel
theorem awake_dec : dec11 [1, 0, 0, 0, 0, 0, 0, 0, 5] 3 = ([5, 5, 5], 0) := by decide +kernel
theorem enc10_len (xs : List Nat) : (enc10 xs).length = (leb (dd xs).length).length + 8 * (dd xs).length + (wd (dd xs).length * xs.length + 7) / 8 := by
  rw [enc10, head10, List.length_append, List.length_append, be8_len, pk_len, bits10_len]
theorem enc09_len (xs : List Nat) : (enc09 xs).length = ((gF xs).1.length + 7) / 8 := pk_len _
theorem wayS_room (xs : List Nat) (w : Int) : (wayS xs w).1.length ≤ room := by
  have hr : room = 140737488355328 := rfl
  unfold wayS
  split
  · simp
  split
  · simp
  rename_i hl
  have hd := dd_len xs
  split
  · simp only
    rw [enc10_len]
    have h1 := leb_len10 (v := (dd xs).length) (by omega)
    have h2 := wd_le (n := (dd xs).length) (by omega)
    have h3 : wd (dd xs).length * xs.length ≤ 16 * 65536 := Nat.mul_le_mul h2 (by omega)
    omega
  split
  · simp only
    rw [enc09_len]
    have := gF_len xs
    omega
  split
  · simp only
    rw [encP_len]; omega
  split
  · simp
  · simp only
    rw [encP_len]; simp; omega
/-- As many as asked for. -/
theorem dec10_n (l : List Nat) (n : Nat) (h : (dec10 l n).2 = 0) : (dec10 l n).1.length = n := by
  unfold dec10 dec10b at *
  split at h <;> rename_i h1
  · exact absurd h h1
  rw [if_neg h1]
  split at h <;> rename_i h2
  · cases h
  rw [if_neg h2]
  split at h <;> rename_i h3
  · cases h
  rw [if_neg h3]
  split at h <;> rename_i h4
  · cases h
  rw [if_neg h4]
  split at h <;> rename_i h5
  · cases h
  rw [if_neg h5]
  split at h <;> rename_i h6
  · rw [if_pos h6]; exact pats_len _ _ _
  · cases h
theorem dec09_n (l : List Nat) (n : Nat) (h : (dec09 l n).2 = 0) : (dec09 l n).1.length = n := by
  unfold dec09 at *
  split at h <;> rename_i h1
  · exact absurd h h1
  rw [if_neg h1]
  split at h <;> rename_i h2
  · rw [if_pos h2]; exact (gR_ok (unb_bit l) n (by simpa using h1)).len
  · cases h
theorem rd11_n (l : List Nat) (n t : Nat) (h : (rd11 l n t).2 = 0) : (rd11 l n t).1.length = n := by
  unfold rd11 at *
  by_cases h2 : t = 2
  · rw [if_pos h2] at h ⊢; exact dec10_n l n h
  rw [if_neg h2] at h ⊢
  by_cases h3 : t = 3
  · rw [if_pos h3] at h ⊢; exact dec09_n l n h
  rw [if_neg h3] at h ⊢
  generalize 8 * (if t = 1 then 1 else n) = m at *
  by_cases h4 : l.length < m
  · rw [if_pos h4] at h; cases h
  rw [if_neg h4] at h ⊢
  by_cases h5 : l.length ≠ m
  · rw [if_pos h5] at h; cases h
  rw [if_neg h5]
  by_cases h1 : t = 1
  · simp [h1]
  · simp [h1, dic_len]
/-- What a decoding that went well tells. -/
theorem dec11_ok {l : List Nat} {n : Int} (h : (dec11 l n).2 = 0) : 0 ≤ n ∧ n ≤ 65536 ∧ ∃ t r, l = t :: r ∧ t < 4 ∧ (rd11 r n.toNat t).2 = 0 ∧ (dec11 l n).1 = (rd11 r n.toNat t).1 ∧ (encV (dec11 l n).1).1 = l := by
  by_cases hn : n < 0 ∨ 65536 < n
  · rw [dec11_arg hn] at h; cases h
  refine ⟨by omega, by omega, ?_⟩
  obtain ⟨n, rfl⟩ : ∃ m : Nat, n = m := ⟨n.toNat, by omega⟩
  cases l with
  | nil => rw [dec11_nil hn] at h; cases h
  | cons t r =>
    rw [dec11_cons t r hn] at h ⊢
    rw [Int.toNat_natCast]
    split at h <;> rename_i h1
    · cases h
    rw [if_neg h1]
    split at h <;> rename_i h2
    · exact absurd h h2
    rw [if_neg h2]
    split at h <;> rename_i h3
    · rw [if_pos h3]
      exact ⟨t, r, rfl, by omega, by simpa using h2, rfl, h3⟩
    · cases h
theorem dec11_n {l : List Nat} {n : Int} (h : (dec11 l n).2 = 0) : (dec11 l n).1.length = n.toNat := by
  obtain ⟨_, _, t, r, rfl, _, h1, h2, _⟩ := dec11_ok h
  rw [h2, rd11_n r _ t h1]
theorem dec11_bad {l : List Nat} {n : Int} (h : (dec11 l n).2 ≠ 0) : (dec11 l n).1 = [] := by
  by_cases hn : n < 0 ∨ 65536 < n
  · rw [dec11_arg hn]
  obtain ⟨n, rfl⟩ : ∃ m : Nat, n = m := ⟨n.toNat, by omega⟩
  cases l with
  | nil => rw [dec11_nil hn]
  | cons t r =>
    rw [dec11_cons t r hn] at h ⊢
    split at h <;> rename_i h1
    · rw [if_pos h1]
    rw [if_neg h1]
    split at h <;> rename_i h2
    · rw [if_pos h2]
    rw [if_neg h2]
    split at h <;> rename_i h3
    · exact absurd rfl h
    · rw [if_neg h3]
theorem dec11_room (l : List Nat) (n : Int) : (dec11 l n).1.length ≤ room := by
  have hr : room = 140737488355328 := rfl
  by_cases h : (dec11 l n).2 = 0
  · have := dec11_n h
    have := dec11_ok h
    omega
  · rw [dec11_bad h]; simp
end Go.Ck

set_option linter.unusedVariables false
set_option maxRecDepth 10000
set_option maxHeartbeats 1000000
namespace Go.Ck
open Go.Proofs

theorem awake11_fn : Fn Tryd.prog 14 [] [] (fun rs H' => rs = [.pv (.bool true)] ∧ H' = []) := by
  refine Fn.of_body (fn := Tryd.f14) (n := 33) (res := [.tmp 0]) (by kernel_rfl) rfl rfl rfl rfl rfl (fun C => ?_)
  have b1 : [PV.int .u8 1, .int .u8 0, .int .u8 0, .int .u8 0, .int .u8 0, .int .u8 0, .int .u8 0, .int .u8 0, .int .u8 5] = bytes [1, 0, 0, 0, 0, 0, 0, 0, 5] := rfl
  have b2 : [PV.int .u64 5, .int .u64 5, .int .u64 5] = u64s [5, 5, 5] := rfl
  refine AW.go ?_ (by simp only [go_sem, ↓reduceIte, b1, b2] <;> rfl)
  refine AW.callE (fun _ => 0) (encV_fn [5, 5, 5] (by simp)) (.lend rfl co_38 .nil) ?_
  rw [awake_enc]
  refine AW.go ?_
  refine AW.callE (fun _ => 0) (vdec_fn [1, 0, 0, 0, 0, 0, 0, 0, 5] 3 (by decide) (by decide)) (.lend rfl co_5 (.pv _ .nil)) ?_
  rw [awake_dec]
  refine AW.gg ?_
  refine AW.guardT rfl rfl ?_
  refine AW.callE (fun _ => 0) (ref01Same_fn [1, 0, 0, 0, 0, 0, 0, 0, 5] [1, 0, 0, 0, 0, 0, 0, 0, 5] (by decide)) (.lend rfl co_5 (.lend rfl co_5 .nil)) ?_
  refine AW.gg ?_ (by simp only [go_sem, ↓reduceIte, b2, decide_true] <;> rfl)
  refine AW.guardT rfl rfl ?_
  refine AW.callE (fun _ => 0) (law11same_fn [5, 5, 5] [5, 5, 5] (by decide)) (.lend rfl co_38 (.lend rfl co_38 .nil)) ?_
  refine AW.gg ?_ (by simp only [go_sem, ↓reduceIte, decide_true] <;> rfl)
  refine AW.finE (.pv _ .nil) rfl

theorem law11ways_fn (xs : List Nat) (w : Int) (hx : ∀ x ∈ xs, x < 2 ^ 64) : Fn Tryd.prog 3 [] [.pv (.sl 1 (u64s xs)), .pv (.int .i64 w)] (fun rs H' => rs = [.pv (.bool true)] ∧ H' = []) := by
  refine Fn.of_body (fn := Tryd.f3) (n := 43) (res := [.tmp 4]) (by kernel_rfl) rfl rfl rfl rfl rfl (fun C => ?_)
  have ee : ∀ e : Int, (e == e) = true := fun e => by simp
  refine AW.go ?_
  refine AW.callE (fun _ => 0) awake11_fn .nil ?_
  by_cases h1 : 300 < xs.length
  · have d1 : decide ((xs.length : Int) > 300) = true := decide_eq_true (by omega)
    by_cases h2 : xs.length ≤ 65536
    · have d2 : decide ((xs.length : Int) ≤ 65536) = true := decide_eq_true (by omega)
      refine AW.gg ?_ (by simp only [go_sem, ↓reduceIte, d1, d2] <;> rfl)
      refine AW.condT rfl ?_
      refine AW.go ?_
      refine AW.finE (.pv _ .nil) rfl
    have d2 : decide ((xs.length : Int) ≤ 65536) = false := decide_eq_false (by omega)
    refine AW.gg ?_ (by simp only [go_sem, ↓reduceIte, d1, d2] <;> rfl)
    refine AW.condF rfl ?_
    refine AW.go ?_
    refine AW.callE (fun _ => 0) (way_fn xs w hx) (.pv _ (.pv _ .nil)) ?_
    refine AW.go ?_
    refine AW.callE (fun _ => 0) (refWay_fn xs w hx) (.pv _ (.pv _ .nil)) ?_
    refine AW.gg ?_ (by simp only [go_sem, ↓reduceIte, ee] <;> rfl)
    refine AW.guardT rfl rfl ?_
    refine AW.callE (fun _ => 0) (ref01Same_fn (wayS xs w).1 (wayS xs w).1 (wayS_room xs w)) (.lend rfl co_5 (.lend rfl co_5 .nil)) ?_
    refine AW.gg ?_ (by simp only [go_sem, ↓reduceIte, decide_true] <;> rfl)
    refine AW.finE (.pv _ .nil) rfl
  · have d1 : decide ((xs.length : Int) > 300) = false := decide_eq_false (by omega)
    refine AW.gg ?_ (by simp only [go_sem, ↓reduceIte, d1] <;> rfl)
    refine AW.condF rfl ?_
    refine AW.go ?_
    refine AW.callE (fun _ => 0) (way_fn xs w hx) (.pv _ (.pv _ .nil)) ?_
    refine AW.go ?_
    refine AW.callE (fun _ => 0) (refWay_fn xs w hx) (.pv _ (.pv _ .nil)) ?_
    refine AW.gg ?_ (by simp only [go_sem, ↓reduceIte, ee] <;> rfl)
    refine AW.guardT rfl rfl ?_
    refine AW.callE (fun _ => 0) (ref01Same_fn (wayS xs w).1 (wayS xs w).1 (wayS_room xs w)) (.lend rfl co_5 (.lend rfl co_5 .nil)) ?_
    refine AW.gg ?_ (by simp only [go_sem, ↓reduceIte, decide_true] <;> rfl)
    refine AW.finE (.pv _ .nil) rfl

theorem law11encodes_fn (xs : List Nat) (hx : ∀ x ∈ xs, x < 2 ^ 64) : Fn Tryd.prog 4 [] [.pv (.sl 1 (u64s xs))] (fun rs H' => rs = [.pv (.bool true)] ∧ H' = []) := by
  refine Fn.of_body (fn := Tryd.f4) (n := 39) (res := [.tmp 2]) (by kernel_rfl) rfl rfl rfl rfl rfl (fun C => ?_)
  have ee : ∀ e : Int, (e == e) = true := fun e => by simp
  refine AW.go ?_
  refine AW.callE (fun _ => 0) awake11_fn .nil ?_
  by_cases h1 : 300 < xs.length
  · have d1 : decide ((xs.length : Int) > 300) = true := decide_eq_true (by omega)
    by_cases h2 : xs.length ≤ 65536
    · have d2 : decide ((xs.length : Int) ≤ 65536) = true := decide_eq_true (by omega)
      refine AW.gg ?_ (by simp only [go_sem, ↓reduceIte, d1, d2] <;> rfl)
      refine AW.condT rfl ?_
      refine AW.go ?_
      refine AW.finE (.pv _ .nil) rfl
    have d2 : decide ((xs.length : Int) ≤ 65536) = false := decide_eq_false (by omega)
    refine AW.gg ?_ (by simp only [go_sem, ↓reduceIte, d1, d2] <;> rfl)
    refine AW.condF rfl ?_
    refine AW.go ?_
    refine AW.callE (fun _ => 0) (encV_fn xs hx) (.pv _ .nil) ?_
    refine AW.go ?_
    refine AW.callE (fun _ => 0) (refEnc_fn xs hx) (.pv _ .nil) ?_
    refine AW.gg ?_ (by simp only [go_sem, ↓reduceIte, ee] <;> rfl)
    refine AW.guardT rfl rfl ?_
    refine AW.callE (fun _ => 0) (ref01Same_fn (encV xs).1 (encV xs).1 (encV_room xs)) (.lend rfl co_5 (.lend rfl co_5 .nil)) ?_
    refine AW.gg ?_ (by simp only [go_sem, ↓reduceIte, decide_true] <;> rfl)
    refine AW.finE (.pv _ .nil) rfl
  · have d1 : decide ((xs.length : Int) > 300) = false := decide_eq_false (by omega)
    refine AW.gg ?_ (by simp only [go_sem, ↓reduceIte, d1] <;> rfl)
    refine AW.condF rfl ?_
    refine AW.go ?_
    refine AW.callE (fun _ => 0) (encV_fn xs hx) (.pv _ .nil) ?_
    refine AW.go ?_
    refine AW.callE (fun _ => 0) (refEnc_fn xs hx) (.pv _ .nil) ?_
    refine AW.gg ?_ (by simp only [go_sem, ↓reduceIte, ee] <;> rfl)
    refine AW.guardT rfl rfl ?_
    refine AW.callE (fun _ => 0) (ref01Same_fn (encV xs).1 (encV xs).1 (encV_room xs)) (.lend rfl co_5 (.lend rfl co_5 .nil)) ?_
    refine AW.gg ?_ (by simp only [go_sem, ↓reduceIte, decide_true] <;> rfl)
    refine AW.finE (.pv _ .nil) rfl

theorem law11decodes_fn (l : List Nat) (n : Int) (hb : ∀ x ∈ l, x < 256) : Fn Tryd.prog 5 [] [.pv (.sl 1 (bytes l)), .pv (.int .i64 n)] (fun rs H' => rs = [.pv (.bool true)] ∧ H' = []) := by
  refine Fn.of_body (fn := Tryd.f5) (n := 46) (res := [.tmp 4]) (by kernel_rfl) rfl rfl rfl rfl rfl (fun C => ?_)
  have ee : ∀ e : Int, (e == e) = true := fun e => by simp
  have hr : room = 140737488355328 := rfl
  refine AW.go ?_
  refine AW.callE (fun _ => 0) awake11_fn .nil ?_
  by_cases h1 : 300 < l.length
  · have d1 : decide ((l.length : Int) > 300) = true := decide_eq_true (by omega)
    refine AW.gg ?_ (by simp only [go_sem, ↓reduceIte, d1] <;> rfl)
    refine AG.start 6 17 true ?_ ?_ ⟨_, rfl, rfl⟩
    · refine AG.want rfl rfl (AG.step (hg := rfl) rfl (by decide) (by simp only [go_sem, ↓reduceIte] <;> rfl) ?_)
      refine AG.want rfl rfl (AG.step (hg := rfl) rfl (by decide) (by simp only [go_sem, ↓reduceIte] <;> rfl) ?_)
      refine AG.forget ?_
      refine AW.gg ?_
      refine AW.condT rfl ?_
      refine AW.go ?_
      refine AW.finE (.pv _ .nil) rfl
    · intro v hv
      refine AG.skip rfl rfl (by decide) hv ?_
      refine AG.skip rfl rfl (by decide) hv ?_
      refine AG.forget ?_
      refine AW.gg ?_
      refine AW.condT rfl ?_
      refine AW.go ?_
      refine AW.finE (.pv _ .nil) rfl
  have d1 : decide ((l.length : Int) > 300) = false := decide_eq_false (by omega)
  have hlen : (dec11 l n).1.length ≤ room := dec11_room l n
  by_cases h2 : 600 < n
  · have d2 : decide (n > 600) = true := decide_eq_true (by omega)
    by_cases h3 : n ≤ 65536
    · have d3 : decide (n ≤ 65536) = true := decide_eq_true h3
      refine AW.gg ?_ (by simp only [go_sem, ↓reduceIte, d1, d2, d3] <;> rfl)
      refine AW.condT rfl ?_
      refine AW.go ?_
      refine AW.finE (.pv _ .nil) rfl
    have d3 : decide (n ≤ 65536) = false := decide_eq_false h3
    refine AW.gg ?_ (by simp only [go_sem, ↓reduceIte, d1, d2, d3] <;> rfl)
    refine AW.condF rfl ?_
    refine AW.go ?_
    refine AW.callE (fun _ => 0) (vdec_fn l n (by omega) hb) (.pv _ (.pv _ .nil)) ?_
    refine AW.go ?_
    refine AW.callE (fun _ => 0) (refdec_fn l n (by omega) hb) (.pv _ (.pv _ .nil)) ?_
    refine AW.gg ?_ (by simp only [go_sem, ↓reduceIte, ee] <;> rfl)
    refine AW.guardT rfl rfl ?_
    refine AW.callE (fun _ => 0) (law11same_fn (dec11 l n).1 (dec11 l n).1 hlen) (.lend rfl co_38 (.pv _ .nil)) ?_
    refine AW.gg ?_ (by simp only [go_sem, ↓reduceIte, decide_true] <;> rfl)
    refine AW.finE (.pv _ .nil) rfl
  · have d2 : decide (n > 600) = false := decide_eq_false (by omega)
    refine AW.gg ?_ (by simp only [go_sem, ↓reduceIte, d1, d2] <;> rfl)
    refine AW.condF rfl ?_
    refine AW.go ?_
    refine AW.callE (fun _ => 0) (vdec_fn l n (by omega) hb) (.pv _ (.pv _ .nil)) ?_
    refine AW.go ?_
    refine AW.callE (fun _ => 0) (refdec_fn l n (by omega) hb) (.pv _ (.pv _ .nil)) ?_
    refine AW.gg ?_ (by simp only [go_sem, ↓reduceIte, ee] <;> rfl)
    refine AW.guardT rfl rfl ?_
    refine AW.callE (fun _ => 0) (law11same_fn (dec11 l n).1 (dec11 l n).1 hlen) (.lend rfl co_38 (.pv _ .nil)) ?_
    refine AW.gg ?_ (by simp only [go_sem, ↓reduceIte, decide_true] <;> rfl)
    refine AW.finE (.pv _ .nil) rfl
end Go.Ck

set_option linter.unusedVariables false
/-! What is written is read again. -/
namespace Go.Ck
theorem foldl_base (b : Nat) : ∀ (l : List Nat) (a : Nat), l.foldl (fun a x => a * b + x) a = a * b ^ l.length + l.foldl (fun a x => a * b + x) 0
  | [], a => by simp
  | x :: r, a => by
    rw [List.foldl_cons, foldl_base b r (a * b + x), List.foldl_cons, foldl_base b r (0 * b + x), List.length_cons, Nat.pow_succ, Nat.zero_mul, Nat.zero_add, Nat.add_mul, Nat.mul_assoc, Nat.mul_comm b (b ^ r.length), Nat.add_assoc]
theorem beN_cons (x : Nat) (l : List Nat) : beN (x :: l) = x * 256 ^ l.length + beN l := by
  have := foldl_base 256 l (0 * 256 + x)
  rw [beN, List.foldl_cons, this, Nat.zero_mul, Nat.zero_add]; rfl
theorem binN_cons (x : Nat) (l : List Nat) : binN (x :: l) = x * 2 ^ l.length + binN l := by
  have := foldl_base 2 l (0 * 2 + x)
  rw [binN, List.foldl_cons, this, Nat.zero_mul, Nat.zero_add]; rfl
theorem beN_beB (v n : Nat) : beN (beB v n) = v % 256 ^ n := by
  induction n with
  | zero => simp [beB, beN, Nat.mod_one]
  | succ n ih => rw [beB, beN_cons, beB_len, ih, Nat.pow_succ, Nat.mod_mul]; rw [Nat.mul_comm, Nat.add_comm]
theorem binN_binB (v n : Nat) : binN (binB v n) = v % 2 ^ n := by
  induction n with
  | zero => simp [binB, binN, Nat.mod_one]
  | succ n ih => rw [binB, binN_cons, binB_len, ih, Nat.pow_succ, Nat.mod_mul]; rw [Nat.mul_comm, Nat.add_comm]
theorem beN8 {x : Nat} (h : x < 2 ^ 64) : beN (beB x 8) = x := by
  rw [beN_beB]; exact Nat.mod_eq_of_lt (by omega)
theorem rdv_leb (n : Nat) : ∀ (v : Nat), v ≤ n → ∀ (k acc : Nat) (r : List Nat), v * 128 ^ k < 2 ^ 64 → (k = 0 ∨ v ≠ 0) → k ≤ 9 → rdv k acc (leb v ++ r) = (acc + v * 128 ^ k, k + (leb v).length, 0) := by
  induction n using Nat.strongRecOn with
  | _ n ih =>
    intro v hv k acc r hlt h0 hk
    have h9 : k = 9 → v < 2 := by
      rintro rfl
      have : v * 128 ^ 9 < 2 * 128 ^ 9 := by omega
      exact Nat.lt_of_mul_lt_mul_right this
    by_cases h : v < 128
    · rw [leb_lt h, List.singleton_append, rdv, if_neg (by omega), if_neg (by omega), if_neg (by omega)]; rfl
    · rw [leb_ge h, List.cons_append, rdv, if_neg (by omega), if_pos (by omega)]
      have hp : 128 ^ (k + 1) = 128 ^ k * 128 := Nat.pow_succ ..
      have hd : v = v / 128 * 128 + v % 128 := by omega
      have he : v * 128 ^ k = v / 128 * 128 ^ (k + 1) + v % 128 * 128 ^ k := by
        rw [hp, Nat.mul_comm (128 ^ k), ← Nat.mul_assoc, ← Nat.add_mul, ← hd]
      have hk9 : k ≠ 9 := fun e => by have := h9 e; omega
      rw [show (v % 128 + 128) % 128 = v % 128 by omega, ih (v / 128) (by omega) (v / 128) (Nat.le_refl _) (k + 1) _ r (by omega) (.inr (by omega)) (by omega), List.length_cons]
      refine Prod.ext ?_ (Prod.ext ?_ rfl)
      · simp only; omega
      · simp only; omega
theorem readV_leb {v : Nat} (h : v < 2 ^ 64) (r : List Nat) : readV (leb v ++ r) = (v, (leb v).length, 0) := by
  rw [readV_eq, rdv_leb v v (Nat.le_refl _) 0 0 r (by simpa using h) (.inl rfl) (by omega)]
  simp
/-- A number that was read is read again where more follows. -/
theorem rdv_more : ∀ (l : List Nat) (k acc : Nat) (c : List Nat), (rdv k acc l).2.2 = 0 → rdv k acc (l ++ c) = rdv k acc l
  | [], k, acc, c, h => by simp [rdv] at h
  | x :: r, k, acc, c, h => by
    rw [List.cons_append]
    simp only [rdv] at h ⊢
    split at h <;> rename_i h1
    · simp at h
    rw [if_neg h1, if_neg h1]
    split at h <;> rename_i h2
    · rw [if_pos h2, if_pos h2]; exact rdv_more r _ _ c h
    · rw [if_neg h2, if_neg h2]
theorem readV_more {l : List Nat} (c : List Nat) (h : (readV l).2.2 = 0) : readV (l ++ c) = readV l := by
  rw [readV_eq] at h
  rw [readV_eq, readV_eq, rdv_more l 0 0 c h]
/-- The bits of packed bits. -/
theorem pk_bits (l : List Nat) : (∀ x ∈ l, x < 2) → ∀ k, (pk l).getD (k / 8) 0 / 2 ^ (7 - k % 8) % 2 = l.getD k 0 := by
  induction l using snoc_ind with
  | h0 => intro _ k; simp [pk]
  | h1 l b ih =>
    intro hb k
    have ih := ih (fun x hx => hb x (by simp [hx]))
    have hb2 := hb b (by simp)
    have hk := pk_len l
    have e0 : (l ++ [b]).getD k 0 = if k = l.length then b else l.getD k 0 := by
      simp only [List.getD_eq_getElem?_getD, List.getElem?_append]
      by_cases h1 : k < l.length
      · rw [if_pos h1, if_neg (by omega)]
      · rw [if_neg h1]
        by_cases h2 : k = l.length
        · subst h2; simp
        · rw [if_neg h2, List.getElem?_eq_none (l := [b]) (by simp only [List.length_singleton]; omega), List.getElem?_eq_none (l := l) (by omega)]
    have key : ∀ (q m i : Nat), m < 8 → i < 8 → i ≠ m → (q * 2 ^ (8 - m) + b * 2 ^ (7 - m)) / 2 ^ (7 - i) % 2 = q * 2 ^ (8 - m) / 2 ^ (7 - i) % 2 := by
      intro q m i hm hi hne
      have e8 : 2 ^ (8 - m) = 2 * 2 ^ (7 - m) := by rw [← Nat.pow_succ']; congr 1; omega
      have eq1 : q * 2 ^ (8 - m) + b * 2 ^ (7 - m) = (2 * q + b) * 2 ^ (7 - m) := by rw [e8, ← Nat.mul_assoc, ← Nat.add_mul, Nat.mul_comm q 2]
      have eq2 : q * 2 ^ (8 - m) = (2 * q) * 2 ^ (7 - m) := by rw [e8, ← Nat.mul_assoc, Nat.mul_comm q 2]
      rw [eq1, eq2]
      by_cases him : i < m
      · have e7 : 2 ^ (7 - i) = 2 ^ (7 - m) * 2 ^ (m - i) := by rw [← Nat.pow_add]; congr 1; omega
        rw [e7, ← Nat.div_div_eq_div_mul, ← Nat.div_div_eq_div_mul, Nat.mul_div_cancel _ (Nat.two_pow_pos _), Nat.mul_div_cancel _ (Nat.two_pow_pos _)]
        have e1 : 2 ^ (m - i) = 2 * 2 ^ (m - i - 1) := by rw [← Nat.pow_succ']; congr 1; omega
        rw [e1, ← Nat.div_div_eq_div_mul, ← Nat.div_div_eq_div_mul, show (2 * q + b) / 2 = q by omega, show 2 * q / 2 = q by omega]
      · have e7 : 2 ^ (7 - m) = 2 ^ (i - m - 1) * 2 * 2 ^ (7 - i) := by rw [← Nat.pow_succ, ← Nat.pow_add]; congr 1; omega
        rw [e7, ← Nat.mul_assoc, ← Nat.mul_assoc (2 * q), Nat.mul_div_cancel _ (Nat.two_pow_pos _), Nat.mul_div_cancel _ (Nat.two_pow_pos _), ← Nat.mul_assoc, ← Nat.mul_assoc, Nat.mul_mod_left, Nat.mul_mod_left]
    have same : ∀ (q m : Nat), m < 8 → (q * 2 ^ (8 - m) + b * 2 ^ (7 - m)) / 2 ^ (7 - m) % 2 = b := by
      intro q m hm
      have e8 : 2 ^ (8 - m) = 2 * 2 ^ (7 - m) := by rw [← Nat.pow_succ']; congr 1; omega
      have eq1 : q * 2 ^ (8 - m) + b * 2 ^ (7 - m) = (2 * q + b) * 2 ^ (7 - m) := by rw [e8, ← Nat.mul_assoc, ← Nat.add_mul, Nat.mul_comm q 2]
      rw [eq1, Nat.mul_div_cancel _ (Nat.two_pow_pos _)]
      omega
    rw [e0, pk_snoc]
    by_cases h8 : l.length % 8 = 0
    · rw [if_pos h8]
      have e1 : (pk l ++ [b * 128]).getD (k / 8) 0 = if k / 8 = l.length / 8 then b * 128 else (pk l).getD (k / 8) 0 := by
        simp only [List.getD_eq_getElem?_getD, List.getElem?_append]
        by_cases h1 : k / 8 < (pk l).length
        · rw [if_pos h1, if_neg (by omega)]
        · rw [if_neg h1]
          by_cases h2 : k / 8 = l.length / 8
          · rw [if_pos h2, show k / 8 - (pk l).length = 0 by omega]; rfl
          · rw [if_neg h2, List.getElem?_eq_none (l := [b * 128]) (by simp only [List.length_singleton]; omega), List.getElem?_eq_none (l := pk l) (by omega)]
      rw [e1]
      by_cases h2 : k / 8 = l.length / 8
      · rw [if_pos h2]
        by_cases h3 : k = l.length
        · rw [if_pos h3]
          have := same 0 0 (by omega)
          rw [show k % 8 = 0 by omega]; simpa using this
        · rw [if_neg h3]
          have h4 : l.getD k 0 = 0 := by rw [List.getD_eq_getElem?_getD, List.getElem?_eq_none (by omega)]; rfl
          have := key 0 0 (k % 8) (by omega) (by omega) (by omega)
          rw [h4]; simpa using this
      · rw [if_neg h2, if_neg (fun e => h2 (by rw [e]))]
        exact ih k
    · rw [if_neg h8, getD_set]
      by_cases h2 : l.length / 8 = k / 8
      · rw [if_pos ⟨h2, by omega⟩]
        have hdiv : (pk l).getD (l.length / 8) 0 = (pr l).getD (l.length / 8) 0 * 2 ^ (8 - l.length % 8) := by
          have := pr_pk l (l.length / 8)
          rw [if_pos rfl, show (8 - l.length % 8) % 8 = 8 - l.length % 8 by omega] at this
          exact this
        have ihk := ih k
        rw [← h2, hdiv] at ihk
        rw [hdiv]
        by_cases h3 : k = l.length
        · rw [if_pos h3, h3]; exact same _ _ (by omega)
        · rw [if_neg h3, key _ _ (k % 8) (by omega) (by omega) (by omega)]
          exact ihk
      · rw [if_neg (fun h => h2 h.1), if_neg (fun e => h2 (by rw [e]))]
        exact ih k
theorem unb_pk {l : List Nat} (h : ∀ x ∈ l, x < 2) : unb (pk l) = l ++ List.replicate (8 * ((l.length + 7) / 8) - l.length) 0 := by
  refine ext_getD (by rw [unb_len, pk_len, List.length_append, List.length_replicate]; omega) (fun k => ?_)
  have e1 : (unb (pk l)).getD k 0 = (pk l).getD (k / 8) 0 / 2 ^ (7 - k % 8) % 2 := by
    by_cases hk : k / 8 < (pk l).length
    · rw [List.getD_eq_getElem?_getD, unb_get _ _ hk, getD_get hk]; rfl
    · rw [List.getD_eq_getElem?_getD, List.getElem?_eq_none (by rw [unb_len]; omega), List.getD_eq_getElem?_getD, List.getElem?_eq_none (by omega)]; simp
  rw [e1, pk_bits l h]
  simp only [List.getD_eq_getElem?_getD, List.getElem?_append]
  by_cases hk : k < l.length
  · rw [if_pos hk]
  · rw [if_neg hk, List.getElem?_eq_none (by omega), List.getElem?_replicate]
    split <;> rfl
end Go.Ck

set_option linter.unusedVariables false
/-! There and back. -/
namespace Go.Ck
theorem flat_dropN {α : Type} (f : α → List Nat) (w : Nat) (hf : ∀ x, (f x).length = w) : ∀ (xs : List α) (i : Nat), (xs.flatMap f).drop (w * i) = (xs.drop i).flatMap f
  | xs, 0 => by simp
  | [], i + 1 => by simp
  | x :: r, i + 1 => by
    rw [List.flatMap_cons, List.drop_succ_cons, Nat.mul_succ, Nat.add_comm, ← List.drop_drop, ← hf x, List.drop_left, hf x, flat_dropN f w hf r i]
theorem flat_takeN {α : Type} (f : α → List Nat) (w : Nat) (hf : ∀ x, (f x).length = w) (xs : List α) (c : List Nat) (i : Nat) (h : i < xs.length) : ((xs.flatMap f ++ c).drop (w * i)).take w = f xs[i] := by
  have hlen : w * i ≤ (xs.flatMap f).length := by
    have e : (xs.flatMap f).length = w * xs.length := by
      clear h
      induction xs with
      | nil => simp
      | cons x r ih => rw [List.flatMap_cons, List.length_append, hf, ih, List.length_cons, Nat.mul_succ, Nat.add_comm]
    rw [e]; exact Nat.mul_le_mul_left _ (by omega)
  rw [List.drop_append_of_le_length hlen, flat_dropN f w hf, List.drop_eq_getElem_cons h, List.flatMap_cons, List.append_assoc, ← hf xs[i], List.take_left]
theorem dic_flat {d : List Nat} (hd : ∀ x ∈ d, x < 2 ^ 64) (c : List Nat) : dic ((d.flatMap fun x => beB x 8) ++ c) d.length = d := by
  refine List.ext_getElem (dic_len _ _) (fun i h1 h2 => ?_)
  simp only [dic, List.getElem_map, List.getElem_range]
  rw [flat_takeN (fun x => beB x 8) 8 (fun x => beB_len x 8) d c i h2]
  exact beN8 (hd _ (List.getElem_mem h2))
theorem dic_encP {xs : List Nat} (hx : ∀ x ∈ xs, x < 2 ^ 64) : dic (encP xs) xs.length = xs := by
  have := dic_flat hx []
  rwa [List.append_nil] at this
theorem ixs_enc {xs : List Nat} {i : Nat} (h : i < xs.length) : ixs ((dd xs).flatMap (fun x => beB x 8) ++ pk (bits10 (dd xs) xs)) (dd xs).length i = (plc xs[i] (dd xs) 0).toNat := by
  have hl : ((dd xs).flatMap fun x => beB x 8).length = 8 * (dd xs).length := be8_len _
  unfold ixs
  rw [← hl, List.drop_left, unb_pk (bits10_bit _ _)]
  unfold getB
  rw [Nat.mul_comm i]
  unfold bits10
  rw [flat_takeN (fun x => binB (plc x (dd xs) 0).toNat (wd (dd xs).length)) (wd (dd xs).length) (fun x => binB_len _ _) xs _ i h, binN_binB]
  obtain ⟨k, h1, h2, _⟩ := plc_mem (i := 0) ((dd_mem xs xs[i]).2 (List.getElem_mem h))
  rw [h1]
  simp only [Nat.zero_add, Int.toNat_natCast]
  exact Nat.mod_eq_of_lt (wd_lt h2)
theorem dec10_enc10 {xs : List Nat} (hx : ∀ x ∈ xs, x < 2 ^ 64) (hl : xs.length ≤ 65536) : dec10 (enc10 xs) xs.length = (xs, 0) := by
  have hdl := dd_len xs
  have hu : (dd xs).length < 2 ^ 64 := by omega
  have hr := readV_leb hu ((dd xs).flatMap (fun x => beB x 8) ++ pk (bits10 (dd xs) xs))
  have he : enc10 xs = leb (dd xs).length ++ ((dd xs).flatMap (fun x => beB x 8) ++ pk (bits10 (dd xs) xs)) := by rw [enc10, head10, List.append_assoc]
  have hrl : ((dd xs).flatMap (fun x => beB x 8) ++ pk (bits10 (dd xs) xs)).length = 8 * (dd xs).length + (wd (dd xs).length * xs.length + 7) / 8 := by
    rw [List.length_append, be8_len, pk_len, bits10_len]
  have hix : ∀ i, (h : i < xs.length) → ixs ((dd xs).flatMap (fun x => beB x 8) ++ pk (bits10 (dd xs) xs)) (dd xs).length i < (dd xs).length ∧ (dd xs).getD (ixs ((dd xs).flatMap (fun x => beB x 8) ++ pk (bits10 (dd xs) xs)) (dd xs).length i) 0 = xs[i] := by
    intro i h
    rw [ixs_enc h]
    obtain ⟨k, h1, h2, h3⟩ := plc_mem (i := 0) ((dd_mem xs xs[i]).2 (List.getElem_mem h))
    rw [h1]
    simp only [Nat.zero_add, Int.toNat_natCast]
    exact ⟨h2, by rw [List.getD_eq_getElem?_getD, h3]; rfl⟩
  unfold dec10
  rw [he, hr]
  simp only [ne_eq, not_true, if_false, List.drop_left]
  rw [if_neg (by omega)]
  generalize hR : (dd xs).flatMap (fun x => beB x 8) ++ pk (bits10 (dd xs) xs) = r at *
  have hfit : fit10 r (dd xs).length xs.length = true := by
    rw [fit10, List.all_eq_true]
    intro i hi
    simp only [List.mem_range] at hi
    simpa using (hix i hi).1
  have hdd : ∀ x ∈ dd xs, x < 2 ^ 64 := fun x h => hx x ((dd_mem xs x).1 h)
  have hpat : pats r (dd xs).length xs.length = xs := by
    refine List.ext_getElem (pats_len _ _ _) (fun i h1 h2 => ?_)
    simp only [pats, List.getElem_map, List.getElem_range]
    rw [← hR, dic_flat hdd, hR]
    exact (hix i h2).2
  unfold dec10b
  rw [if_neg (by omega), if_neg (by rw [Nat.mul_comm xs.length]; omega), hfit, if_neg (by simp), hpat, he, if_pos rfl]
/-! patterns against the one ahead -/
def wa : Option (Nat × Nat) → Int
  | none => -1
  | some (l, _) => l
def wz : Option (Nat × Nat) → Int
  | none => 0
  | some (_, t) => t
theorem tzn_dvd (n : Nat) : ∀ (x : Nat), x ≤ n → x ≠ 0 → x % 2 ^ tzn x = 0 := by
  induction n using Nat.strongRecOn with
  | _ n ih =>
    intro x hx h0
    by_cases h : x % 2 = 1
    · rw [tzn_odd h]; simp [Nat.mod_one]
    · rw [tzn_even h0 (by omega), Nat.pow_succ', Nat.mod_mul, ih (x / 2) (by omega) (x / 2) (Nat.le_refl _) (by omega)]
      omega
theorem shift_back {x t : Nat} (h0 : x ≠ 0) (h : t ≤ tzn x) : x / 2 ^ t * 2 ^ t = x := by
  have h1 := tzn_dvd x x (Nat.le_refl _) h0
  have h2 : 2 ^ t ∣ 2 ^ tzn x := Nat.pow_dvd_pow 2 h
  exact Nat.div_mul_cancel (Nat.dvd_trans h2 (Nat.dvd_of_mod_eq_zero h1))
theorem getB_at {B p rest : List Nat} {k : Nat} (h : B.drop k = p ++ rest) {j n : Nat} (hj : j + n ≤ p.length) : getB B (k + j) n = binN ((p.drop j).take n) := by
  unfold getB
  rw [← List.drop_drop, h, List.drop_append_of_le_length (by omega), List.take_append_of_le_length (by simp; omega)]
theorem len_at {B p rest : List Nat} {k : Nat} (h : B.drop k = p ++ rest) (hp : 0 < p.length) : k + p.length ≤ B.length := by
  have := congrArg List.length h
  simp at this
  omega
theorem fitsW_some {w : Option (Nat × Nat)} {x : Nat} (h : fitsW w x = true) : ∃ l t, w = some (l, t) ∧ l ≤ 64 - blen x ∧ t ≤ tzn x := by
  rcases w with _ | ⟨l, t⟩
  · simp [fitsW] at h
  · simp [fitsW] at h; exact ⟨l, t, rfl, h.1, h.2⟩
theorem binN_take1 (a : Nat) (r : List Nat) : binN (List.take 1 (a :: r)) = a := by simp [binN]
theorem gNy_val {B p rest : List Nat} {k l t x : Nat} (hp : B.drop k = binB (x / 2 ^ t) (64 - l - t) ++ rest) (hx : x < 2 ^ 64) (h0 : x ≠ 0) (hl : l ≤ 64 - blen x) (ht : t ≤ tzn x) (hlt : l + t ≤ 63) :
    gNy B k (l : Int) (t : Int) = ⟨x, 0, k + (64 - l - t), l, t⟩ := by
  have hR : (64 - (l : Int) - (t : Int)).toNat = 64 - l - t := by omega
  have hlen := len_at hp (by rw [binB_len]; omega)
  rw [binB_len] at hlen
  have hg := getB_at hp (j := 0) (n := 64 - l - t) (by rw [binB_len]; omega)
  rw [Nat.add_zero, List.drop_zero, List.take_of_length_le (by rw [binB_len]; omega), binN_binB, Nat.mod_eq_of_lt (fit_lt hx hl hlt)] at hg
  rw [gNy, if_neg (by omega), hR, Int.toNat_natCast, if_pos hlen, hg, shift_back h0 ht, Nat.mod_eq_of_lt hx]
theorem gNx_step {B rest : List Nat} {k x : Nat} {w : Option (Nat × Nat)} (h : B.drop k = (gStep w x).1 ++ rest) (hx : x < 2 ^ 64) (hw : winOK w) :
    gNx B k (wa w) (wz w) = ⟨x, 0, k + (gStep w x).1.length, wa (gStep w x).2, wz (gStep w x).2⟩ := by
  by_cases h0 : x = 0
  · subst h0
    rw [gStep_zero] at h ⊢
    simp only at h ⊢
    have hlen := len_at h (by simp)
    have hg := getB_at h (j := 0) (n := 1) (by simp)
    rw [Nat.add_zero, List.drop_zero, binN_take1] at hg
    simp only [List.length_singleton] at hlen ⊢
    rw [gNx, if_neg (by omega), if_pos hg]
  cases hf : fitsW w x with
  | true =>
    obtain ⟨l, t, rfl, hl, ht⟩ := fitsW_some hf
    have hlt := (hw l t rfl).1
    rw [gStep_fits h0 hf] at h ⊢
    simp only at h ⊢
    have hlen := len_at h (by simp)
    have hg0 := getB_at h (j := 0) (n := 1) (by simp)
    have hg1 := getB_at h (j := 1) (n := 1) (by simp)
    rw [Nat.add_zero, List.drop_zero, List.cons_append, binN_take1] at hg0
    rw [List.cons_append, List.drop_succ_cons, List.drop_zero, List.cons_append, binN_take1] at hg1
    have hd : B.drop (k + 2) = binB (x / 2 ^ t) (64 - l - t) ++ rest := by
      rw [← List.drop_drop, h]; rfl
    have hy := gNy_val (p := []) hd hx h0 hl ht hlt
    simp only [List.length_append, List.length_cons, List.length_nil, binB_len] at hlen ⊢
    rw [gNx, if_neg (by omega), if_neg (by omega), if_neg (by omega), if_neg (by omega)]
    simp only [wa, wz]
    rw [hy]
    simp only [GN.mk.injEq, true_and, and_true]
    omega
  | false =>
    obtain ⟨n1, n2⟩ := newW_ok h0 hx
    obtain ⟨m1, m2⟩ := @newW_fits x
    rw [gStep_new h0 hf] at h ⊢
    generalize hq : newW x = q at *
    obtain ⟨l, t⟩ := q
    simp only at h n1 n2 m1 m2 ⊢
    have hlen := len_at h (by simp)
    simp only [List.length_append, List.length_cons, List.length_nil, binB_len] at hlen ⊢
    have hpl : ([1, 1] ++ binB l 5 ++ binB (63 - l - t) 6 ++ binB (x / 2 ^ t) (64 - l - t)).length = 13 + (64 - l - t) := by simp [binB_len]; omega
    have hg0 := getB_at h (j := 0) (n := 1) (by omega)
    have hg1 := getB_at h (j := 1) (n := 1) (by omega)
    have hg2 := getB_at h (j := 2) (n := 5) (by omega)
    have hg7 := getB_at h (j := 7) (n := 6) (by omega)
    have e0 : binN (List.take 1 (List.drop 0 ([1, 1] ++ binB l 5 ++ binB (63 - l - t) 6 ++ binB (x / 2 ^ t) (64 - l - t)))) = 1 := rfl
    have e1 : binN (List.take 1 (List.drop 1 ([1, 1] ++ binB l 5 ++ binB (63 - l - t) 6 ++ binB (x / 2 ^ t) (64 - l - t)))) = 1 := rfl
    have e2 : List.take 5 (List.drop 2 ([1, 1] ++ binB l 5 ++ binB (63 - l - t) 6 ++ binB (x / 2 ^ t) (64 - l - t))) = binB l 5 := rfl
    have e7 : List.take 6 (List.drop 7 ([1, 1] ++ binB l 5 ++ binB (63 - l - t) 6 ++ binB (x / 2 ^ t) (64 - l - t))) = binB (63 - l - t) 6 := rfl
    rw [e0, Nat.add_zero] at hg0
    rw [e1] at hg1
    rw [e2, binN_binB, Nat.mod_eq_of_lt (by omega)] at hg2
    rw [e7, binN_binB, Nat.mod_eq_of_lt (by omega)] at hg7
    have hd : B.drop (k + 13) = binB (x / 2 ^ t) (64 - l - t) ++ rest := by
      rw [← List.drop_drop, h]; rfl
    have hy := gNy_val (p := []) hd hx h0 m1 m2 n1
    rw [gNx, if_neg (by omega), if_neg (by omega), if_neg (by omega), if_pos hg1, if_neg (by omega), if_neg (by omega), hg2, hg7]
    have e3 : (63 - (l : Int) - ((63 - l - t : Nat) : Int)) = (t : Int) := by omega
    rw [e3, hy]
    simp only [wa, wz, GN.mk.injEq, true_and, and_true]
    omega
theorem gF_prefix (xs : List Nat) : ∀ i, i ≤ xs.length → ∃ s, (gF xs).1 = (gF (xs.take i)).1 ++ s := by
  induction xs using snoc_ind with
  | h0 => intro i hi; exact ⟨[], by simp⟩
  | h1 l b ih =>
    intro i hi
    by_cases h : i ≤ l.length
    · rw [List.take_append_of_le_length h]
      by_cases h0 : l = []
      · subst h0
        have : i = 0 := by simpa using h
        subst this
        exact ⟨_, by simp [gF]; rfl⟩
      · obtain ⟨s, hs⟩ := ih i h
        rw [gF_snoc, gS]
        have hlast := gF_last l
        cases hp : (gF l).2.2 with
        | none => rw [hp] at hlast; exact absurd (List.getLast?_eq_none_iff.1 hlast.symm) h0
        | some p => exact ⟨s ++ (gStep (gF l).2.1 (b ^^^ p)).1, by show (gF l).1 ++ _ = _; rw [hs, List.append_assoc]⟩
    · rw [List.take_of_length_le (by simp at hi ⊢; omega)]
      exact ⟨[], by simp⟩
theorem gR_enc {xs : List Nat} (hx : ∀ x ∈ xs, x < 2 ^ 64) (c : List Nat) : ∀ i, i ≤ xs.length → gR ((gF xs).1 ++ c) i = ⟨xs.take i, 0, (gF (xs.take i)).1.length, wa (gF (xs.take i)).2.1, wz (gF (xs.take i)).2.1⟩
  | 0, _ => by simp [gR, gF, wa, wz]
  | i + 1, hi => by
    have ih := gR_enc hx c i (by omega)
    have hlt : i < xs.length := hi
    have hti : xs.take (i + 1) = xs.take i ++ [xs[i]] := by simp
    obtain ⟨s, hs⟩ := gF_prefix xs (i + 1) hi
    have hxt : ∀ x ∈ xs.take i, x < 2 ^ 64 := fun x h => hx x (List.mem_of_mem_take h)
    have hxi := hx _ (List.getElem_mem hlt)
    have hok := gF_ok (xs.take i) hxt
    have hlast := gF_last (xs.take i)
    by_cases h0 : i = 0
    · subst h0
      have ih0 : gR ((gF xs).1 ++ c) 0 = ⟨[], 0, 0, -1, 0⟩ := rfl
      rw [gR, ih0, gRs, if_neg (by simp)]
      simp only [List.length_nil, if_true, Nat.zero_add]
      have hg : gF (xs.take 1) = (binB xs[0] 64, none, some xs[0]) := by rw [hti]; rfl
      rw [hg] at hs ⊢
      simp only [binB_len]
      simp only at hs
      have hlen : ((gF xs).1 ++ c).length = 64 + (s.length + c.length) := by rw [hs]; simp [binB_len, Nat.add_assoc]
      have hgb := getB_at (B := (gF xs).1 ++ c) (k := 0) (p := binB xs[0] 64) (rest := s ++ c) (by rw [List.drop_zero, hs, List.append_assoc]) (j := 0) (n := 64) (by simp [binB_len])
      rw [List.drop_zero, List.take_of_length_le (by simp [binB_len]), binN_binB, Nat.mod_eq_of_lt hxi, Nat.zero_add] at hgb
      rw [if_pos (by omega), hgb]
      rw [hti]; rfl
    · rw [gR, ih, gRs, if_neg (by simp)]
      simp only
      have htl : (xs.take i).length = i := by rw [List.length_take]; omega
      rw [if_neg (by rw [htl]; exact h0)]
      have hlp : (xs.take i).getLast? = some (xs.getD (i - 1) 0) := by
        rw [List.getLast?_eq_getElem?, List.length_take, List.getElem?_take, List.getD_eq_getElem?_getD]
        rw [show min i xs.length = i by omega, if_pos (by omega), List.getElem?_eq_getElem (by omega)]
        rfl
      rw [hlp] at hlast
      have hpd : (xs.take i).getD ((xs.take i).length - 1) 0 = xs.getD (i - 1) 0 := by
        rw [htl, List.getD_eq_getElem?_getD, List.getD_eq_getElem?_getD, List.getElem?_take, if_pos (by omega)]
      have hpl : xs.getD (i - 1) 0 < 2 ^ 64 := getD_lt hx (by omega) _
      have hg : gF (xs.take (i + 1)) = ((gF (xs.take i)).1 ++ (gStep (gF (xs.take i)).2.1 (xs[i] ^^^ xs.getD (i - 1) 0)).1, (gStep (gF (xs.take i)).2.1 (xs[i] ^^^ xs.getD (i - 1) 0)).2, some xs[i]) := by
        rw [hti, gF_snoc, gS, hlast]
      rw [hg] at hs ⊢
      simp only at hs ⊢
      have hstep := gNx_step (B := (gF xs).1 ++ c) (k := (gF (xs.take i)).1.length) (w := (gF (xs.take i)).2.1) (x := xs[i] ^^^ xs.getD (i - 1) 0) (rest := s ++ c)
        (by rw [hs, List.append_assoc, List.append_assoc, List.drop_left]) (Nat.xor_lt_two_pow hxi hpl) hok
      rw [hstep]
      simp only [if_true]
      rw [hpd, Nat.xor_assoc, Nat.xor_self, Nat.xor_zero, ← hti]
      simp only [List.length_append]
theorem dec09_enc09 {xs : List Nat} (hx : ∀ x ∈ xs, x < 2 ^ 64) : dec09 (enc09 xs) xs.length = (xs, 0) := by
  have h : unb (enc09 xs) = (gF xs).1 ++ List.replicate (8 * (((gF xs).1.length + 7) / 8) - (gF xs).1.length) 0 := unb_pk (gF_bit xs)
  unfold dec09
  rw [h, gR_enc hx _ xs.length (Nat.le_refl _)]
  simp
end Go.Ck

set_option linter.unusedVariables false
/-! The laws of the patterns' layer. -/
namespace Go.Ck
theorem wayS_cases {xs : List Nat} {t : Nat} (ht : t < 4) (hl : xs.length ≤ 65536) : (t = 0 ∧ wayS xs t = (encP xs, 0)) ∨ (t = 1 ∧ wayS xs t = if oneV xs = false ∨ xs = [] then ([], 1) else (encP (xs.take 1), 0)) ∨ (t = 2 ∧ wayS xs t = (enc10 xs, 0)) ∨ (t = 3 ∧ wayS xs t = (enc09 xs, 0)) := by
  have hl' : ¬ 65536 < xs.length := by omega
  have hc : t = 0 ∨ t = 1 ∨ t = 2 ∨ t = 3 := by omega
  rcases hc with rfl | rfl | rfl | rfl
  · exact .inl ⟨rfl, wayS_zero hl'⟩
  · refine .inr (.inl ⟨rfl, ?_⟩)
    rw [wayS, if_neg (by omega), if_neg hl']; rfl
  · refine .inr (.inr (.inl ⟨rfl, ?_⟩))
    rw [wayS, if_neg (by omega), if_neg hl']; rfl
  · refine .inr (.inr (.inr ⟨rfl, ?_⟩))
    rw [wayS, if_neg (by omega), if_neg hl']; rfl
theorem oneV_rep {xs : List Nat} (h : oneV xs = true) : xs = List.replicate xs.length (xs.getD 0 0) := by
  refine List.eq_replicate_of_mem (fun x hx => ?_)
  simpa using List.all_eq_true.1 h x hx
theorem rd11_way {xs : List Nat} {t : Nat} (hx : ∀ x ∈ xs, x < 2 ^ 64) (ht : t < 4) (hl : xs.length ≤ 65536) (h : (wayS xs t).2 = 0) : rd11 (wayS xs t).1 xs.length t = (xs, 0) := by
  rcases wayS_cases ht hl with ⟨rfl, e⟩ | ⟨rfl, e⟩ | ⟨rfl, e⟩ | ⟨rfl, e⟩
  · rw [e]
    unfold rd11
    rw [if_neg (by omega), if_neg (by omega), if_neg (show ¬ (0 = 1) by omega), encP_len, if_neg (by omega), if_neg (by omega), if_neg (by omega), dic_encP hx]
  · rw [e] at h ⊢
    split at h
    · cases h
    · rename_i hn
      rw [if_neg hn]
      have h1 : oneV xs = true := by cases ho : oneV xs <;> simp [ho] at hn ⊢
      have h2 : xs ≠ [] := fun h => hn (.inr h)
      have hr := oneV_rep h1
      obtain ⟨y, r, rfl⟩ : ∃ y r, xs = y :: r := by cases xs with | nil => exact absurd rfl h2 | cons y r => exact ⟨y, r, rfl⟩
      have he : encP ((y :: r).take 1) = beB y 8 := by simp [encP]
      unfold rd11
      rw [he, if_neg (by omega), if_neg (by omega), if_pos rfl, beB_len, if_neg (by omega), if_neg (by omega), if_pos rfl, List.take_of_length_le (by rw [beB_len]; omega), beN8 (hx y (by simp))]
      have hr2 : y :: r = List.replicate (y :: r).length y := hr
      rw [← hr2]
  · rw [e]; simp only [rd11, if_true]; exact dec10_enc10 hx hl
  · rw [e]; unfold rd11; rw [if_neg (by omega), if_pos rfl]; exact dec09_enc09 hx
theorem bestB_way {xs : List Nat} (hl : ¬ 65536 < xs.length) (n : Nat) : (wayS xs (bestB xs n).1).2 = 0 ∧ (bestB xs n).2 = (wayS xs (bestB xs n).1).1 := by
  induction n with
  | zero =>
    rw [bestB_zero]
    have : wayS xs ((0 : Nat) : Int) = (encP xs, 0) := wayS_zero hl
    rw [this]
    exact ⟨rfl, rfl⟩
  | succ n ih =>
    rw [bestB_succ, stepB]
    split
    · rename_i h; exact ⟨h.1, rfl⟩
    · exact ih
theorem bestB_min {xs : List Nat} (hl : ¬ 65536 < xs.length) (n : Nat) : ∀ t, t ≤ n → (wayS xs t).2 = 0 → (bestB xs n).2.length ≤ (wayS xs t).1.length := by
  induction n with
  | zero =>
    intro t ht _
    have : t = 0 := by omega
    subst this
    have : wayS xs ((0 : Nat) : Int) = (encP xs, 0) := wayS_zero hl
    rw [bestB_zero, this]
    exact Nat.le_refl _
  | succ n ih =>
    intro t ht h
    rw [bestB_succ, stepB]
    by_cases he : t = n + 1
    · subst he
      split
      · exact Nat.le_refl _
      · rename_i h2
        exact Nat.le_of_not_lt (fun h3 => h2 ⟨h, h3⟩)
    · have := ih t (by omega) h
      split
      · rename_i h2; exact Nat.le_of_lt (Nat.lt_of_lt_of_le h2.2 this)
      · exact this
theorem encV_ok {xs : List Nat} (hl : xs.length ≤ 65536) : encV xs = ((bestB xs 3).1 :: (bestB xs 3).2, 0) := by rw [encV, if_neg (by omega)]
theorem encV_min {xs : List Nat} (hl : xs.length ≤ 65536) (w : Int) (h : (wayS xs w).2 = 0) : (encV xs).1.length ≤ (wayS xs w).1.length + 1 := by
  rw [encV_ok hl]
  simp only [List.length_cons]
  by_cases hw : w < 0 ∨ 4 ≤ w
  · rw [wayS, if_pos hw] at h; cases h
  · obtain ⟨t, rfl⟩ : ∃ t : Nat, w = t := ⟨w.toNat, by omega⟩
    have := bestB_min (by omega) 3 t (by omega) h
    omega
theorem dec11_encV {xs : List Nat} (hx : ∀ x ∈ xs, x < 2 ^ 64) (hl : xs.length ≤ 65536) : dec11 (encV xs).1 xs.length = (xs, 0) := by
  have ht := bestB_tag xs 3
  obtain ⟨h1, h2⟩ := bestB_way (xs := xs) (by omega) 3
  have hr := rd11_way hx (t := (bestB xs 3).1) (by omega) hl h1
  rw [← h2] at hr
  have he := encV_ok hl
  rw [he]
  simp only
  rw [dec11_cons _ _ (by omega), hr, if_neg (by omega)]
  simp only [ne_eq, not_true, if_false]
  rw [he]
  simp
/-! a decoding reads what it needs alone -/
theorem getB_more {B : List Nat} (C : List Nat) {k n : Nat} (h : k + n ≤ B.length) : getB (B ++ C) k n = getB B k n := by
  unfold getB
  rw [List.drop_append_of_le_length (by omega), List.take_append_of_le_length (by simp; omega)]
theorem gNy_more {B : List Nat} (C : List Nat) {k : Nat} {a z : Int} (h : (gNy B k a z).e = 0) : gNy (B ++ C) k a z = gNy B k a z := by
  unfold gNy at h ⊢
  split at h <;> rename_i h1
  · cases h
  rw [if_neg h1, if_neg h1]
  split at h <;> rename_i h2
  · rw [if_pos h2, if_pos (by rw [List.length_append]; omega), getB_more C h2]
  · cases h
theorem gNx_more {B : List Nat} (C : List Nat) {k : Nat} {a z : Int} (h : (gNx B k a z).e = 0) : gNx (B ++ C) k a z = gNx B k a z := by
  unfold gNx at h ⊢
  split at h <;> rename_i h1
  · cases h
  rw [if_neg h1, if_neg (by rw [List.length_append]; omega), getB_more C (by omega)]
  split at h <;> rename_i h2
  · rw [if_pos h2, if_pos h2]
  rw [if_neg h2, if_neg h2]
  split at h <;> rename_i h3
  · cases h
  rw [if_neg h3, if_neg (by rw [List.length_append]; omega), getB_more C (by omega)]
  split at h <;> rename_i h4
  · rw [if_pos h4, if_pos h4]
    split at h <;> rename_i h5
    · cases h
    rw [if_neg h5, if_neg (by rw [List.length_append]; omega)]
    split at h <;> rename_i h6
    · cases h
    rw [if_neg h6, if_neg (by rw [List.length_append]; omega), getB_more C (by omega), getB_more C (by omega)]
    exact gNy_more C h
  · rw [if_neg h4, if_neg h4]; exact gNy_more C h
theorem gR_more {B : List Nat} (C : List Nat) : ∀ n, (gR B n).e = 0 → gR (B ++ C) n = gR B n
  | 0, _ => rfl
  | n + 1, h => by
    by_cases h0 : (gR B n).e = 0
    · have ih := gR_more C n h0
      rw [gR, ih, gR]
      rw [gR] at h
      generalize gR B n = r at *
      have hg : ∀ D, gRs D r = if r.o.length = 0 then (if r.k + 64 ≤ D.length then ⟨[getB D r.k 64], 0, r.k + 64, r.a, r.z⟩ else ⟨[], 2, r.k, r.a, r.z⟩)
          else ⟨if (gNx D r.k r.a r.z).e = 0 then r.o ++ [(gNx D r.k r.a r.z).x ^^^ r.o.getD (r.o.length - 1) 0] else r.o, (gNx D r.k r.a r.z).e, (gNx D r.k r.a r.z).k, (gNx D r.k r.a r.z).a, (gNx D r.k r.a r.z).z⟩ := fun D => by
        rw [gRs, if_neg (fun hn => hn h0)]
      rw [hg] at h ⊢
      rw [hg]
      split at h <;> rename_i h1
      · rw [if_pos h1, if_pos h1]
        split at h <;> rename_i h2
        · rw [if_pos h2, if_pos (by rw [List.length_append]; omega), getB_more C h2]
        · cases h
      · rw [if_neg h1, if_neg h1]
        simp only at h
        rw [gNx_more C h]
    · have : gR B (n + 1) = gR B n := gR_stop (by omega) h0
      rw [this] at h
      exact absurd h h0
theorem dec09_pf {r c : List Nat} {n : Nat} (h1 : (dec09 r n).2 = 0) (h2 : (dec09 (r ++ c) n).2 = 0) : (dec09 (r ++ c) n).1 = (dec09 r n).1 := by
  unfold dec09 at h1 h2 ⊢
  split at h1 <;> rename_i a1
  · exact absurd h1 a1
  have hm := gR_more (B := unb r) (unb c) n (by simpa using a1)
  rw [← unb_append] at hm
  rw [hm] at h2 ⊢
  rw [if_neg a1] at h2 ⊢
  rw [if_neg a1]
  split at h1 <;> rename_i a2
  · split at h2 <;> rename_i a3
    · rw [if_pos a2, if_pos a3]
    · cases h2
  · cases h1
theorem dic_more {r : List Nat} (c : List Nat) {u : Nat} (h : 8 * u ≤ r.length) : dic (r ++ c) u = dic r u := by
  unfold dic
  refine List.map_congr_left (fun i hi => ?_)
  have hi : i < u := by simpa using hi
  rw [List.drop_append_of_le_length (by omega), List.take_append_of_le_length (by simp; omega)]
theorem dec10_parts {l : List Nat} {n : Nat} (h : (dec10 l n).2 = 0) : (readV l).2.2 = 0 ∧ 8 * (readV l).1 ≤ (l.drop (readV l).2.1).length ∧ n * wd (readV l).1 ≤ 8 * ((l.drop (readV l).2.1).length - 8 * (readV l).1) ∧ (dec10 l n).1 = pats (l.drop (readV l).2.1) (readV l).1 n := by
  unfold dec10 dec10b at h ⊢
  split at h <;> rename_i h1
  · exact absurd h h1
  rw [if_neg h1]
  split at h <;> rename_i h2
  · cases h
  rw [if_neg h2]
  split at h <;> rename_i h3
  · cases h
  rw [if_neg h3]
  split at h <;> rename_i h4
  · cases h
  rw [if_neg h4]
  split at h <;> rename_i h5
  · cases h
  rw [if_neg h5]
  split at h <;> rename_i h6
  · rw [if_pos h6]; exact ⟨by simpa using h1, by omega, by omega, rfl⟩
  · cases h
theorem dec10_pf {r c : List Nat} {n : Nat} (h1 : (dec10 r n).2 = 0) (h2 : (dec10 (r ++ c) n).2 = 0) : (dec10 (r ++ c) n).1 = (dec10 r n).1 := by
  obtain ⟨a1, a2, a3, a4⟩ := dec10_parts h1
  obtain ⟨_, _, _, b4⟩ := dec10_parts h2
  have hle := readV_le r
  rw [readV_more c a1, List.drop_append_of_le_length hle] at b4
  rw [a4, b4]
  generalize r.drop (readV r).2.1 = q at *
  generalize (readV r).1 = u at *
  unfold pats
  refine List.map_congr_left (fun i hi => ?_)
  have hi : i < n := by simpa using hi
  have hix : ixs (q ++ c) u i = ixs q u i := by
    unfold ixs
    rw [List.drop_append_of_le_length a2, unb_append, getB_more]
    rw [unb_len, List.length_drop]
    have := Nat.mul_le_mul_right (wd u) hi
    rw [Nat.succ_mul] at this
    omega
  rw [dic_more c a2, hix]
theorem dec11_pf {b c : List Nat} {n : Int} (h1 : (dec11 b n).2 = 0) (h2 : (dec11 (b ++ c) n).2 = 0) : c = [] := by
  obtain ⟨n0, n1, t, r, rfl, ht, a1, a2, a3⟩ := dec11_ok h1
  obtain ⟨_, _, t', r', e, _, b1, b2, b3⟩ := dec11_ok h2
  rw [List.cons_append] at e
  obtain ⟨rfl, rfl⟩ := List.cons.inj e
  have same : (rd11 (r ++ c) n.toNat t).1 = (rd11 r n.toNat t).1 → c = [] := by
    intro hs
    rw [b2, hs, ← a2, a3] at b3
    have hlen := congrArg List.length b3
    simp only [List.length_append, List.length_cons] at hlen
    exact List.length_eq_zero_iff.1 (by omega)
  have len : ∀ m : Nat, r.length = m → (r ++ c).length = m → c = [] := by
    intro m e1 e2
    rw [List.length_append] at e2
    exact List.length_eq_zero_iff.1 (by omega)
  have hc : t = 2 ∨ t = 3 ∨ t < 2 := by omega
  rcases hc with rfl | rfl | h
  · have e : ∀ l n, rd11 l n 2 = dec10 l n := fun l n => by simp [rd11]
    rw [e] at a1 b1
    exact same (by rw [e, e]; exact dec10_pf a1 b1)
  · have e : ∀ l n, rd11 l n 3 = dec09 l n := fun l n => by simp [rd11]
    rw [e] at a1 b1
    exact same (by rw [e, e]; exact dec09_pf a1 b1)
  · unfold rd11 at a1 b1
    rw [if_neg (by omega), if_neg (by omega)] at a1 b1
    generalize 8 * (if t = 1 then 1 else n.toNat) = m at *
    split at a1
    · cases a1
    split at a1 <;> rename_i q1
    · cases a1
    split at b1
    · cases b1
    split at b1 <;> rename_i q2
    · cases b1
    exact len m (by simpa using q1) (by simpa using q2)
theorem encV_cut {xs : List Nat} (hx : ∀ x ∈ xs, x < 2 ^ 64) (hl : xs.length ≤ 65536) {k : Nat} (hk : k < (encV xs).1.length) : (dec11 ((encV xs).1.take k) xs.length).2 ≠ 0 := by
  intro h
  have h2 : (dec11 ((encV xs).1.take k ++ (encV xs).1.drop k) xs.length).2 = 0 := by rw [List.take_append_drop, dec11_encV hx hl]
  have := dec11_pf h h2
  have := congrArg List.length this
  simp at this
  omega
theorem encV_more {xs : List Nat} (hx : ∀ x ∈ xs, x < 2 ^ 64) (hl : xs.length ≤ 65536) (y : Nat) : (dec11 ((encV xs).1 ++ [y]) xs.length).2 ≠ 0 := by
  intro h
  have := dec11_pf (by rw [dec11_encV hx hl]) h
  cases this
/-! one pattern alone -/
theorem wayS_ge {xs : List Nat} (hn : xs ≠ []) (hl : xs.length ≤ 65536) {t : Nat} (ht : t < 4) (h : (wayS xs t).2 = 0) : 8 ≤ (wayS xs t).1.length := by
  have h1 : 0 < xs.length := by cases xs with | nil => exact absurd rfl hn | cons y r => simp
  rcases wayS_cases ht hl with ⟨rfl, e⟩ | ⟨rfl, e⟩ | ⟨rfl, e⟩ | ⟨rfl, e⟩
  · rw [e]; simp only [encP_len]; omega
  · rw [e] at h ⊢
    split at h
    · cases h
    · rename_i hq
      rw [if_neg hq]
      simp only [encP_len, List.length_take]; omega
  · rw [e]
    simp only [enc10_len]
    have hd : 0 < (dd xs).length := by
      cases hx : xs with
      | nil => exact absurd hx hn
      | cons y r => exact List.length_pos_of_mem ((dd_mem (y :: r) y).2 (by simp))
    omega
  · rw [e]
    simp only [enc09_len]
    obtain ⟨s, hs⟩ := gF_prefix xs 1 h1
    have hti : xs.take 1 = [xs[0]] := by
      have := List.take_add_one (l := xs) (i := 0)
      rw [this]; simp [h1]
    rw [hti] at hs
    have hg : (gF [xs[0]]).1 = binB xs[0] 64 := rfl
    rw [hg] at hs
    have := congrArg List.length hs
    rw [List.length_append, binB_len] at this
    omega
theorem encV_one {v k : Nat} (hk : 1 ≤ k) (hl : k ≤ 65536) : (encV (List.replicate k v)).1.length = 9 := by
  have hlen : (List.replicate k v).length = k := List.length_replicate
  have hn : List.replicate k v ≠ [] := fun h => by have := congrArg List.length h; simp at this; omega
  obtain ⟨h1, h2⟩ := bestB_way (xs := List.replicate k v) (by omega) 3
  have ht := bestB_tag (List.replicate k v) 3
  have hge := wayS_ge hn (by omega) (by omega) h1
  have hw : wayS (List.replicate k v) ((1 : Nat) : Int) = (encP ((List.replicate k v).take 1), 0) := by
    rcases wayS_cases (xs := List.replicate k v) (t := 1) (by omega) (by omega) with ⟨h, _⟩ | ⟨_, e⟩ | ⟨h, _⟩ | ⟨h, _⟩
    · omega
    · rw [e, if_neg]
      rintro (h | h)
      · have : oneV (List.replicate k v) = true := by
          rw [oneV, List.all_eq_true]
          intro x hx
          have hd : (List.replicate k v).getD 0 0 = v := by
            rw [List.getD_eq_getElem?_getD, List.getElem?_replicate, if_pos (by omega)]; rfl
          rw [hd, List.eq_of_mem_replicate hx]; simp
        rw [h] at this; cases this
      · exact hn h
    · omega
    · omega
  have hmin := bestB_min (xs := List.replicate k v) (by omega) 3 1 (by omega) (by rw [hw])
  rw [hw, encP_len, List.length_take, hlen] at hmin
  rw [← h2] at hge
  rw [encV_ok (by omega)]
  simp only [List.length_cons]
  omega
end Go.Ck

set_option linter.unusedVariables false
namespace Go.Ck
/-- The lowest bits of an int. -/
theorem and_low (c : Int) (k : Nat) (hk : k ≤ 62) : ∃ m : Nat, m < 2 ^ k ∧ ibits .and .i64 c ((2 ^ k - 1 : Nat) : Int) = (m : Int) := by
  refine ⟨(BitVec.ofInt 64 c).toNat % 2 ^ k, Nat.mod_lt _ (Nat.two_pow_pos k), ?_⟩
  have h1 : 2 ^ k ≤ 2 ^ 62 := Nat.pow_le_pow_right (by omega) hk
  have h0 := Nat.two_pow_pos k
  simp only [ibits, ofInt_nat, BitVec.toNat_and, BitVec.toNat_ofNat]
  rw [show IntKind.i64.bits = 64 from rfl, Nat.mod_eq_of_lt (a := 2 ^ k - 1) (by omega), Nat.and_two_pow_sub_one_eq_mod]
  have h2 := Nat.mod_lt (BitVec.ofInt 64 c).toNat h0
  exact wrap_i64_nat (by omega)
end Go.Ck

set_option linter.unusedVariables false
set_option maxRecDepth 10000
set_option maxHeartbeats 1000000
namespace Go.Ck
open Go.Proofs

theorem law11back_fn (xs : List Nat) (cut : Int) (y : Nat) (hx : ∀ x ∈ xs, x < 2 ^ 64) (hy : y < 256) : Fn Tryd.prog 6 [] [.pv (.sl 1 (u64s xs)), .pv (.int .i64 cut), .pv (.int .u8 y)] (fun rs H' => rs = [.pv (.bool true)] ∧ H' = []) := by
  refine Fn.of_body (fn := Tryd.f6) (n := 80) (res := [.tmp 6]) (by kernel_rfl) rfl rfl rfl rfl rfl (fun C => ?_)
  have hr : room = 140737488355328 := rfl
  refine AW.go ?_
  refine AW.callE (fun _ => 0) awake11_fn .nil ?_
  refine AW.go ?_
  refine AW.cond rfl (fun hc => ?_) (fun hc => ?_)
  · refine AW.go ?_
    refine AW.finE (.pv _ .nil) rfl
  have hl : xs.length ≤ 300 := by simp at hc; omega
  have hok := encV_ok (xs := xs) (by omega)
  have hdec := dec11_encV hx (by omega)
  have hcut := @encV_cut xs hx (by omega)
  have hmore := encV_more hx (by omega) y
  have hby := encV_byte xs
  have hbl := encV_len xs
  have he : (encV xs).2 = 0 := by rw [hok]
  refine AW.go ?_
  refine AW.callE (fun _ => 0) (encV_fn xs hx) (.pv _ .nil) ?_
  generalize encV xs = b at *
  obtain ⟨b, e⟩ := b
  simp only at he hdec hcut hmore hby hbl ⊢
  subst he
  clear hok
  refine AW.freeze (p := .part 24 0) (by simp only [go_sem, ↓reduceIte, freeze, freezeO] <;> rfl) ?_
  refine AW.go ?_
  refine AW.callE (fun _ => 0) (vdec_fn b xs.length (by omega) hby) (.pv _ (.pv _ .nil)) ?_
  rw [hdec]
  refine AW.gg ?_
  refine AW.guardT rfl rfl ?_
  refine AW.callE (fun _ => 0) (law11same_fn xs xs (by omega)) (.lend rfl co_38 (.pv _ .nil)) ?_
  refine AW.gg ?_ (by simp only [go_sem, ↓reduceIte, decide_true] <;> rfl)
  refine AW.condF rfl ?_
  obtain ⟨k, hk, ek⟩ := and_low cut 12 (by omega)
  have ek : ibits .and .i64 cut 4095 = (k : Int) := ek
  refine AW.go ?_ (by simp only [go_sem, ↓reduceIte, ek] <;> rfl)
  have hby2 : ∀ x ∈ b ++ [y], x < 256 := fun x hx => by
    rcases List.mem_append.1 hx with h | h
    · exact hby x h
    · simp at h; omega
  have h1 : b.length ≤ room := by omega
  have h2 : b.length + 1 ≤ room := by omega
  refine AW.joinS (fun _ : Unit => ⟨80, [(7, .pv (.bool true)), (8, .pv (.sl 1 (bytes b))), (0, .pv (.sl 1 (u64s xs))), (2, .pv (.int .u8 y))], []⟩) (fun _ => True) [7, 8, 0, 2] [] ?_ ?_
  · intro K hK
    refine AW.cond rfl (fun hc => ?_) (fun hc => ?_)
    · have hkb : k < b.length := by simpa using hc
      have hkb2 : k ≤ b.length := by omega
      refine AW.go ?_ (by simp only [go_sem, ↓reduceIte, hkb2, Int.sub_zero, List.drop_zero] <;> rfl)
      refine AW.callE (fun _ => 0) (vdec_fn (b.take k) xs.length (by simp; omega) (fun x hx => hby x (List.mem_of_mem_take hx))) (.pv _ (.pv _ .nil)) ?_
      have hne := hcut hkb
      generalize dec11 (b.take k) xs.length = q at *
      have e0 : (q.2 == 0) = false := by simpa using hne
      refine AW.go ?_ (by simp only [go_sem, ↓reduceIte, e0] <;> rfl)
      refine AW.condF rfl ?_
      refine AW.go ?_
      exact AW.meet hK () trivial
    · refine AW.go ?_
      exact AW.meet hK () trivial
  rintro _ -
  refine AW.go ?_ (by simp only [go_sem, ↓reduceIte, List.nil_append, h1, h2, Nat.zero_add, bytes_one] <;> rfl)
  refine AW.callE (fun _ => 0) (vdec_fn (b ++ [y]) xs.length (by simp; omega) hby2) (.lend rfl co_5 (.pv _ .nil)) ?_
  generalize dec11 (b ++ [y]) xs.length = q at *
  have e0 : (q.2 != 0) = true := by simpa using hmore
  refine AW.gg ?_ (by simp only [go_sem, ↓reduceIte, e0] <;> rfl)
  refine AW.finE (.pv _ .nil) rfl

theorem law11only_fn (l : List Nat) (n w : Int) (hb : ∀ x ∈ l, x < 256) : Fn Tryd.prog 7 [] [.pv (.sl 1 (bytes l)), .pv (.int .i64 n), .pv (.int .i64 w)] (fun rs H' => rs = [.pv (.bool true)] ∧ H' = []) := by
  refine Fn.of_body (fn := Tryd.f7) (n := 76) (res := [.tmp 6]) (by kernel_rfl) rfl rfl rfl rfl rfl (fun C => ?_)
  have hr : room = 140737488355328 := rfl
  have ee : ∀ e : Int, (e == e) = true := fun e => by simp
  refine AW.go ?_
  refine AW.callE (fun _ => 0) awake11_fn .nil ?_
  by_cases h1 : 300 < l.length
  · have d1 : decide ((l.length : Int) > 300) = true := decide_eq_true (by omega)
    refine AW.gg ?_ (by simp only [go_sem, ↓reduceIte, d1] <;> rfl)
    refine AW.condT rfl ?_
    refine AW.go ?_
    refine AW.finE (.pv _ .nil) rfl
  have d1 : decide ((l.length : Int) > 300) = false := decide_eq_false (by omega)
  by_cases h2 : 600 < n
  · have d2 : decide (n > 600) = true := decide_eq_true (by omega)
    refine AW.gg ?_ (by simp only [go_sem, ↓reduceIte, d1, d2] <;> rfl)
    refine AW.condT rfl ?_
    refine AW.go ?_
    refine AW.finE (.pv _ .nil) rfl
  have d2 : decide (n > 600) = false := decide_eq_false (by omega)
  refine AW.gg ?_ (by simp only [go_sem, ↓reduceIte, d1, d2] <;> rfl)
  refine AW.condF rfl ?_
  refine AW.go ?_
  refine AW.callE (fun _ => 0) (vdec_fn l n (by omega) hb) (.pv _ (.pv _ .nil)) ?_
  have hok := @dec11_ok l n
  have hn := @dec11_n l n
  have hbad := @dec11_bad l n
  generalize dec11 l n = q at *
  obtain ⟨xs, e⟩ := q
  simp only at hok hn hbad ⊢
  refine AW.go ?_
  refine AW.cond rfl (fun hc => ?_) (fun hc => ?_)
  · have hne : e ≠ 0 := by simpa using hc
    have := hbad hne
    subst this
    refine AW.gg ?_
    refine AW.finE (.pv _ .nil) rfl
  have h0 : e = 0 := by simpa using hc
  subst h0
  obtain ⟨n0, n1, t, r, rfl, ht, a1, a2, a3⟩ := hok rfl
  have hn := hn rfl
  have hxs : ∀ x ∈ xs, x < 2 ^ 64 := by rw [a2]; exact rd11_lt (fun x hx => hb x (by simp [hx])) _ _
  have hle : xs.length ≤ 65536 := by omega
  have hen := encV_ok hle
  have he2 : (encV xs).2 = 0 := by rw [hen]
  have hmin := @encV_min xs hle w
  refine AW.go ?_
  refine AW.callE (fun _ => 0) (encV_fn xs hxs) (.lend rfl co_38 .nil) ?_
  rw [a3, he2]
  refine AW.go ?_
  refine AW.callE (fun _ => 0) (way_fn xs w hxs) (.lend rfl co_38 (.pv _ .nil)) ?_
  have hnn : (xs.length : Int) = n := by omega
  have hwr := wayS_room xs w
  rw [a3] at hmin
  generalize wayS xs w = v at *
  obtain ⟨wb, we⟩ := v
  simp only at hmin hwr ⊢
  refine AW.gg ?_ (by simp only [go_sem, ↓reduceIte, hnn, ee] <;> rfl)
  refine AW.guardT rfl rfl ?_
  refine AW.callE (fun _ => 0) (ref01Same_fn (t :: r) (t :: r) (by omega)) (.lend rfl co_5 (.pv _ .nil)) ?_
  by_cases hw : we = 0
  · subst hw
    have hm := hmin rfl
    have e1 : IntKind.i64.wrap ((wb.length : Int) + 1) = ((wb.length + 1 : Nat) : Int) := wrap_i64_succ (by omega)
    have d3 : decide (r.length ≤ wb.length) = true := decide_eq_true (by simp at hm; omega)
    refine AW.gg ?_ (by simp only [go_sem, ↓reduceIte, decide_true, e1, d3] <;> rfl)
    refine AW.finE (.pv _ .nil) rfl
  · have e0 : (we != 0) = true := by simpa using hw
    refine AW.gg ?_ (by simp only [go_sem, ↓reduceIte, decide_true, e0] <;> rfl)
    refine AW.finE (.pv _ .nil) rfl

theorem law11sameLaw_fn (v : Nat) (n : Int) (xs : List Nat) (hv : v < 2 ^ 64) (hx : ∀ x ∈ xs, x < 2 ^ 64) : Fn Tryd.prog 8 [] [.pv (.int .u64 v), .pv (.int .i64 n), .pv (.sl 1 (u64s xs))] (fun rs H' => rs = [.pv (.bool true)] ∧ H' = []) := by
  refine Fn.of_body (fn := Tryd.f8) (n := 65) (res := [.tmp 6]) (by kernel_rfl) rfl rfl rfl rfl rfl (fun C => ?_)
  have hr : room = 140737488355328 := rfl
  have ee : ∀ e : Int, (e == e) = true := fun e => by simp
  refine AW.go ?_
  refine AW.callE (fun _ => 0) awake11_fn .nil ?_
  obtain ⟨m, hm, ek⟩ := and_low n 10 (by omega)
  have ek : ibits .and .i64 n 1023 = (m : Int) := ek
  have e1 : IntKind.i64.wrap (1 + (m : Int)) = ((m + 1 : Nat) : Int) := by rw [wrap_i64_of (by omega) (by omega)]; omega
  refine AW.go ?_ (by simp only [go_sem, ↓reduceIte, ek, e1] <;> rfl)
  refine AW.loopS (fun i : Nat => ⟨65, [(10, .pv (.int .i64 i)), (8, .pv (.int .i64 (m + 1 : Nat))), (9, .own 38 (u64s (List.replicate i v))), (0, .pv (.int .u64 v)), (2, .pv (.sl 1 (u64s xs))), (7, .pv (.bool true))], []⟩) (fun i => i ≤ m + 1) (fun i => m + 1 - i) [10, 8, 9, 0, 2, 7] [] 0 (Nat.zero_le _) ?_
  rintro i hi K hK
  refine AW.go ?_
  refine AW.cond rfl (fun hc => ?_) (fun hc => ?_)
  · have hlt : i < m + 1 := by simpa using hc
    have k1 : (i + 1) * 8 ≤ room := by omega
    have k2 : i + 1 ≤ room := by omega
    have ei : IntKind.i64.wrap ((i : Int) + 1) = ((i + 1 : Nat) : Int) := wrap_i64_succ (by omega)
    have er : List.replicate i v ++ [v] = List.replicate (i + 1) v := List.replicate_append_replicate (n := i) (m := 1)
    refine AW.go ?_ (by simp only [go_sem, ↓reduceIte, List.length_replicate, List.length_singleton, u64s_one, k1, k2, ei, er] <;> rfl)
    refine AW.again hK (i + 1) hlt (by omega)
  have hge : i = m + 1 := by simp at hc; omega
  subst hge
  have hlen := @encV_one v (m + 1) (by omega) (by omega)
  have he : (encV (List.replicate (m + 1) v)).2 = 0 := by rw [encV_ok (by simp; omega)]
  have hys : ∀ x ∈ List.replicate (m + 1) v, x < 2 ^ 64 := fun x hx => by rw [List.eq_of_mem_replicate hx]; exact hv
  generalize List.replicate (m + 1) v = ys at *
  refine AW.go ?_
  refine AW.callE (fun _ => 0) (encV_fn ys hys) (.lend rfl co_38 .nil) ?_
  generalize encV ys = q at *
  obtain ⟨b, e⟩ := q
  simp only at hlen he ⊢
  subst he
  refine AW.go ?_
  refine AW.cond rfl (fun hc2 => ?_) (fun hc2 => ?_)
  · refine AW.go ?_
    refine AW.finE (.pv _ .nil) rfl
  have hl : xs.length ≤ 300 := by simp at hc2; omega
  have hc1 := encV_len xs
  have he : (encV xs).2 = 0 := by rw [encV_ok (by omega)]
  refine AW.go ?_
  refine AW.callE (fun _ => 0) (encV_fn xs hx) (.pv _ .nil) ?_
  generalize encV xs = q at *
  obtain ⟨c, e⟩ := q
  simp only at hc1 he ⊢
  subst he
  have e9 : ((b.length : Int) == 9) = true := by rw [hlen]; rfl
  have e8 : IntKind.i64.wrap (8 * (xs.length : Int)) = ((8 * xs.length : Nat) : Int) := by rw [wrap_i64_of (by omega) (by omega)]; omega
  have e10 : IntKind.i64.wrap (1 + ((8 * xs.length : Nat) : Int)) = ((8 * xs.length + 1 : Nat) : Int) := by rw [wrap_i64_of (by omega) (by omega)]; omega
  have d3 : decide (c.length ≤ 8 * xs.length + 1) = true := decide_eq_true (by omega)
  refine AW.gg ?_ (by simp only [go_sem, ↓reduceIte, ee, e9, e8, e10, d3] <;> rfl)
  refine AW.finE (.pv _ .nil) rfl
end Go.Ck
