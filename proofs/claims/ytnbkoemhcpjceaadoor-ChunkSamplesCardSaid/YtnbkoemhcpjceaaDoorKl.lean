/- What is proved here: parts of the proofs of this seat's statements (a verified evaluator for calls over pure values, its laws, and contracts of functions). No condition. -/
import Derived.Test.YtnbkoemhcpjceaaDoorKk
set_option linter.all false
set_option linter.unusedVariables false
set_option maxRecDepth 10000
namespace Go.Ck
open Go.Proofs
theorem dictEnc_fn (xs : List Nat) (hx : ∀ x ∈ xs, x < 2 ^ 64) : Fn Tryd.prog 29 [] [.pv (.sl 1 (u64s xs))]
    (fun rs H' => rs = [.own 5 (bytes (if xs.length ≤ 65536 then enc10 xs else [])), .pv (.int .i64 (if xs.length ≤ 65536 then 0 else 4))] ∧ H' = []) := by
  refine Fn.of_body (fn := Tryd.f29) (n := 71) (res := [.tmp 2, .tmp 3]) (by kernel_rfl) rfl rfl rfl rfl rfl (fun C => ?_)
  have hr : room = 140737488355328 := rfl
  refine AW.go ?_
  refine AW.cond rfl (fun hc => ?_) (fun hc => ?_)
  · have hle : ¬ xs.length ≤ 65536 := by simp at hc; omega
    simp only [if_neg hle]
    refine AW.go ?_
    refine AW.finE (.move rfl (.pv _ .nil)) rfl
  have hle : xs.length ≤ 65536 := by simp at hc; omega
  simp only [if_pos hle]
  refine AW.go ?_
  refine AW.loopS (fun i : Nat => ⟨71, [(21, .pv (.int .i64 i)), (20, .pv (.int .i64 xs.length)), (19, .pv (.sl 1 (u64s xs))), (5, .own 5 (bytes ((dd (xs.take i)).flatMap fun x => beB x 8))), (4, .mp 18), (0, .pv (.sl 1 (u64s xs)))], [(18, .mp (ents (dd (xs.take i)) 0))]⟩) (fun i => i ≤ xs.length) (fun i => xs.length - i) [21, 20, 19, 5, 4, 0] [18] 0 (Nat.zero_le _) ?_
  · rintro i hi K hK
    refine AW.go ?_
    refine AW.cond rfl (fun hc => ?_) (fun hc => ?_)
    · have hlt : i < xs.length := by simpa using hc
      have hget := u64s_get hlt
      have hxx := hx _ (List.getElem_mem hlt)
      have hti : xs.take (i + 1) = xs.take i ++ [xs[i]] := by simp
      have hdl := dd_len (xs.take i)
      have htl : (xs.take i).length = i := by simp; omega
      generalize xs[i] = x at *
      have ei : IntKind.i64.wrap ((i : Int) + 1) = ((i + 1 : Nat) : Int) := wrap_i64_succ (by omega)
      have hds : dd (xs.take (i + 1)) = ddS (dd (xs.take i)) x := by rw [hti, dd_snoc]
      generalize dd (xs.take i) = d at *
      refine AW.go ?_ (by simp only [go_sem, ↓reduceIte, hget] <;> rfl)
      refine AW.lookup2 (ho := rfl) rfl rfl rfl (mlook_ents x d 0) tk_84 (by simp only [go_sem, ↓reduceIte, keyFits] <;> rfl) ze_3 ?_
      by_cases hm : x ∈ d
      · simp only [if_pos hm, mval]
        have hn : ¬ plc x d 0 < 0 := fun h => plc_neg.1 h hm
        rw [ddS, if_neg hn] at hds
        refine AW.go ?_
        refine AW.condF rfl ?_
        refine AW.go ?_ (by simp only [go_sem, ↓reduceIte, ei] <;> rfl)
        refine AW.again hK (i + 1) hlt (by omega) (by simp only [go_sem, ↓reduceIte]) (by simp only [go_sem, ↓reduceIte, hds] <;> rfl)
      · simp only [if_neg hm, mval]
        have hn : plc x d 0 < 0 := plc_neg.2 hm
        rw [ddS, if_pos hn] at hds
        refine AW.go ?_
        refine AW.condT rfl ?_
        refine AW.go ?_ (by simp only [go_sem, ↓reduceIte, ents_len] <;> rfl)
        refine AW.mapSet (ho := rfl) rfl rfl rfl rfl (mset_ents x _ d 0 hm) tk_84 (by simp only [go_sem, ↓reduceIte, keyFits] <;> rfl) ?_
        have hes := ents_snoc d 0 x
        rw [Nat.zero_add] at hes
        rw [← hes]
        refine AW.go ?_
        refine AW.callE (fun _ => 0) (fix_fn x 8 hxx (by omega)) (.pv _ (.pv _ .nil)) ?_
        have h2 : (d.flatMap fun x => beB x 8).length + (beB x 8).length ≤ room := by rw [be8_len, beB_len]; omega
        have hfn : (d ++ [x]).flatMap (fun x => beB x 8) = d.flatMap (fun x => beB x 8) ++ beB x 8 := by rw [List.flatMap_append]; simp
        refine AW.go ?_ (by simp only [go_sem, ↓reduceIte, h2, ei, ← hfn] <;> rfl)
        refine AW.again hK (i + 1) hlt (by omega) (by simp only [go_sem, ↓reduceIte]) (by simp only [go_sem, ↓reduceIte, hds] <;> rfl)
    have hge : ¬ i < xs.length := by simpa using hc
    rw [List.take_of_length_le (by omega)]
    have hdl := dd_len xs
    have hmem : ∀ y ∈ xs, y ∈ dd xs := fun y hy => (dd_mem xs y).2 hy
    unfold enc10 head10
    generalize dd xs = d at *
    clear hK hc hge
    have hu : IntKind.u64.wrap ((d.length : Nat) : Int) = (d.length : Nat) := wrap_u64_lt (by omega)
    refine AW.go ?_ (by simp only [go_sem, ↓reduceIte, ents_len, hu] <;> rfl)
    have h10 := leb_len10 (v := d.length) (by omega)
    refine AW.callE (fun _ => 0) (append_fn [] d.length (by omega) (by simp; omega)) (.nilsP 1 (.pv _ .nil)) ?_
    have hfl := be8_len d
    have h2 : (leb d.length).length + (d.flatMap fun x => beB x 8).length ≤ room := by omega
    have hw16 := wd_le (n := d.length) (by omega)
    refine AW.go ?_ (by simp only [go_sem, ↓reduceIte, List.nil_append, h2] <;> rfl)
    refine AW.nilsOwnAt (.cell 50 0) 5 ?_
    refine AW.loopS (fun i : Nat => ⟨71, [(53, .pv (.int .i64 i)), (52, .pv (.int .i64 xs.length)), (51, .pv (.sl 1 (u64s xs))), (12, .ptr 50 0), (11, .own 5 (bytes (leb d.length ++ d.flatMap fun x => beB x 8))), (4, .mp 18)], [(50, .cells 88 [.own 5 (bytes (pk (bits10 d (xs.take i)))), .pv (.int .i64 (bits10 d (xs.take i)).length)]), (18, .mp (ents d 0))]⟩) (fun i => i ≤ xs.length) (fun i => xs.length - i) [53, 52, 51, 12, 11, 4] [50, 18] 0 (Nat.zero_le _) ?_
    clear hi i
    rintro i hi K hK
    refine AW.go ?_
    refine AW.cond rfl (fun hc => ?_) (fun hc => ?_)
    · have hlt : i < xs.length := by simpa using hc
      have hget := u64s_get hlt
      have hin := hmem _ (List.getElem_mem hlt)
      obtain ⟨p, hp1, hp2, hp3⟩ := plc_mem (i := 0) hin
      have hti : xs.take (i + 1) = xs.take i ++ [xs[i]] := by simp
      have hbi := bits10_len d (xs.take i)
      have hfn : bits10 d (xs.take (i + 1)) = bits10 d (xs.take i) ++ binB p (wd d.length) := by
        rw [hti, bits10, List.flatMap_append, bits10]
        simp only [List.flatMap_cons, List.flatMap_nil, List.append_nil, hp1]
        congr 2; omega
      rw [List.length_take] at hbi
      rw [Nat.zero_add] at hp1
      generalize xs[i] = x at *
      have hml := mlook_ents x d 0
      rw [if_pos hin, hp1] at hml
      have ei : IntKind.i64.wrap ((i : Int) + 1) = ((i + 1 : Nat) : Int) := wrap_i64_succ (by omega)
      have eu : IntKind.u64.wrap ((p : Nat) : Int) = (p : Nat) := wrap_u64_lt (by omega)
      have hm : wd d.length * min i xs.length ≤ 16 * 65536 := Nat.mul_le_mul hw16 (by omega)
      have hput := wrPut_fn (bits10 d (xs.take i)) p (wd d.length) (bits10_bit d _) (by omega) (wd_lt hp2) (by rw [hbi]; omega)
      refine AW.go ?_ (by simp only [go_sem, ↓reduceIte, hget] <;> rfl)
      refine AW.any0 mixed ?_
      refine AW.takes (fuel := 5) [0, 1, 2, 5] ?_ (by simp only [go_sem, ↓reduceIte] <;> rfl) Ends.noPanic (listed' := #[true, true, true, false, false, true, false, false, false]) (by decide +kernel) (by decide +kernel)
      refine via (T := ?T) (fun hT => ?_) ?_
      rotate_left
      · refine AW.branch (rs := [3, 6]) ?_ (by decide +kernel) (by simp)
        intro j hj
        simp only [List.mem_cons, List.not_mem_nil, or_false] at hj
        rcases hj with rfl | rfl
        · refine AW.go ?_
          refine AW.lookup (ho := rfl) rfl rfl rfl hml tk_84 (by simp only [go_sem, ↓reduceIte, keyFits] <;> rfl) ze_3 ?_
          refine AW.go ?_
          refine AW.takes (fuel := 3) [4] ?_ (by simp only [go_sem, ↓reduceIte, mval, eu] <;> rfl) Ends.noPanic (listed' := #[true, true, true, true, true, true, false, false, false]) (by decide +kernel) (by decide +kernel)
          refine AW.seqs (fuel := 1) (listed' := #[true, true, true, true, true, true, true, true, false]) [6, 7] ?_ (by decide +kernel)
          refine AW.go ?_ (by simp only [go_sem, ↓reduceIte, ents_len] <;> rfl)
          refine AW.callE (fun _ => 0) (dictWidth_fn d.length (by omega)) (.pv _ .nil) ?_
          refine AW.go ?_
          refine AW.keepB [57, 61, 64, 53, 52, 51, 12, 11, 4] [50, 18] (by simp only [go_sem, ↓reduceIte]) (by simp only [go_sem, ↓reduceIte] <;> rfl) ?_
          exact hT ()
        · refine AW.go ?_ (by simp only [go_sem, ↓reduceIte, ents_len] <;> rfl)
          refine AW.branch (fuel := 3) (rs := [3, 7]) ?_ (by decide +kernel) (by simp)
          intro j hj
          simp only [List.mem_cons, List.not_mem_nil, or_false] at hj
          rcases hj with rfl | rfl
          · refine AW.go ?_
            refine AW.lookup (ho := rfl) rfl rfl rfl hml tk_84 (by simp only [go_sem, ↓reduceIte, keyFits] <;> rfl) ze_3 ?_
            refine AW.go ?_
            refine AW.takes (fuel := 2) [4] ?_ (by simp only [go_sem, ↓reduceIte, mval, eu] <;> rfl) Ends.noPanic (listed' := #[true, true, true, true, true, true, true, false, false]) (by decide +kernel) (by decide +kernel)
            refine AW.seqs (fuel := 1) (listed' := #[true, true, true, true, true, true, true, true, false]) [7] ?_ (by decide +kernel)
            refine AW.go ?_
            refine AW.callE (fun _ => 0) (dictWidth_fn d.length (by omega)) (.pv _ .nil) ?_
            refine AW.go ?_
            refine AW.keepB [57, 61, 64, 53, 52, 51, 12, 11, 4] [50, 18] (by simp only [go_sem, ↓reduceIte]) (by simp only [go_sem, ↓reduceIte] <;> rfl) ?_
            exact hT ()
          · refine AW.go ?_
            refine AW.callE (fun _ => 0) (dictWidth_fn d.length (by omega)) (.pv _ .nil) ?_
            refine AW.go ?_
            refine AW.seqs (fuel := 1) (listed' := #[true, true, true, true, true, true, true, true, false]) [3, 4] ?_ (by decide +kernel)
            refine AW.go ?_
            refine AW.lookup (ho := rfl) rfl rfl rfl hml tk_84 (by simp only [go_sem, ↓reduceIte, keyFits] <;> rfl) ze_3 ?_
            refine AW.go ?_ (by simp only [go_sem, ↓reduceIte, mval, eu] <;> rfl)
            refine AW.keepB [57, 61, 64, 53, 52, 51, 12, 11, 4] [50, 18] (by simp only [go_sem, ↓reduceIte]) (by simp only [go_sem, ↓reduceIte] <;> rfl) ?_
            exact hT ()
      refine AW.seqs (fuel := 0) (listed' := #[true, true, true, true, true, true, true, true, true]) [8] ?_ (by decide +kernel)
      refine AW.go ?_
      refine AW.callE (fun _ => 50) hput (.ptr rfl (.pv _ (.pv _ .nil))) ?_
      refine AW.go ?_
      refine AW.anyDone (by decide +kernel) ?_
      refine AW.go ?_ (by simp only [go_sem, ↓reduceIte, ei, ← hfn] <;> rfl)
      refine AW.again hK (i + 1) hlt (by omega)
    · have hge : ¬ i < xs.length := by simpa using hc
      rw [List.take_of_length_le (by omega)]
      have hbi := bits10_len d xs
      have hm : wd d.length * xs.length ≤ 16 * 65536 := Nat.mul_le_mul hw16 (by omega)
      refine AW.go ?_
      refine AW.callE (fun _ => 50) (wrBytes_fn (bits10 d xs) (by omega)) (.ptr rfl .nil) ?_
      have h3 : (leb d.length ++ d.flatMap fun x => beB x 8).length + (pk (bits10 d xs)).length ≤ room := by rw [List.length_append, hfl, pk_len]; omega
      refine AW.go ?_ (by simp only [go_sem, ↓reduceIte, h3] <;> rfl)
      refine AW.finE (.move rfl (.pv _ .nil)) rfl
end Go.Ck

set_option linter.unusedVariables false
set_option maxRecDepth 10000
namespace Go.Ck
open Go.Proofs
theorem dictionary_fn (r : List Nat) (u : Nat) (hu : u ≤ 65536) (hl : r.length ≤ 2 ^ 40) (hb : ∀ x ∈ r, x < 256) : Fn Tryd.prog 99 (curO r) [.ptr 1000 0, .pv (.int .u64 u)]
    (fun rs H' => rs = [.own 38 (u64s (if 8 * u ≤ r.length then dic r u else [])), .pv (.int .i64 (if 8 * u ≤ r.length then 0 else 2))] ∧ H' = curO (if 8 * u ≤ r.length then r.drop (8 * u) else r.drop (8 * (r.length / 8)))) := by
  refine Fn.of_body (fn := Tryd.f99) (n := 26) (res := [.tmp 4, .tmp 5]) (by kernel_rfl) rfl rfl rfl rfl rfl (fun C => ?_)
  have hr : room = 140737488355328 := rfl
  refine AW.go ?_
  refine AW.loopS (fun i : Nat => ⟨26, [(10, .pv (.int .u64 i)), (9, .pv (.int .u64 u)), (6, .own 38 (u64s (dic r i))), (0, .ptr 1000 0)], curO (r.drop (8 * i))⟩) (fun i => i ≤ u ∧ 8 * i ≤ r.length) (fun i => u - i) [10, 9, 6, 0] [1000] 0 ⟨Nat.zero_le _, by omega⟩ ?_
  rintro i ⟨hi, hi2⟩ K hK
  refine AW.go ?_
  refine AW.cond rfl (fun hc => ?_) (fun hc => ?_)
  · have hlt : i < u := by simpa using hc
    have hbd : ∀ x ∈ r.drop (8 * i), x < 256 := fun x hx => hb x (List.mem_of_mem_drop hx)
    have hdl : (r.drop (8 * i)).length = r.length - 8 * i := by simp
    refine AW.go ?_
    refine AW.callE id (curFixed_fn (r.drop (8 * i)) 8 (by omega) (by omega) hbd) (.ptr rfl (.pv _ .nil)) ?_
    refine AW.go ?_
    by_cases h8 : 8 ≤ (r.drop (8 * i)).length
    · simp only [if_pos h8]
      refine AW.condF rfl ?_
      have h1 : (i + 1) * 8 ≤ room := by omega
      have h2 : i + 1 ≤ room := by omega
      have ei : IntKind.u64.wrap ((i : Int) + 1) = ((i + 1 : Nat) : Int) := wrap_u64_lt (n := i + 1) (by omega)
      have hdr : (r.drop (8 * i)).drop 8 = r.drop (8 * (i + 1)) := by rw [List.drop_drop]; congr 1
      rw [hdr]
      refine AW.go ?_ (by simp only [go_sem, ↓reduceIte, dic_len, u64s_one, h1, h2, ei, ← dic_succ] <;> rfl)
      refine AW.again hK (i + 1) ⟨hlt, by omega⟩ (by omega)
    · simp only [if_neg h8]
      have hs : ¬ 8 * u ≤ r.length := by omega
      have hq : 8 * (r.length / 8) = 8 * i := by omega
      simp only [if_neg hs, hq]
      refine AW.condT rfl ?_
      refine AW.go ?_
      refine AW.finE (.move rfl (.pv _ .nil)) rfl
  · have hge : i = u := by simp at hc; omega
    subst hge
    simp only [if_pos hi2]
    refine AW.go ?_
    refine AW.finE (.move rfl (.pv _ .nil)) rfl

theorem dictDec_fn (l : List Nat) (n : Nat) (hn : n ≤ 65536) (hl : l.length ≤ 2 ^ 40) (hb : ∀ x ∈ l, x < 256) : Fn Tryd.prog 76 [] [.pv (.sl 1 (bytes l)), .pv (.int .i64 n)]
    (fun rs H' => rs = [.own 38 (u64s (dec10 l n).1), .pv (.int .i64 (dec10 l n).2)] ∧ H' = []) := by
  refine Fn.of_body (fn := Tryd.f76) (n := 101) (res := [.tmp 4, .tmp 5]) (by kernel_rfl) rfl rfl rfl rfl rfl (fun C => ?_)
  have hr : room = 140737488355328 := rfl
  have hle := readV_le l
  have hlt := readV_lt hb
  refine AW.gg ?_
  refine AW.condF (by simp only [go_sem, ↓reduceIte]; congr 3; simp; omega) ?_
  refine AW.go ?_
  refine AW.callE (fun o => if o = 7 then 26 else 0) (curNew_fn l (by omega)) (.pv _ .nil) ?_
  refine AW.go ?_
  refine AW.callE (fun _ => 26) (curVarint_fn l (by omega) hb) (.ptr rfl .nil) ?_
  refine AW.go ?_
  unfold dec10
  have hbr : ∀ x ∈ l.drop (readV l).2.1, x < 256 := fun x hx => hb x (List.mem_of_mem_drop hx)
  have hlr : (l.drop (readV l).2.1).length ≤ 2 ^ 40 := by simp; omega
  generalize l.drop (readV l).2.1 = r at *
  generalize (readV l).1 = u at *
  generalize (readV l).2.2 = e at *
  generalize (readV l).2.1 = k at *
  refine AW.cond rfl (fun hc => ?_) (fun hc => ?_)
  · have he : e ≠ 0 := by simpa using hc
    simp only [if_pos he]
    refine AW.go ?_
    refine AW.finE (.move rfl (.pv _ .nil)) rfl
  have he : ¬ e ≠ 0 := by simpa using hc
  simp only [if_neg he]
  have hu : IntKind.u64.wrap (n : Int) = (n : Int) := wrap_u64_lt (by omega)
  refine AW.go ?_ (by simp only [go_sem, ↓reduceIte, hu] <;> rfl)
  refine AW.cond rfl (fun hc => ?_) (fun hc => ?_)
  · have hnu : n < u := by simp at hc; omega
    simp only [if_pos hnu]
    refine AW.go ?_
    refine AW.finE (.move rfl (.pv _ .nil)) rfl
  have hnu : ¬ n < u := by simp at hc; omega
  simp only [if_neg hnu]
  refine AW.go ?_
  refine AW.callE (fun _ => 26) (dictionary_fn r u (by omega) hlr hbr) (.ptr rfl (.pv _ .nil)) ?_
  refine AW.go ?_
  unfold dec10b
  by_cases h8 : 8 * u ≤ r.length
  · have hs : ¬ r.length < 8 * u := by omega
    simp only [if_pos h8, if_neg hs]
    refine AW.condF rfl ?_
    have hw16 := wd_le (n := u) (by omega)
    have hbd : ∀ x ∈ r.drop (8 * u), x < 256 := fun x hx => hbr x (List.mem_of_mem_drop hx)
    have hdl : (r.drop (8 * u)).length = r.length - 8 * u := by simp
    refine AW.go ?_ (by simp only [go_sem, ↓reduceIte, dic_len] <;> rfl)
    refine AW.callE (fun _ => 0) (dictWidth_fn u (by omega)) (.pv _ .nil) ?_
    refine AW.go ?_
    have hnw : n * blen (u - 1) ≤ 65536 * 16 := Nat.mul_le_mul hn hw16
    have em : IntKind.i64.wrap (((n * blen (u - 1) : Nat) : Int)) = ((n * wd u : Nat) : Int) := wrap_i64_nat (by omega)
    refine AW.callE (fun _ => 26) (curLeft_fn (r.drop (8 * u))) (.ptr rfl .nil) ?_
    have e8 : IntKind.i64.wrap (8 * (((r.drop (8 * u)).length : Nat) : Int)) = ((8 * (r.length - 8 * u) : Nat) : Int) := by rw [hdl]; exact wrap_i64_nat (n := 8 * (r.length - 8 * u)) (by omega)
    refine AW.go ?_ (by simp only [go_sem, ↓reduceIte, em, e8] <;> rfl)
    refine AW.cond rfl (fun hc2 => ?_) (fun hc2 => ?_)
    · have h2 : 8 * (r.length - 8 * u) < n * wd u := by simp at hc2; omega
      simp only [if_pos h2]
      refine AW.go ?_
      refine AW.finE (.move rfl (.pv _ .nil)) rfl
    have h2 : ¬ 8 * (r.length - 8 * u) < n * wd u := by simp at hc2; omega
    simp only [if_neg h2]
    refine AW.go ?_
    refine AW.callE (fun _ => 26) (curLeft_fn (r.drop (8 * u))) (.ptr rfl .nil) ?_
    refine AW.go ?_
    refine AW.callE (fun _ => 26) (curBytes_fn (r.drop (8 * u)) (r.drop (8 * u)).length (by omega)) (.ptr rfl (.pv _ .nil)) ?_
    simp only [if_pos (Nat.le_refl _), List.take_length, List.drop_length]
    refine AW.freeze (p := .part 64 0) (by simp only [go_sem, ↓reduceIte, freeze, freezeO] <;> rfl) ?_
    refine AW.go ?_
    generalize hdr : r.drop (8 * u) = q at *
    refine AW.callE (fun o => if o = 6 then 68 else 0) (rdNew_fn q (by omega)) (.pv _ .nil) ?_
    refine AW.go ?_
    refine AW.loopS (fun j : Nat => ⟨101, [(70, .pv (.int .i64 j)), (69, .pv (.int .i64 n)), (14, .own 38 (u64s (pats r u j))), (13, .ptr 68 0), (10, .pv (.int .i64 (wd u : Nat))), (9, .own 38 (u64s (dic r u))), (0, .pv (.sl 1 (bytes l)))], [(68, .cells 136 [.pv (.sl 1 (bytes q)), .pv (.int .i64 (j * wd u : Nat))])]⟩) (fun j => j ≤ n ∧ fit10 r u j = true) (fun j => n - j) [70, 69, 14, 13, 10, 9, 0] [68] 0 ⟨Nat.zero_le _, rfl⟩ ?_ (by simp only [go_sem, ↓reduceIte]) (by simp only [go_sem, ↓reduceIte, Nat.zero_mul] <;> rfl)
    clear hc2
    rintro j ⟨hj, hfit⟩ K hK
    refine AW.go ?_
    refine AW.cond rfl (fun hc => ?_) (fun hc => ?_)
    · have hlt : j < n := by simpa using hc
      have hm : (j + 1) * wd u ≤ n * wd u := Nat.mul_le_mul_right _ hlt
      rw [Nat.succ_mul] at hm
      have hgl : j * wd u + wd u ≤ 8 * q.length := by omega
      refine AW.go ?_
      refine AW.callE (fun _ => 68) (rdGet_fn q (j * wd u) (wd u) (by omega) (by omega) (by omega) hbd) (.ptr rfl (.pv _ .nil)) ?_
      simp only [if_pos hgl]
      have hix : getB (unb q) (j * wd u) (wd u) = ixs r u j := by rw [ixs, hdr]
      rw [hix, show j * wd u + wd u = (j + 1) * wd u by rw [Nat.succ_mul]]
      have hui : IntKind.u64.wrap ((u : Nat) : Int) = (u : Nat) := wrap_u64_lt (by omega)
      refine AW.go ?_ (by simp only [go_sem, ↓reduceIte, dic_len, hui] <;> rfl)
      refine AW.cond rfl (fun hc2 => ?_) (fun hc2 => ?_)
      · have hx : ¬ ixs r u j < u := by simp at hc2; omega
        rw [if_pos (fit10_false hlt hx)]
        refine AW.go ?_
        refine AW.finE (.move rfl (.pv _ .nil)) rfl
      · have hx : ixs r u j < u := by simp at hc2; omega
        have hx2 : ixs r u j < (dic r u).length := by rw [dic_len]; exact hx
        have hget := u64s_get hx2
        rw [getD_get hx2] at hget
        have h1 : (j + 1) * 8 ≤ room := by omega
        have h2 : j + 1 ≤ room := by omega
        have ei : IntKind.i64.wrap ((j : Int) + 1) = ((j + 1 : Nat) : Int) := wrap_i64_succ (by omega)
        have hps := pats_succ r u j
        generalize (dic r u).getD (ixs r u j) 0 = y at *
        refine AW.go ?_ (by simp only [go_sem, ↓reduceIte, dic_len, hx, hget, pats_len, u64s_one, h1, h2, ei, ← hps] <;> rfl)
        refine AW.again hK (j + 1) ⟨hlt, ?_⟩ (by omega)
        rw [fit10_succ, hfit, decide_eq_true hx]; rfl
    have hge : j = n := by simp at hc; omega
    subst hge
    rw [if_neg (by rw [hfit]; exact Bool.noConfusion)]
    have hpl := pats_len r u j
    have hple : (pats r u j).length ≤ 65536 := by omega
    refine AW.go ?_
    refine AW.callE (fun _ => 0) (dictEnc_fn (pats r u j) (pats_lt r u j hbr)) (.lend rfl co_38 .nil) ?_
    simp only [if_pos hple]
    refine AW.go ?_
    refine AW.callE (fun _ => 0) (bytesEqual_fn (enc10 (pats r u j)) l (enc10_byte _) hb) (.lend rfl co_5 (.pv _ .nil)) ?_
    refine AW.go ?_
    refine AW.cond rfl (fun hc2 => ?_) (fun hc2 => ?_)
    · have hne : ¬ enc10 (pats r u j) = l := by simpa using hc2
      rw [if_neg hne]
      refine AW.go ?_
      refine AW.finE (.move rfl (.pv _ .nil)) rfl
    · have hne : enc10 (pats r u j) = l := by simpa using hc2
      rw [if_pos hne]
      refine AW.go ?_
      refine AW.finE (.move rfl (.pv _ .nil)) rfl
  · have hs : r.length < 8 * u := by omega
    simp only [if_neg h8, if_pos hs]
    refine AW.condT rfl ?_
    refine AW.go ?_
    refine AW.finE (.move rfl (.pv _ .nil)) rfl
end Go.Ck

set_option linter.unusedVariables false
namespace Go.Ck
def fitsW : Option (Nat × Nat) → Nat → Bool
  | none, _ => false
  | some (l, t), v => decide (l ≤ 64 - blen v) && decide (t ≤ tzn v)
/-- The window of a difference. -/
def newW (x : Nat) : Nat × Nat := (min (64 - blen x) 31, tzn x)
def winOK (w : Option (Nat × Nat)) : Prop := ∀ l t, w = some (l, t) → l + t ≤ 63 ∧ l ≤ 31
theorem tzn_blen {x : Nat} (h : x ≠ 0) : tzn x < blen x := tzn_lt h blen_lt
theorem newW_ok {x : Nat} (h : x ≠ 0) (hx : x < 2 ^ 64) : (newW x).1 + (newW x).2 ≤ 63 ∧ (newW x).1 ≤ 31 := by
  have := tzn_blen h
  have := blen_le.2 hx
  unfold newW
  simp only
  omega
theorem newW_fits {x : Nat} : (newW x).1 ≤ 64 - blen x ∧ (newW x).2 ≤ tzn x := by
  unfold newW
  simp only
  omega
theorem fit_lt {x l t : Nat} (hx : x < 2 ^ 64) (hl : l ≤ 64 - blen x) (hl2 : l + t ≤ 63) : x / 2 ^ t < 2 ^ (64 - l - t) := by
  rw [Nat.div_lt_iff_lt_mul (Nat.two_pow_pos t), ← Nat.pow_add]
  have hb := blen_le.2 hx
  have := @blen_lt x
  exact Nat.lt_of_lt_of_le this (Nat.pow_le_pow_right (by omega) (by omega))
/-- The bits of a difference, and the window behind it. -/
def gStep (w : Option (Nat × Nat)) (x : Nat) : List Nat × Option (Nat × Nat) :=
  if x = 0 then ([0], w) else match fitsW w x, w with
  | true, some (l, t) => ([1, 0] ++ binB (x / 2 ^ t) (64 - l - t), w)
  | _, _ => ([1, 1] ++ binB (newW x).1 5 ++ binB (63 - (newW x).1 - (newW x).2) 6 ++ binB (x / 2 ^ (newW x).2) (64 - (newW x).1 - (newW x).2), some (newW x))
def gS (a : List Nat × Option (Nat × Nat) × Option Nat) (v : Nat) : List Nat × Option (Nat × Nat) × Option Nat := match a.2.2 with
  | none => (binB v 64, a.2.1, some v)
  | some p => (a.1 ++ (gStep a.2.1 (v ^^^ p)).1, (gStep a.2.1 (v ^^^ p)).2, some v)
def gF (xs : List Nat) : List Nat × Option (Nat × Nat) × Option Nat := xs.foldl gS ([], none, none)
theorem gF_snoc (xs : List Nat) (v : Nat) : gF (xs ++ [v]) = gS (gF xs) v := by simp [gF]
theorem gF_last (xs : List Nat) : (gF xs).2.2 = xs.getLast? := by
  induction xs using snoc_ind with
  | h0 => rfl
  | h1 l b ih => rw [gF_snoc, gS]; cases (gF l).2.2 <;> simp
theorem gStep_zero (w : Option (Nat × Nat)) : gStep w 0 = ([0], w) := by simp [gStep]
theorem gStep_fits {l t x : Nat} (h0 : x ≠ 0) (h : fitsW (some (l, t)) x = true) : gStep (some (l, t)) x = ([1, 0] ++ binB (x / 2 ^ t) (64 - l - t), some (l, t)) := by
  simp [gStep, h0, h]
theorem gStep_new {w : Option (Nat × Nat)} {x : Nat} (h0 : x ≠ 0) (h : fitsW w x = false) : gStep w x = ([1, 1] ++ binB (newW x).1 5 ++ binB (63 - (newW x).1 - (newW x).2) 6 ++ binB (x / 2 ^ (newW x).2) (64 - (newW x).1 - (newW x).2), some (newW x)) := by
  unfold gStep
  rw [if_neg h0]
  split
  · rename_i h2; rw [h] at h2; cases h2
  · rfl
theorem gStep_ok {w : Option (Nat × Nat)} {x : Nat} (hw : winOK w) (hx : x < 2 ^ 64) : winOK (gStep w x).2 := by
  by_cases h0 : x = 0
  · subst h0; rw [gStep_zero]; exact hw
  · cases hf : fitsW w x with
    | true =>
      rcases w with _ | ⟨l, t⟩
      · simp [fitsW] at hf
      · rw [gStep_fits h0 hf]; exact hw
    | false =>
      rw [gStep_new h0 hf]
      intro l t h
      have := newW_ok h0 hx
      cases h
      exact this
theorem gStep_len {w : Option (Nat × Nat)} {x : Nat} : (gStep w x).1.length ≤ 77 := by
  by_cases h0 : x = 0
  · subst h0; rw [gStep_zero]; simp
  · cases hf : fitsW w x with
    | true =>
      rcases w with _ | ⟨l, t⟩
      · simp [fitsW] at hf
      · rw [gStep_fits h0 hf]; simp [binB_len]; omega
    | false => rw [gStep_new h0 hf]; simp [binB_len]; omega
theorem gF_ok (xs : List Nat) : (∀ x ∈ xs, x < 2 ^ 64) → winOK (gF xs).2.1 := by
  induction xs using snoc_ind with
  | h0 => intro _ l t h; cases h
  | h1 l b ih =>
    intro hx
    have ih := ih (fun x h => hx x (by simp [h]))
    have hl := gF_last l
    rw [gF_snoc, gS]
    cases hp : (gF l).2.2 with
    | none => exact ih
    | some p =>
      rw [hp] at hl
      have hpm : p ∈ l := List.mem_of_getLast? hl.symm
      exact gStep_ok ih (Nat.xor_lt_two_pow (hx b (by simp)) (hx p (by simp [hpm])))
theorem gF_len (xs : List Nat) : (gF xs).1.length ≤ 77 * xs.length := by
  induction xs using snoc_ind with
  | h0 => simp [gF]
  | h1 l b ih =>
    rw [gF_snoc, gS, List.length_append, List.length_singleton]
    cases (gF l).2.2 with
    | none => simp only [binB_len]; omega
    | some p => have := @gStep_len (gF l).2.1 (b ^^^ p); simp only [List.length_append]; omega
theorem gStep_bit {w : Option (Nat × Nat)} {x : Nat} : ∀ y ∈ (gStep w x).1, y < 2 := by
  by_cases h0 : x = 0
  · subst h0; rw [gStep_zero]; simp
  · cases hf : fitsW w x with
    | true =>
      rcases w with _ | ⟨l, t⟩
      · simp [fitsW] at hf
      · rw [gStep_fits h0 hf]
        intro y hy
        simp only [List.mem_append, List.mem_cons, List.not_mem_nil, or_false] at hy
        rcases hy with (rfl | rfl) | hy
        · omega
        · omega
        · exact binB_bit _ _ y hy
    | false =>
      rw [gStep_new h0 hf]
      intro y hy
      simp only [List.mem_append, List.mem_cons, List.not_mem_nil, or_false] at hy
      rcases hy with (((rfl | rfl) | hy) | hy) | hy
      · omega
      · omega
      all_goals exact binB_bit _ _ y hy
theorem gF_bit (xs : List Nat) : ∀ y ∈ (gF xs).1, y < 2 := by
  induction xs using snoc_ind with
  | h0 => simp [gF]
  | h1 l b ih =>
    rw [gF_snoc, gS]
    cases (gF l).2.2 with
    | none => exact binB_bit _ _
    | some p =>
      intro y hy
      simp only [List.mem_append] at hy
      rcases hy with hy | hy
      · exact ih y hy
      · exact gStep_bit y hy
def enc09 (xs : List Nat) : List Nat := pk (gF xs).1
end Go.Ck

set_option linter.unusedVariables false
set_option maxRecDepth 10000
namespace Go.Ck
open Go.Proofs
theorem eqWin : EqTwo Tryd.prog 92 := EqTwo.of (i := 3) (by kernel_rfl) (by kernel_rfl) (by kernel_rfl) (by kernel_rfl) (by kernel_rfl)

theorem none_fn : Fn Tryd.prog 58 [] [] (fun rs H' => rs = [.pv (.agg [.int .i64 (-1), .int .i64 0])] ∧ H' = []) := by
  refine Fn.of_body (fn := Tryd.f58) (n := 2) (res := [.cell 0 92]) (by kernel_rfl) rfl rfl rfl rfl rfl (fun C => ?_)
  refine AW.go ?_
  refine AW.finE (.pv _ .nil) rfl

theorem of_fn (v : Nat) (h0 : v ≠ 0) (hv : v < 2 ^ 64) : Fn Tryd.prog 60 [] [.pv (.int .u64 v)] (fun rs H' => rs = [.pv (.agg [.int .i64 ((min (64 - blen v) 31 : Nat) : Int), .int .i64 (tzn v : Nat)])] ∧ H' = []) := by
  refine Fn.of_body (fn := Tryd.f60) (n := 9) (res := [.cell 2 92]) (by kernel_rfl) rfl rfl rfl rfl rfl (fun C => ?_)
  refine AW.go ?_
  refine AW.callE (fun _ => 0) (lz_fn v hv) (.pv _ .nil) ?_
  have hm : (if (31 : Int) < ((64 - blen v : Nat) : Int) then (31 : Int) else ((64 - blen v : Nat) : Int)) = ((min (64 - blen v) 31 : Nat) : Int) := by split <;> omega
  refine AW.go ?_ (by simp only [go_sem, ↓reduceIte, hm] <;> rfl)
  have ht := tz_fn v hv
  rw [if_neg h0] at ht
  refine AW.callE (fun _ => 0) ht (.pv _ .nil) ?_
  refine AW.go ?_
  refine AW.finE (.pv _ .nil) rfl

theorem rest_fn (l t : Nat) (h : l + t ≤ 64) : Fn Tryd.prog 61 [] [.pv (.agg [.int .i64 l, .int .i64 t])] (fun rs H' => rs = [.pv (.int .i64 ((64 - l - t : Nat) : Int))] ∧ H' = []) := by
  refine Fn.of_body (fn := Tryd.f61) (n := 9) (res := [.tmp 2]) (by kernel_rfl) rfl rfl rfl rfl rfl (fun C => ?_)
  have e : IntKind.i64.wrap (IntKind.i64.wrap (64 - (l : Int)) - (t : Int)) = ((64 - l - t : Nat) : Int) := by
    rw [wrap_i64_of (n := 64 - (l : Int)) (by omega) (by omega), wrap_i64_of (by omega) (by omega)]; omega
  refine AW.go ?_ (by simp only [go_sem, ↓reduceIte, e] <;> rfl)
  refine AW.finE (.pv _ .nil) rfl

/-- A window, as it is kept. -/
def winV : Option (Nat × Nat) → PV
  | none => .agg [.int .i64 (-1), .int .i64 0]
  | some (l, t) => .agg [.int .i64 l, .int .i64 t]
theorem fits_fn (wn : Option (Nat × Nat)) (v : Nat) (h0 : v ≠ 0) (hv : v < 2 ^ 64) : Fn Tryd.prog 59 [] [.pv (winV wn), .pv (.int .u64 v)] (fun rs H' => rs = [.pv (.bool (fitsW wn v))] ∧ H' = []) := by
  refine Fn.of_body (fn := Tryd.f59) (n := 22) (res := [.tmp 4]) (by kernel_rfl) rfl rfl rfl rfl rfl (fun C => ?_)
  have ht := tz_fn v hv
  rw [if_neg h0] at ht
  rcases wn with _ | ⟨l, t⟩
  · simp only [winV, fitsW]
    refine AW.go ?_
    refine AW.any0 mixed ?_
    refine via (T := ?T1) (fun hT => ?_) ?_
    rotate_left
    · refine AW.branch (rs := [0, 1]) ?_ (by decide +kernel) (by simp)
      intro j hj
      simp only [List.mem_cons, List.not_mem_nil, or_false] at hj
      rcases hj with rfl | rfl
      · refine AW.go ?_
        refine AW.seqs (fuel := 16) (listed' := #[true, true, false, false, false, false, false, false, false, false, false, false, false, false, false, false, false, false]) [1] ?_ (by decide +kernel)
        refine AW.go ?_
        refine AW.callE (fun _ => 0) none_fn .nil ?_
        refine AW.go ?_
        refine AW.keepB [2, 4, 5, 6, 1] [2] (by simp only [go_sem, ↓reduceIte]) (by simp only [go_sem, ↓reduceIte] <;> rfl) ?_
        exact hT ()
      · refine AW.go ?_
        refine AW.callE (fun _ => 0) none_fn .nil ?_
        refine AW.go ?_
        refine AW.seqs (fuel := 16) (listed' := #[true, true, false, false, false, false, false, false, false, false, false, false, false, false, false, false, false, false]) [0] ?_ (by decide +kernel)
        refine AW.go ?_
        refine AW.keepB [2, 4, 5, 6, 1] [2] (by simp only [go_sem, ↓reduceIte]) (by simp only [go_sem, ↓reduceIte] <;> rfl) ?_
        exact hT ()
    refine AW.seqs (fuel := 14) (listed' := #[true, true, true, true, false, false, false, false, false, false, false, false, false, false, false, false, false, false]) [2, 3] ?_ (by decide +kernel)
    refine AW.go ?_
    refine AW.neq2 (ho := rfl) eqWin rfl rfl ?_
    refine AW.gg ?_
    refine AW.takes (fuel := 11) [4, 6, 7] ?_ (by simp only [go_sem, ↓reduceIte] <;> rfl) Ends.noPanic (listed' := #[true, true, true, true, true, false, true, true, false, false, false, false, false, false, false, false, false, false]) (by decide +kernel) (by decide +kernel)
    refine AW.seqs (fuel := 7) (listed' := #[true, true, true, true, true, true, true, true, true, true, true, false, false, false, false, false, false, false]) [5, 8, 9, 10] ?_ (by decide +kernel)
    refine AW.gg ?_
    refine AW.takes (fuel := 4) [11, 13, 14] ?_ (by simp only [go_sem, ↓reduceIte] <;> rfl) Ends.noPanic (listed' := #[true, true, true, true, true, true, true, true, true, true, true, true, false, true, true, false, false, false]) (by decide +kernel) (by decide +kernel)
    refine AW.seqs (fuel := 0) (listed' := #[true, true, true, true, true, true, true, true, true, true, true, true, true, true, true, true, true, true]) [12, 15, 16, 17] ?_ (by decide +kernel)
    refine AW.gg ?_
    refine AW.anyDone (by decide +kernel) ?_
    refine AW.go ?_
    refine AW.finE (.pv _ .nil) rfl
  · simp only [winV, fitsW]
    refine AW.go ?_
    refine AW.any0 mixed ?_
    refine via (T := ?T2) (fun hT => ?_) ?_
    rotate_left
    · refine AW.branch (rs := [0, 1]) ?_ (by decide +kernel) (by simp)
      intro j hj
      simp only [List.mem_cons, List.not_mem_nil, or_false] at hj
      rcases hj with rfl | rfl
      · refine AW.go ?_
        refine AW.seqs (fuel := 16) (listed' := #[true, true, false, false, false, false, false, false, false, false, false, false, false, false, false, false, false, false]) [1] ?_ (by decide +kernel)
        refine AW.go ?_
        refine AW.callE (fun _ => 0) none_fn .nil ?_
        refine AW.go ?_
        refine AW.keepB [2, 4, 5, 6, 1] [2] (by simp only [go_sem, ↓reduceIte]) (by simp only [go_sem, ↓reduceIte] <;> rfl) ?_
        exact hT ()
      · refine AW.go ?_
        refine AW.callE (fun _ => 0) none_fn .nil ?_
        refine AW.go ?_
        refine AW.seqs (fuel := 16) (listed' := #[true, true, false, false, false, false, false, false, false, false, false, false, false, false, false, false, false, false]) [0] ?_ (by decide +kernel)
        refine AW.go ?_
        refine AW.keepB [2, 4, 5, 6, 1] [2] (by simp only [go_sem, ↓reduceIte]) (by simp only [go_sem, ↓reduceIte] <;> rfl) ?_
        exact hT ()
    have hne : (!((l : Int) == -1 && (t : Int) == 0)) = true := by simp
    refine AW.seqs (fuel := 14) (listed' := #[true, true, true, true, false, false, false, false, false, false, false, false, false, false, false, false, false, false]) [2, 3] ?_ (by decide +kernel)
    refine AW.go ?_
    refine AW.neq2 (ho := rfl) eqWin rfl rfl ?_
    rw [hne]
    refine AW.gg ?_
    refine AW.takes (fuel := 12) [4, 6] ?_ (by simp only [go_sem, ↓reduceIte] <;> rfl) Ends.noPanic (listed' := #[true, true, true, true, true, false, true, false, false, false, false, false, false, false, false, false, false, false]) (by decide +kernel) (by decide +kernel)
    refine via (T := ?T3) (fun hT => ?_) ?_
    rotate_left
    · refine AW.branch (fuel := 11) (rs := [5, 7]) ?_ (by decide +kernel) (by simp)
      intro j hj
      simp only [List.mem_cons, List.not_mem_nil, or_false] at hj
      rcases hj with rfl | rfl
      · refine AW.gg ?_
        refine AW.guardT rfl rfl ?_
        refine AW.callE (fun _ => 0) (lz_fn v hv) (.pv _ .nil) ?_
        refine AW.go ?_
        refine AW.seqs (fuel := 10) (listed' := #[true, true, true, true, true, true, true, true, false, false, false, false, false, false, false, false, false, false]) [7] ?_ (by decide +kernel)
        refine AW.gg ?_
        refine AW.keepB [2, 4, 8, 10, 12, 1] [2] (by simp only [go_sem, ↓reduceIte]) (by simp only [go_sem, ↓reduceIte] <;> rfl) ?_
        exact hT ()
      · refine AW.gg ?_
        refine AW.seqs (fuel := 10) (listed' := #[true, true, true, true, true, true, true, true, false, false, false, false, false, false, false, false, false, false]) [5] ?_ (by decide +kernel)
        refine AW.gg ?_
        refine AW.guardT rfl rfl ?_
        refine AW.callE (fun _ => 0) (lz_fn v hv) (.pv _ .nil) ?_
        refine AW.gg ?_
        refine AW.keepB [2, 4, 8, 10, 12, 1] [2] (by simp only [go_sem, ↓reduceIte]) (by simp only [go_sem, ↓reduceIte] <;> rfl) ?_
        exact hT ()
    have hge : decide (((64 - blen v : Nat) : Int) ≥ (l : Int)) = decide (l ≤ 64 - blen v) := by rw [Bool.eq_iff_iff]; simp
    refine AW.seqs (fuel := 7) (listed' := #[true, true, true, true, true, true, true, true, true, true, true, false, false, false, false, false, false, false]) [8, 9, 10] ?_ (by decide +kernel)
    by_cases hl : l ≤ 64 - blen v
    · have hl2 : decide (l ≤ 64 - blen v) = true := decide_eq_true hl
      rw [hl2] at hge ⊢
      refine AW.gg ?_ (by simp only [go_sem, ↓reduceIte, hl2] <;> rfl)
      refine AW.takes (fuel := 5) [11, 13] ?_ (by simp only [go_sem, ↓reduceIte] <;> rfl) Ends.noPanic (listed' := #[true, true, true, true, true, true, true, true, true, true, true, true, false, true, false, false, false, false]) (by decide +kernel) (by decide +kernel)
      refine via (T := ?T8) (fun hT => ?_) ?_
      rotate_left
      · refine AW.branch (fuel := 4) (rs := [12, 14]) ?_ (by decide +kernel) (by simp)
        intro j hj
        simp only [List.mem_cons, List.not_mem_nil, or_false] at hj
        rcases hj with rfl | rfl
        · refine AW.gg ?_
          refine AW.guardT rfl rfl ?_
          refine AW.callE (fun _ => 0) ht (.pv _ .nil) ?_
          refine AW.go ?_
          refine AW.seqs (fuel := 3) (listed' := #[true, true, true, true, true, true, true, true, true, true, true, true, true, true, true, false, false, false]) [14] ?_ (by decide +kernel)
          refine AW.gg ?_
          refine AW.keepB [4, 15, 17, 19] [] (by simp only [go_sem, ↓reduceIte]) (by simp only [go_sem, ↓reduceIte] <;> rfl) ?_
          exact hT ()
        · refine AW.gg ?_
          refine AW.seqs (fuel := 3) (listed' := #[true, true, true, true, true, true, true, true, true, true, true, true, true, true, true, false, false, false]) [12] ?_ (by decide +kernel)
          refine AW.gg ?_
          refine AW.guardT rfl rfl ?_
          refine AW.callE (fun _ => 0) ht (.pv _ .nil) ?_
          refine AW.gg ?_
          refine AW.keepB [4, 15, 17, 19] [] (by simp only [go_sem, ↓reduceIte]) (by simp only [go_sem, ↓reduceIte] <;> rfl) ?_
          exact hT ()
      refine AW.seqs (fuel := 0) (listed' := #[true, true, true, true, true, true, true, true, true, true, true, true, true, true, true, true, true, true]) [15, 16, 17] ?_ (by decide +kernel)
      have hge2 : decide (((tzn v : Nat) : Int) ≥ (t : Int)) = decide (t ≤ tzn v) := by rw [Bool.eq_iff_iff]; simp
      refine AW.gg ?_
      refine AW.anyDone (by decide +kernel) ?_
      refine AW.go ?_
      refine AW.finE (.pv _ .nil) ?_
      simp
    · have hl2 : decide (l ≤ 64 - blen v) = false := decide_eq_false hl
      rw [hl2] at hge ⊢
      refine AW.gg ?_ (by simp only [go_sem, ↓reduceIte, hl2] <;> rfl)
      refine AW.takes (fuel := 4) [11, 13, 14] ?_ (by simp only [go_sem, ↓reduceIte] <;> rfl) Ends.noPanic (listed' := #[true, true, true, true, true, true, true, true, true, true, true, true, false, true, true, false, false, false]) (by decide +kernel) (by decide +kernel)
      refine AW.seqs (fuel := 0) (listed' := #[true, true, true, true, true, true, true, true, true, true, true, true, true, true, true, true, true, true]) [12, 15, 16, 17] ?_ (by decide +kernel)
      refine AW.gg ?_
      refine AW.anyDone (by decide +kernel) ?_
      refine AW.go ?_
      refine AW.finE (.pv _ .nil) rfl
end Go.Ck

set_option linter.unusedVariables false
set_option maxRecDepth 10000
set_option maxHeartbeats 1000000
namespace Go.Ck
open Go.Proofs
def winA : Option (Nat × Nat) → Int
  | none => -1
  | some (l, _) => l
theorem prevOf {xs : List Nat} {i : Nat} (h : i < xs.length) (h0 : i ≠ 0) : (gF (xs.take i)).2.2 = some (xs.getD (i - 1) 0) := by
  rw [gF_last, List.getLast?_eq_getElem?, List.length_take, List.getElem?_take, List.getD_eq_getElem?_getD]
  rw [show min i xs.length = i by omega, if_pos (by omega), List.getElem?_eq_getElem (by omega)]
  rfl

end Go.Ck

set_option linter.unusedVariables false
set_option maxRecDepth 10000
set_option maxHeartbeats 1000000
namespace Go.Ck
open Go.Proofs
def gwB : Option (Nat × Nat) → Int
  | none => 0
  | some (_, t) => t
theorem winV_eq (wn : Option (Nat × Nat)) : winV wn = .agg [.int .i64 (winA wn), .int .i64 (gwB wn)] := by
  rcases wn with _ | ⟨l, t⟩ <;> rfl

theorem gorEnc_fn (xs : List Nat) (hx : ∀ x ∈ xs, x < 2 ^ 64) : Fn Tryd.prog 30 [] [.pv (.sl 1 (u64s xs))]
    (fun rs H' => rs = [.own 5 (bytes (if xs.length ≤ 65536 then enc09 xs else [])), .pv (.int .i64 (if xs.length ≤ 65536 then 0 else 4))] ∧ H' = []) := by
  refine Fn.of_body (fn := Tryd.f30) (n := 71) (res := [.tmp 2, .tmp 3]) (by kernel_rfl) rfl rfl rfl rfl rfl (fun C => ?_)
  have hr : room = 140737488355328 := rfl
  refine AW.go ?_
  refine AW.cond rfl (fun hc => ?_) (fun hc => ?_)
  · have hle : ¬ xs.length ≤ 65536 := by simp at hc; omega
    simp only [if_neg hle]
    refine AW.go ?_
    refine AW.finE (.move rfl (.pv _ .nil)) rfl
  have hle : xs.length ≤ 65536 := by simp at hc; omega
  simp only [if_pos hle]
  refine AW.go ?_
  refine AW.callE (fun _ => 0) none_fn .nil ?_
  refine AW.go ?_
  refine AW.nilsOwnAt (.cell 13 0) 5 ?_
  refine AW.loopS (fun i : Nat => ⟨71, [(17, .pv (.int .i64 i)), (16, .pv (.int .i64 xs.length)), (15, .pv (.sl 1 (u64s xs))), (4, .ptr 13 0), (5, .ptr 5 0), (0, .pv (.sl 1 (u64s xs)))], [(13, .cells 88 [.own 5 (bytes (pk (gF (xs.take i)).1)), .pv (.int .i64 (gF (xs.take i)).1.length)]), (5, .cells 92 [.pv (.int .i64 (winA (gF (xs.take i)).2.1)), .pv (.int .i64 (gwB (gF (xs.take i)).2.1))])]⟩) (fun i => i ≤ xs.length) (fun i => xs.length - i) [17, 16, 15, 4, 5, 0] [13, 5] 0 (Nat.zero_le _) ?_
  rintro i hi K hK
  refine AW.go ?_
  refine AW.cond rfl (fun hc => ?_) (fun hc => ?_)
  · have hlt : i < xs.length := by simpa using hc
    have hget := u64s_get hlt
    have hxx := hx _ (List.getElem_mem hlt)
    have hti : xs.take (i + 1) = xs.take i ++ [xs[i]] := by simp
    have hsn := gF_snoc (xs.take i) xs[i]
    rw [← hti] at hsn
    have ei : IntKind.i64.wrap ((i : Int) + 1) = ((i + 1 : Nat) : Int) := wrap_i64_succ (by omega)
    have hgl := gF_len (xs.take i)
    have htl : (xs.take i).length = i := by simp; omega
    have hok := gF_ok (xs.take i) (fun x h => hx x (List.mem_of_mem_take h))
    have hbit := gF_bit (xs.take i)
    by_cases h0 : i = 0
    · subst h0
      generalize xs[0] = x at *
      have hg0 : gF (xs.take (0 + 1)) = (binB x 64, none, some x) := by rw [hsn]; rfl
      rw [show gF (xs.take 0) = ([], none, none) from rfl]
      refine AW.go ?_ (by simp only [go_sem, ↓reduceIte, hget] <;> rfl)
      refine AW.condT rfl ?_
      refine AW.go ?_
      refine AW.callE (fun _ => 13) (wrPut_fn [] x 64 (by simp) (by omega) hxx (by simp; omega)) (.ptr rfl (.pv _ (.pv _ .nil))) ?_
      refine AW.go ?_ (by simp only [go_sem, ↓reduceIte, List.nil_append, ei] <;> rfl)
      refine AW.again hK (0 + 1) hlt (by omega) (by simp only [go_sem, ↓reduceIte]) (by simp only [go_sem, ↓reduceIte, hg0, winA, gwB] <;> rfl)
    have hi1 : i - 1 < xs.length := by omega
    have hget1 := u64s_get hi1
    have hxx1 := hx _ (List.getElem_mem hi1)
    have hpr := prevOf hlt h0
    rw [← getD_get hi1] at hpr
    generalize xs[i] = x at *
    generalize xs[i - 1] = p at *
    have hgs : gS (gF (xs.take i)) x = ((gF (xs.take i)).1 ++ (gStep (gF (xs.take i)).2.1 (x ^^^ p)).1, (gStep (gF (xs.take i)).2.1 (x ^^^ p)).2, some x) := by rw [gS, hpr]
    rw [hgs] at hsn
    have hxo : x ^^^ p < 2 ^ 64 := Nat.xor_lt_two_pow hxx hxx1
    have ex := ibits_xor64 hxx hxx1
    have e0 : ((i : Int) == 0) = false := by simp; omega
    have e1 : IntKind.i64.wrap ((i : Int) - 1) = ((i - 1 : Nat) : Int) := by rw [wrap_i64_of (by omega) (by omega)]; omega
    clear hgs
    generalize x ^^^ p = y at *
    generalize gF (xs.take i) = g at *
    obtain ⟨bs, wn, pv⟩ := g
    simp only at hsn hgl hok hpr hbit ⊢
    refine AW.go ?_ (by simp only [go_sem, ↓reduceIte, hget] <;> rfl)
    refine AW.condF (by rw [← e0]; rfl) ?_
    refine AW.go ?_ (by simp only [go_sem, ↓reduceIte, hget1, e1, ex] <;> rfl)
    refine AW.joinS (fun a : Nat × Nat × List Nat => ⟨71, [(17, .pv (.int .i64 i)), (16, .pv (.int .i64 xs.length)), (15, .pv (.sl 1 (u64s xs))), (4, .ptr 13 0), (5, .ptr 5 0), (0, .pv (.sl 1 (u64s xs))), (8, .pv (.int .u64 y))], [(13, .cells 88 [.own 5 (bytes (pk a.2.2)), .pv (.int .i64 a.2.2.length)]), (5, .cells 92 [.pv (.int .i64 a.1), .pv (.int .i64 a.2.1)])]⟩)
      (fun a => a.1 + a.2.1 ≤ 63 ∧ a.1 ≤ 64 - blen y ∧ gF (xs.take (i + 1)) = (a.2.2 ++ binB (y / 2 ^ a.2.1) (64 - a.1 - a.2.1), some (a.1, a.2.1), some x) ∧ a.2.2.length ≤ bs.length + 13 ∧ ∀ z ∈ a.2.2, z < 2) [17, 16, 15, 4, 5, 0, 8] [13, 5] ?_ ?_
    · intro K' hK'
      refine AW.cond rfl (fun hc2 => ?_) (fun hc2 => ?_)
      · have hy : y = 0 := by simp at hc2; omega
        subst hy
        rw [gStep_zero] at hsn
        refine AW.go ?_
        refine AW.callE (fun _ => 13) (wrPut_fn bs 0 1 hbit (by omega) (by omega) (by omega)) (.ptr rfl (.pv _ (.pv _ .nil))) ?_
        have hb01 : binB 0 1 = [0] := rfl
        refine AW.go ?_ (by simp only [go_sem, ↓reduceIte, hb01, ei] <;> rfl)
        refine AW.again hK (i + 1) hlt (by omega) (by simp only [go_sem, ↓reduceIte]) (by simp only [go_sem, ↓reduceIte, hsn] <;> rfl)
      have hy : y ≠ 0 := by simp at hc2; omega
      have hfits := fits_fn wn y hy hxo
      rw [winV_eq] at hfits
      refine AW.go ?_
      refine AW.callE (fun _ => 0) hfits (.pv _ (.pv _ .nil)) ?_
      refine AW.go ?_
      refine AW.cond rfl (fun hf => ?_) (fun hf => ?_)
      · rcases wn with _ | ⟨l, t⟩
        · cases hf
        rw [gStep_fits hy hf] at hsn
        simp only [fitsW, Bool.and_eq_true] at hf
        obtain ⟨hf1, hf2⟩ := hf
        have hl1 : l ≤ 64 - blen y := by simpa using hf1
        refine AW.go ?_
        refine AW.callE (fun _ => 13) (wrPut_fn bs 2 2 hbit (by omega) (by omega) (by omega)) (.ptr rfl (.pv _ (.pv _ .nil))) ?_
        refine AW.go ?_
        refine AW.meet hK' (l, t, bs ++ binB 2 2) ⟨(hok l t rfl).1, hl1, ?_, by simp [binB_len], ?_⟩
        · simp only [hsn, Prod.mk.injEq, and_true]
          rw [List.append_assoc]; rfl
        · intro z hz
          simp only [List.mem_append] at hz
          rcases hz with hz | hz
          · exact hbit z hz
          · exact binB_bit _ _ z hz
      · rw [gStep_new hy hf] at hsn
        obtain ⟨hn1, hn2⟩ := newW_ok hy hxo
        have hn3 := (newW_fits (x := y)).1
        have hof := of_fn y hy hxo
        have hN : (min (64 - blen y) 31, tzn y) = newW y := rfl
        have hN1 : min (64 - blen y) 31 = (newW y).1 := rfl
        have hN2 : tzn y = (newW y).2 := rfl
        rw [hN1, hN2] at hof
        generalize newW y = nw at *
        obtain ⟨l, t⟩ := nw
        simp only at hn1 hn2 hn3 hsn hof
        have eul : IntKind.u64.wrap ((l : Nat) : Int) = (l : Nat) := wrap_u64_lt (by omega)
        have e63 : IntKind.u64.wrap (IntKind.i64.wrap (((64 - l - t : Nat) : Int) - 1)) = ((63 - l - t : Nat) : Int) := by
          rw [wrap_i64_of (by omega) (by omega), show ((64 - l - t : Nat) : Int) - 1 = ((63 - l - t : Nat) : Int) by omega]; exact wrap_u64_lt (by omega)
        refine AW.go ?_
        refine AW.callE (fun _ => 0) hof (.pv _ .nil) ?_
        refine AW.go ?_
        refine AW.callE (fun _ => 13) (wrPut_fn bs 3 2 hbit (by omega) (by omega) (by omega)) (.ptr rfl (.pv _ (.pv _ .nil))) ?_
        have hb1 : ∀ z ∈ bs ++ binB 3 2, z < 2 := fun z hz => (List.mem_append.1 hz).elim (hbit z) (binB_bit _ _ z)
        refine AW.go ?_ (by simp only [go_sem, ↓reduceIte, eul] <;> rfl)
        refine AW.callE (fun _ => 13) (wrPut_fn (bs ++ binB 3 2) l 5 hb1 (by omega) (by omega) (by simp [binB_len]; omega)) (.ptr rfl (.pv _ (.pv _ .nil))) ?_
        have hb2 : ∀ z ∈ bs ++ binB 3 2 ++ binB l 5, z < 2 := fun z hz => (List.mem_append.1 hz).elim (hb1 z) (binB_bit _ _ z)
        refine AW.go ?_
        refine AW.callE (fun _ => 0) (rest_fn l t (by omega)) (.pv _ .nil) ?_
        refine AW.go ?_ (by simp only [go_sem, ↓reduceIte, e63] <;> rfl)
        refine AW.callE (fun _ => 13) (wrPut_fn (bs ++ binB 3 2 ++ binB l 5) (63 - l - t) 6 hb2 (by omega) (by omega) (by simp [binB_len]; omega)) (.ptr rfl (.pv _ (.pv _ .nil))) ?_
        refine AW.go ?_
        refine AW.meet hK' (l, t, bs ++ binB 3 2 ++ binB l 5 ++ binB (63 - l - t) 6) ⟨hn1, hn3, ?_, by simp [binB_len], fun z hz => (List.mem_append.1 hz).elim (hb2 z) (binB_bit _ _ z)⟩
        simp only [hsn, Prod.mk.injEq, and_true]
        simp only [List.append_assoc]; rfl
    · rintro ⟨l, t, b2⟩ ⟨j1, j2, j3, j4, j5⟩
      simp only at j1 j2 j3 j4 j5 ⊢
      have hfit := fit_lt hxo j2 j1
      have esh : shrI .u64 ((y : Nat) : Int) ((t : Nat) : Int) = ((y / 2 ^ t : Nat) : Int) := shrI_nat .u64 y t (by show t ≤ 64; omega)
      refine AW.go ?_
      refine AW.any0 mixed ?_
      refine AW.takes (fuel := 5) [0, 1, 2] ?_ (by simp only [go_sem, ↓reduceIte] <;> rfl) Ends.noPanic (listed' := #[true, true, true, false, false, false, false, false]) (by decide +kernel) (by decide +kernel)
      refine via (T := ?T1) (fun hT => ?_) ?_
      rotate_left
      · refine AW.branch (fuel := 4) (rs := [3, 5]) ?_ (by decide +kernel) (by simp)
        intro j hj
        simp only [List.mem_cons, List.not_mem_nil, or_false] at hj
        rcases hj with rfl | rfl
        · refine AW.go ?_
          refine AW.takes (fuel := 3) [4] ?_ (by simp only [go_sem, ↓reduceIte, esh] <;> rfl) Ends.noPanic (listed' := #[true, true, true, true, true, false, false, false]) (by decide +kernel) (by decide +kernel)
          refine AW.seqs (fuel := 1) (listed' := #[true, true, true, true, true, true, true, false]) [5, 6] ?_ (by decide +kernel)
          refine AW.go ?_
          refine AW.callE (fun _ => 0) (rest_fn l t (by omega)) (.pv _ .nil) ?_
          refine AW.go ?_
          refine AW.keepB [17, 16, 15, 4, 5, 0, 60, 64, 66] [13, 5] (by simp only [go_sem, ↓reduceIte]) (by simp only [go_sem, ↓reduceIte] <;> rfl) ?_
          exact hT ()
        · refine AW.go ?_
          refine AW.branch (fuel := 3) (rs := [3, 6]) ?_ (by decide +kernel) (by simp)
          intro j hj
          simp only [List.mem_cons, List.not_mem_nil, or_false] at hj
          rcases hj with rfl | rfl
          · refine AW.go ?_
            refine AW.takes (fuel := 2) [4] ?_ (by simp only [go_sem, ↓reduceIte, esh] <;> rfl) Ends.noPanic (listed' := #[true, true, true, true, true, true, false, false]) (by decide +kernel) (by decide +kernel)
            refine AW.seqs (fuel := 1) (listed' := #[true, true, true, true, true, true, true, false]) [6] ?_ (by decide +kernel)
            refine AW.go ?_
            refine AW.callE (fun _ => 0) (rest_fn l t (by omega)) (.pv _ .nil) ?_
            refine AW.go ?_
            refine AW.keepB [17, 16, 15, 4, 5, 0, 60, 64, 66] [13, 5] (by simp only [go_sem, ↓reduceIte]) (by simp only [go_sem, ↓reduceIte] <;> rfl) ?_
            exact hT ()
          · refine AW.go ?_
            refine AW.callE (fun _ => 0) (rest_fn l t (by omega)) (.pv _ .nil) ?_
            refine AW.go ?_
            refine AW.seqs (fuel := 1) (listed' := #[true, true, true, true, true, true, true, false]) [3, 4] ?_ (by decide +kernel)
            refine AW.go ?_ (by simp only [go_sem, ↓reduceIte, esh] <;> rfl)
            refine AW.keepB [17, 16, 15, 4, 5, 0, 60, 64, 66] [13, 5] (by simp only [go_sem, ↓reduceIte]) (by simp only [go_sem, ↓reduceIte] <;> rfl) ?_
            exact hT ()
      refine AW.seqs (fuel := 0) (listed' := #[true, true, true, true, true, true, true, true]) [7] ?_ (by decide +kernel)
      refine AW.go ?_
      refine AW.callE (fun _ => 13) (wrPut_fn b2 (y / 2 ^ t) (64 - l - t) j5 (by omega) hfit (by omega)) (.ptr rfl (.pv _ (.pv _ .nil))) ?_
      refine AW.go ?_
      refine AW.anyDone (by decide +kernel) ?_
      refine AW.go ?_ (by simp only [go_sem, ↓reduceIte, ei] <;> rfl)
      refine AW.again hK (i + 1) hlt (by omega) (by simp only [go_sem, ↓reduceIte]) (by simp only [go_sem, ↓reduceIte, j3, winA, gwB] <;> rfl)
  · have hge : ¬ i < xs.length := by simpa using hc
    rw [List.take_of_length_le (by omega)]
    have hgl := gF_len xs
    refine AW.go ?_
    refine AW.callE (fun _ => 13) (wrBytes_fn (gF xs).1 (by omega)) (.ptr rfl .nil) ?_
    refine AW.go ?_
    refine AW.finE (.move rfl (.pv _ .nil)) rfl
end Go.Ck

set_option linter.unusedVariables false
namespace Go.Ck
def encP (xs : List Nat) : List Nat := xs.flatMap fun x => beB x 8
theorem encP_len (xs : List Nat) : (encP xs).length = 8 * xs.length := be8_len xs
def oneV (xs : List Nat) : Bool := xs.all fun x => x == xs.getD 0 0
def wayS (xs : List Nat) (w : Int) : List Nat × Int :=
  if w < 0 ∨ 4 ≤ w then ([], 1) else if 65536 < xs.length then ([], 4) else if w = 2 then (enc10 xs, 0) else if w = 3 then (enc09 xs, 0) else if w = 0 then (encP xs, 0)
  else if oneV xs = false ∨ xs = [] then ([], 1) else (encP (xs.take 1), 0)
end Go.Ck

set_option linter.unusedVariables false
set_option maxRecDepth 10000
set_option maxHeartbeats 1000000
namespace Go.Ck
open Go.Proofs
theorem plain_fn (xs : List Nat) (hl : xs.length ≤ 2 ^ 40) (hx : ∀ x ∈ xs, x < 2 ^ 64) : Fn Tryd.prog 31 [] [.pv (.sl 1 (u64s xs))] (fun rs H' => rs = [.own 5 (bytes (encP xs))] ∧ H' = []) := by
  refine Fn.of_body (fn := Tryd.f31) (n := 18) (res := [.tmp 2]) (by kernel_rfl) rfl rfl rfl rfl rfl (fun C => ?_)
  have hr : room = 140737488355328 := rfl
  refine AW.go ?_
  refine AW.loopS (fun i : Nat => ⟨18, [(8, .pv (.int .i64 i)), (7, .pv (.int .i64 xs.length)), (6, .pv (.sl 1 (u64s xs))), (3, .own 5 (bytes (encP (xs.take i))))], []⟩) (fun i => i ≤ xs.length) (fun i => xs.length - i) [8, 7, 6, 3] [] 0 (Nat.zero_le _) ?_
  rintro i hi K hK
  refine AW.go ?_
  refine AW.cond rfl (fun hc => ?_) (fun hc => ?_)
  · have hlt : i < xs.length := by simpa using hc
    have hget := u64s_get hlt
    have hxx := hx _ (List.getElem_mem hlt)
    have hti : xs.take (i + 1) = xs.take i ++ [xs[i]] := by simp
    have hel := encP_len (xs.take i)
    have hfn : encP (xs.take (i + 1)) = encP (xs.take i) ++ beB xs[i] 8 := by rw [hti, encP, List.flatMap_append]; simp [encP]
    rw [List.length_take] at hel
    generalize xs[i] = x at *
    have ei : IntKind.i64.wrap ((i : Int) + 1) = ((i + 1 : Nat) : Int) := wrap_i64_succ (by omega)
    refine AW.go ?_ (by simp only [go_sem, ↓reduceIte, hget] <;> rfl)
    refine AW.callE (fun _ => 0) (fix_fn x 8 hxx (by omega)) (.pv _ (.pv _ .nil)) ?_
    have h2 : (encP (xs.take i)).length + (beB x 8).length ≤ room := by rw [beB_len]; omega
    refine AW.go ?_ (by simp only [go_sem, ↓reduceIte, h2, ei, ← hfn] <;> rfl)
    refine AW.again hK (i + 1) hlt (by omega)
  · have hge : ¬ i < xs.length := by simpa using hc
    rw [List.take_of_length_le (by omega)]
    refine AW.go ?_
    refine AW.finE (.move rfl .nil) rfl

theorem fixed_fn (l : List Nat) (n : Nat) (hn : n ≤ 65536) (hl : l.length ≤ 2 ^ 40) (hb : ∀ x ∈ l, x < 256) : Fn Tryd.prog 74 (curO l) [.ptr 1000 0, .pv (.int .i64 n)]
    (fun rs H' => rs = [.own 38 (u64s (if 8 * n ≤ l.length then dic l n else [])), .pv (.int .i64 (if 8 * n ≤ l.length then (if l.drop (8 * n) = [] then 0 else 3) else 2))] ∧ H' = curO (if 8 * n ≤ l.length then l.drop (8 * n) else l.drop (8 * (l.length / 8)))) := by
  refine Fn.of_body (fn := Tryd.f74) (n := 28) (res := [.tmp 4, .tmp 5]) (by kernel_rfl) rfl rfl rfl rfl rfl (fun C => ?_)
  have hr : room = 140737488355328 := rfl
  refine AW.go ?_
  refine AW.loopS (fun i : Nat => ⟨28, [(10, .pv (.int .i64 i)), (9, .pv (.int .i64 n)), (6, .own 38 (u64s (dic l i))), (0, .ptr 1000 0)], curO (l.drop (8 * i))⟩) (fun i => i ≤ n ∧ 8 * i ≤ l.length) (fun i => n - i) [10, 9, 6, 0] [1000] 0 ⟨Nat.zero_le _, by omega⟩ ?_
  rintro i ⟨hi, hi2⟩ K hK
  refine AW.go ?_
  refine AW.cond rfl (fun hc => ?_) (fun hc => ?_)
  · have hlt : i < n := by simpa using hc
    have hbd : ∀ x ∈ l.drop (8 * i), x < 256 := fun x hx => hb x (List.mem_of_mem_drop hx)
    have hdl : (l.drop (8 * i)).length = l.length - 8 * i := by simp
    refine AW.go ?_
    refine AW.callE id (curFixed_fn (l.drop (8 * i)) 8 (by omega) (by omega) hbd) (.ptr rfl (.pv _ .nil)) ?_
    refine AW.go ?_
    by_cases h8 : 8 ≤ (l.drop (8 * i)).length
    · simp only [if_pos h8]
      refine AW.condF rfl ?_
      have h1 : (i + 1) * 8 ≤ room := by omega
      have h2 : i + 1 ≤ room := by omega
      have ei : IntKind.i64.wrap ((i : Int) + 1) = ((i + 1 : Nat) : Int) := wrap_i64_succ (by omega)
      have hdr : (l.drop (8 * i)).drop 8 = l.drop (8 * (i + 1)) := by rw [List.drop_drop]; congr 1
      rw [hdr]
      refine AW.go ?_ (by simp only [go_sem, ↓reduceIte, dic_len, u64s_one, h1, h2, ei, ← dic_succ] <;> rfl)
      refine AW.again hK (i + 1) ⟨hlt, by omega⟩ (by omega)
    · simp only [if_neg h8]
      have hs : ¬ 8 * n ≤ l.length := by omega
      have hq : 8 * (l.length / 8) = 8 * i := by omega
      simp only [if_neg hs, hq]
      refine AW.condT rfl ?_
      refine AW.go ?_
      refine AW.finE (.move rfl (.pv _ .nil)) rfl
  · have hge : i = n := by simp at hc; omega
    subst hge
    simp only [if_pos hi2]
    refine AW.go ?_
    refine AW.callE id (curEnd_fn (l.drop (8 * i))) (.ptr rfl .nil) ?_
    refine AW.go ?_
    refine AW.finE (.move rfl (.pv _ .nil)) rfl
end Go.Ck

set_option linter.unusedVariables false
set_option maxRecDepth 10000
set_option maxHeartbeats 1000000
namespace Go.Ck
open Go.Proofs
theorem bne_nat {a b : Nat} (h : ((a : Int) != (b : Int)) = true) : a ≠ b := by simp at h; omega
theorem beq_nat {a b : Nat} (h : ((a : Int) != (b : Int)) = false) : a = b := by simp at h; omega
theorem oneV_false {xs : List Nat} {i : Nat} (h : i < xs.length) (hne : xs[i] ≠ xs.getD 0 0) : oneV xs = false := by
  rw [oneV, List.all_eq_false]
  exact ⟨xs[i], List.getElem_mem h, by simpa using hne⟩
theorem oneV_true {xs : List Nat} (h : ∀ j, j < xs.length → xs.getD j 0 = xs.getD 0 0) : oneV xs = true := by
  rw [oneV, List.all_eq_true]
  intro x hx
  obtain ⟨j, hj, rfl⟩ := List.mem_iff_getElem.1 hx
  have := h j hj
  rw [getD_get hj]
  simpa using this
theorem way_fn (xs : List Nat) (w : Int) (hx : ∀ x ∈ xs, x < 2 ^ 64) : Fn Tryd.prog 15 [] [.pv (.sl 1 (u64s xs)), .pv (.int .i64 w)]
    (fun rs H' => rs = [.own 5 (bytes (wayS xs w).1), .pv (.int .i64 (wayS xs w).2)] ∧ H' = []) := by
  refine Fn.of_body (fn := Tryd.f15) (n := 54) (res := [.tmp 4, .tmp 5]) (by kernel_rfl) rfl rfl rfl rfl rfl (fun C => ?_)
  have hr : room = 140737488355328 := rfl
  by_cases hw : w < 0 ∨ 4 ≤ w
  · have hws : wayS xs w = ([], 1) := by rw [wayS, if_pos hw]
    rw [hws]
    by_cases h1 : w < 0
    · have d1 : decide (w < 0) = true := decide_eq_true h1
      refine AW.gg ?_ (by simp only [go_sem, ↓reduceIte, d1] <;> rfl)
      refine AW.condT rfl ?_
      refine AW.go ?_
      refine AW.finE (.move rfl (.pv _ .nil)) rfl
    · have d1 : decide (w < 0) = false := decide_eq_false h1
      have d2 : decide (w ≥ 4) = true := decide_eq_true (by omega)
      refine AW.gg ?_ (by simp only [go_sem, ↓reduceIte, d1, d2] <;> rfl)
      refine AW.condT rfl ?_
      refine AW.go ?_
      refine AW.finE (.move rfl (.pv _ .nil)) rfl
  have d1 : decide (w < 0) = false := decide_eq_false (by omega)
  have d2 : decide (w ≥ 4) = false := decide_eq_false (by omega)
  refine AW.gg ?_ (by simp only [go_sem, ↓reduceIte, d1, d2] <;> rfl)
  refine AW.condF rfl ?_
  refine AW.go ?_
  refine AW.cond rfl (fun hc => ?_) (fun hc => ?_)
  · have hl : 65536 < xs.length := by simp at hc; omega
    have hws : wayS xs w = ([], 4) := by rw [wayS, if_neg hw, if_pos hl]
    rw [hws]
    refine AW.go ?_
    refine AW.finE (.move rfl (.pv _ .nil)) rfl
  have hl : ¬ 65536 < xs.length := by simp at hc; omega
  have hle : xs.length ≤ 65536 := by omega
  refine AW.go ?_
  have hw4 : w = 0 ∨ w = 1 ∨ w = 2 ∨ w = 3 := by omega
  rcases hw4 with rfl | rfl | rfl | rfl
  · have hws : wayS xs 0 = (encP xs, 0) := by rw [wayS, if_neg hw, if_neg hl]; rfl
    rw [hws]
    refine AW.condF rfl ?_
    refine AW.go ?_
    refine AW.condF rfl ?_
    refine AW.go ?_
    refine AW.condT rfl ?_
    refine AW.go ?_
    refine AW.callE (fun _ => 0) (plain_fn xs (by omega) hx) (.pv _ .nil) ?_
    refine AW.go ?_
    refine AW.finE (.move rfl (.pv _ .nil)) rfl
  · have hws : wayS xs 1 = if oneV xs = false ∨ xs = [] then ([], 1) else (encP (xs.take 1), 0) := by rw [wayS, if_neg hw, if_neg hl]; rfl
    rw [hws]
    refine AW.condF rfl ?_
    refine AW.go ?_
    refine AW.condF rfl ?_
    refine AW.go ?_
    refine AW.condF rfl ?_
    refine AW.go ?_
    refine AW.loopS (fun i : Nat => ⟨54, [(38, .pv (.int .i64 i)), (37, .pv (.int .i64 xs.length)), (36, .pv (.sl 1 (u64s xs))), (0, .pv (.sl 1 (u64s xs)))], []⟩) (fun i => i ≤ xs.length ∧ ∀ j, j < i → xs.getD j 0 = xs.getD 0 0) (fun i => xs.length - i) [38, 37, 36, 0] [] 0 ⟨Nat.zero_le _, fun j hj => by omega⟩ ?_
    rintro i ⟨hi, hall⟩ K hK
    refine AW.go ?_
    refine AW.cond rfl (fun hc => ?_) (fun hc => ?_)
    · have hlt : i < xs.length := by simpa using hc
      have hlt0 : 0 < xs.length := by omega
      have hget := u64s_get hlt
      have hget0 := u64s_get hlt0
      rw [getD_get hlt0] at hget0
      have ei : IntKind.i64.wrap ((i : Int) + 1) = ((i + 1 : Nat) : Int) := wrap_i64_succ (by omega)
      refine AW.go ?_ (by simp only [go_sem, ↓reduceIte, hget, hget0] <;> rfl)
      refine AW.cond rfl (fun hc2 => ?_) (fun hc2 => ?_)
      · have hne : xs[i] ≠ xs.getD 0 0 := bne_nat hc2
        rw [if_pos (.inl (oneV_false hlt hne))]
        refine AW.go ?_
        refine AW.finE (.move rfl (.pv _ .nil)) rfl
      · have he : xs[i] = xs.getD 0 0 := beq_nat hc2
        refine AW.go ?_ (by simp only [go_sem, ↓reduceIte, ei] <;> rfl)
        refine AW.again hK (i + 1) ⟨hlt, fun j hj => ?_⟩ (by omega)
        by_cases hji : j = i
        · subst hji; rw [← getD_get hlt]; exact he
        · exact hall j (by omega)
    · have hge : i = xs.length := by simp at hc; omega
      subst hge
      refine AW.go ?_
      refine AW.cond rfl (fun hc2 => ?_) (fun hc2 => ?_)
      · have hnil : xs = [] := by simpa using hc2
        rw [if_pos (.inr hnil)]
        refine AW.go ?_
        refine AW.finE (.move rfl (.pv _ .nil)) rfl
      · have hnil : xs ≠ [] := by simpa using hc2
        have hpos0 : 1 ≤ xs.length := by cases xs with | nil => exact absurd rfl hnil | cons a r => simp
        have hpos : (1 : Int) ≤ (xs.length : Int) := by omega
        rw [if_neg (by rw [oneV_true hall]; simpa using hnil)]
        refine AW.go ?_ (by simp only [go_sem, ↓reduceIte, hpos] <;> rfl)
        refine AW.callE (fun _ => 0) (plain_fn (xs.take 1) (by simp; omega) (fun x h => hx x (List.mem_of_mem_take h))) (.pv _ .nil) ?_
        refine AW.go ?_
        refine AW.finE (.move rfl (.pv _ .nil)) rfl
  · have hws : wayS xs 2 = (enc10 xs, 0) := by rw [wayS, if_neg hw, if_neg hl]; rfl
    rw [hws]
    refine AW.condT rfl ?_
    refine AW.go ?_
    refine AW.callE (fun _ => 0) (dictEnc_fn xs hx) (.pv _ .nil) ?_
    simp only [if_pos hle]
    refine AW.go ?_
    refine AW.finE (.move rfl (.pv _ .nil)) rfl
  · have hws : wayS xs 3 = (enc09 xs, 0) := by rw [wayS, if_neg hw, if_neg hl]; rfl
    rw [hws]
    refine AW.condF rfl ?_
    refine AW.go ?_
    refine AW.condT rfl ?_
    refine AW.go ?_
    refine AW.callE (fun _ => 0) (gorEnc_fn xs hx) (.pv _ .nil) ?_
    simp only [if_pos hle]
    refine AW.go ?_
    refine AW.finE (.move rfl (.pv _ .nil)) rfl
end Go.Ck

set_option linter.unusedVariables false
set_option maxRecDepth 10000
set_option maxHeartbeats 1000000
namespace Go.Ck
open Go.Proofs
end Go.Ck

set_option linter.unusedVariables false
namespace Go.Ck
def stepB (xs : List Nat) (b : Nat × List Nat) (w : Nat) : Nat × List Nat := if (wayS xs w).2 = 0 ∧ (wayS xs w).1.length < b.2.length then (w, (wayS xs w).1) else b
def bestB (xs : List Nat) (n : Nat) : Nat × List Nat := (List.range n).foldl (fun b w => stepB xs b (w + 1)) (0, encP xs)
theorem bestB_zero (xs : List Nat) : bestB xs 0 = (0, encP xs) := rfl
theorem bestB_succ (xs : List Nat) (n : Nat) : bestB xs (n + 1) = stepB xs (bestB xs n) (n + 1) := by simp [bestB, List.range_succ]
def encV (xs : List Nat) : List Nat × Int := if 65536 < xs.length then ([], 4) else ((bestB xs 3).1 :: (bestB xs 3).2, 0)
theorem wayS_zero {xs : List Nat} (h : ¬ 65536 < xs.length) : wayS xs 0 = (encP xs, 0) := by
  rw [wayS, if_neg (by omega), if_neg h]; rfl
theorem bestB_le (xs : List Nat) (n : Nat) : (bestB xs n).2.length ≤ 8 * xs.length := by
  induction n with
  | zero => rw [bestB_zero]; simp only [encP_len]; omega
  | succ n ih =>
    rw [bestB_succ, stepB]
    split
    · rename_i h; simp only; omega
    · exact ih
theorem bestB_tag (xs : List Nat) (n : Nat) : (bestB xs n).1 ≤ n := by
  induction n with
  | zero => simp [bestB_zero]
  | succ n ih =>
    rw [bestB_succ, stepB]
    split
    · simp
    · omega
end Go.Ck
namespace Go.Ck
theorem filt_get (p : Nat → Bool) : ∀ (n w : Nat), w < n → p w = true → ((List.range n).filter p)[((List.range w).filter p).length]? = some w
  | 0, w, h, _ => by omega
  | n + 1, w, h, hp => by
    rw [List.range_succ, List.filter_append]
    by_cases hw : w < n
    · have ih := filt_get p n w hw hp
      obtain ⟨hlt, _⟩ := List.getElem?_eq_some_iff.1 ih
      rw [List.getElem?_append_left hlt]; exact ih
    · have : w = n := by omega
      subst this
      rw [List.getElem?_append_right (Nat.le_refl _), Nat.sub_self]
      simp [hp]
def okB' (xs : List Nat) (w : Nat) : Bool := decide ((wayS xs (w : Int)).2 = 0)
def okTo (xs : List Nat) (w : Nat) : Nat := ((List.range w).filter (okB' xs)).length
theorem okTo_succ (xs : List Nat) (w : Nat) : okTo xs (w + 1) = okTo xs w + (if okB' xs w = true then 1 else 0) := by
  rw [okTo, okTo, List.range_succ, List.filter_append, List.length_append]
  cases h : okB' xs w <;> simp [h]
/-- What is handed out, as it comes. -/
def outs (xs : List Nat) (i : Nat) : Option (List PV) := (((List.range 4).filter (okB' xs))[i]?).map fun (w : Nat) => [PV.int .i64 (w : Int), .sl 1 (bytes (wayS xs (w : Int)).1)]
theorem outs_at {xs : List Nat} {w : Nat} (hw : w < 4) (h : okB' xs w = true) : outs xs (okTo xs w) = some [.int .i64 (w : Int), .sl 1 (bytes (wayS xs (w : Int)).1)] := by
  rw [outs, okTo, filt_get _ 4 w hw h]; rfl
theorem outs_end (xs : List Nat) : outs xs (okTo xs 4) = none := by
  rw [outs, okTo, List.getElem?_eq_none (Nat.le_refl _)]; rfl
end Go.Ck
namespace Go.Ck
/-- The best so far, as the program keeps it. -/
def stepC (xs : List Nat) (b : Nat × List Nat) (w : Nat) : Nat × List Nat := if b.1 = 4 ∨ (wayS xs w).1.length < b.2.length then (w, (wayS xs w).1) else b
def okL (xs : List Nat) : List Nat := (List.range 4).filter (okB' xs)
def bestC (xs : List Nat) (i : Nat) : Nat × List Nat := ((okL xs).take i).foldl (stepC xs) (4, [])
theorem bestC_succ {xs : List Nat} {i w : Nat} (h : (okL xs)[i]? = some w) : bestC xs (i + 1) = stepC xs (bestC xs i) w := by
  rw [bestC, List.take_add_one, h]
  simp [bestC]
theorem bestC_all {xs : List Nat} (h : ¬ 65536 < xs.length) : bestC xs (okL xs).length = bestB xs 3 := by
  have h0 := wayS_zero h
  have hr : List.range 4 = [0, 1, 2, 3] := rfl
  have k0 : okB' xs 0 = true := by
    unfold okB'
    have : wayS xs ((0 : Nat) : Int) = (encP xs, 0) := h0
    rw [this]; rfl
  rw [bestC, List.take_length, okL, hr, bestB_succ, bestB_succ, bestB_succ, bestB_zero]
  have s0 : stepC xs (4, []) 0 = (0, encP xs) := by
    have : wayS xs ((0 : Nat) : Int) = (encP xs, 0) := h0
    rw [stepC, if_pos (.inl rfl), this]
  have st : ∀ (b : Nat × List Nat) (w : Nat), b.1 ≠ 4 → (if okB' xs w = true then stepC xs b w else b) = stepB xs b w := by
    intro b w hb
    unfold stepC stepB okB'
    by_cases h1 : (wayS xs (w : Int)).2 = 0
    · simp [h1, hb]
    · simp [h1]
  have ne : ∀ (b : Nat × List Nat) (w : Nat), w ≠ 4 → b.1 ≠ 4 → (stepB xs b w).1 ≠ 4 := by
    intro b w hw hb
    unfold stepB
    split
    · exact hw
    · exact hb
  have fo : ∀ (l : List Nat) (b : Nat × List Nat), (∀ w ∈ l, w ≠ 4) → b.1 ≠ 4 → (l.filter (okB' xs)).foldl (stepC xs) b = l.foldl (stepB xs) b := by
    intro l
    induction l with
    | nil => intro b _ _; rfl
    | cons w r ih =>
      intro b hw hb
      have hst := st b w hb
      rw [List.filter_cons]
      by_cases hk : okB' xs w = true
      · rw [if_pos hk] at hst ⊢
        rw [List.foldl_cons, List.foldl_cons, hst]
        exact ih _ (fun y hy => hw y (by simp [hy])) (ne b w (hw w (by simp)) hb)
      · rw [if_neg hk] at hst ⊢
        rw [List.foldl_cons, ← hst]
        exact ih _ (fun y hy => hw y (by simp [hy])) hb
  rw [List.filter_cons, if_pos k0, List.foldl_cons, s0, fo [1, 2, 3] (0, encP xs) (by simp) (by simp)]
  rfl
theorem outs_eq (xs : List Nat) (i : Nat) : outs xs i = ((okL xs)[i]?).map fun (w : Nat) => [PV.int .i64 (w : Int), .sl 1 (bytes (wayS xs (w : Int)).1)] := rfl
end Go.Ck

set_option linter.unusedVariables false
set_option maxRecDepth 10000
set_option maxHeartbeats 1000000
namespace Go.Ck
open Go.Proofs
end Go.Ck

set_option linter.unusedVariables false
set_option maxRecDepth 10000
set_option maxHeartbeats 1000000
namespace Go.Ck
open Go.Proofs
theorem AW.absurdC {P : Program} {R : Option Nat} {Φ : Exit → Cx → St → Prop} {e : Exit} {k : List It} {X : Bs → Prop} {s : St} (h : ∀ B, ¬ X B) : AW P R Φ e k (plain X) s := fun B a w ha => absurd ha.1.1.2 (h B)

theorem all_fn (xs : List Nat) : Fn Tryd.prog 35 [] [.pv (.sl 1 (u64s xs))] (fun rs H' => rs = [.fn 71 [.ptr 1 0]] ∧ H' = [(1, .cells 22 [.pv (.sl 1 (u64s xs))])]) := by
  refine Fn.of_body (fn := Tryd.f35) (n := 4) (res := [.tmp 2]) (by kernel_rfl) rfl rfl rfl rfl rfl (fun C => ?_)
  refine AW.go ?_
  refine AW.finE (.fn rfl .nil) rfl

theorem all1_iter (xs : List Nat) (o : Nat) (ho : o ≠ 0) (hx : ∀ x ∈ xs, x < 2 ^ 64) : Iter Tryd.prog 71 [.ptr 12 0] [(12, .cells 22 [.pv (.sl 1 (u64s xs))])] (outs xs) := by
  refine Iter.of_body (fn := Tryd.f71) (n := 25) (by kernel_rfl) rfl rfl rfl rfl (fun l X X0 N hY hN => ?_)
  refine AW.go ?_
  refine AW.loopC (n := 4) (fun m C s => ∃ w, m = 4 - w ∧ w ≤ 4 ∧ okTo xs w ≤ N ∧ C = plain (X (okTo xs w)) ∧ keepB [0, 1, 6] [12] s = ⟨25, [(0, .yl l), (1, .ptr 12 0), (6, .pv (.int .i64 w))], [(12, .cells 22 [.pv (.sl 1 (u64s xs))])]⟩ ∧ keptB none [0, 1, 6] [12] s = true) ⟨0, rfl, by omega, Nat.zero_le _, rfl, by simp only [go_sem, ↓reduceIte] <;> rfl, by simp only [go_sem, ↓reduceIte]⟩ ?_
  rintro m C s ⟨w, rfl, hw, hiN, rfl, hs, hk⟩
  refine AW.keepB [0, 1, 6] [12] hk hs ?_
  refine AW.go ?_
  refine AW.cond rfl (fun hc => ?_) (fun hc => ?_)
  · have hlt : w < 4 := by simp at hc; omega
    have ei : IntKind.i64.wrap ((w : Int) + 1) = ((w + 1 : Nat) : Int) := wrap_i64_succ (by omega)
    have hsu := okTo_succ xs w
    refine AW.go ?_
    refine AW.callE (fun _ => 0) (way_fn xs w hx) (.pv _ (.pv _ .nil)) ?_
    refine AW.freeze (p := .part 12 0) (by simp only [go_sem, ↓reduceIte, freeze, freezeO] <;> rfl) ?_
    refine AW.go ?_
    have hout := outs_at (xs := xs) hlt
    unfold okB' at hout hsu
    generalize wayS xs (w : Int) = r at *
    obtain ⟨rb, re⟩ := r
    simp only at hout hsu ⊢
    by_cases he : re = 0
    · subst he
      rw [if_pos (by simp)] at hsu
      have hout := hout (by simp)
      by_cases hn : okTo xs w = N
      · rcases hN with h | h
        · rw [← hn, hout] at h; cases h
        · rw [hn]; exact AW.absurdC h
      have hlt2 : okTo xs w < N := by omega
      obtain ⟨p, hp, hY1⟩ := hY _ hlt2
      rw [hout] at hp
      cases hp
      refine AW.gg ?_
      refine AW.guardT rfl rfl ?_
      refine AW.yield hY1 rfl rfl ?_ ?_
      · refine AW.gg ?_
        refine AW.condF rfl ?_
        refine AW.go ?_ (by simp only [go_sem, ↓reduceIte, ei] <;> rfl)
        refine AW.stop ⟨4 - (w + 1), by omega, w + 1, rfl, by omega, by omega, by rw [hsu], by simp only [go_sem, ↓reduceIte] <;> rfl, by simp only [go_sem, ↓reduceIte]⟩
      · refine AW.gg ?_
        refine AW.condT rfl ?_
        refine AW.go ?_
        exact AW.nil ⟨.inr rfl, .inr rfl⟩
    · have hre : (re == 0) = false := by simpa using he
      rw [if_neg (by simpa using he), Nat.add_zero] at hsu
      refine AW.gg ?_ (by simp only [go_sem, ↓reduceIte, hre] <;> rfl)
      refine AW.condF rfl ?_
      refine AW.go ?_ (by simp only [go_sem, ↓reduceIte, ei] <;> rfl)
      refine AW.stop ⟨4 - (w + 1), by omega, w + 1, rfl, by omega, by omega, by rw [hsu, Nat.add_zero], by simp only [go_sem, ↓reduceIte] <;> rfl, by simp only [go_sem, ↓reduceIte]⟩
  · have h4 : w = 4 := by simp at hc; omega
    subst h4
    have hend := outs_end xs
    have hNe : okTo xs 4 = N := by
      apply Classical.byContradiction
      intro hne
      obtain ⟨p, hp, _⟩ := hY _ (by omega : okTo xs 4 < N)
      rw [hend] at hp; cases hp
    rw [hNe] at hend ⊢
    refine AW.go ?_
    exact AW.nil ⟨.inl rfl, .inl ⟨hend, rfl⟩⟩
end Go.Ck

set_option linter.unusedVariables false
set_option maxRecDepth 10000
set_option maxHeartbeats 1000000
namespace Go.Ck
open Go.Proofs
attribute [go_sem] putParams keptH allNames pickH
theorem encV_fn (xs : List Nat) (hx : ∀ x ∈ xs, x < 2 ^ 64) : Fn Tryd.prog 18 [] [.pv (.sl 1 (u64s xs))]
    (fun rs H' => rs = [.own 5 (bytes (encV xs).1), .pv (.int .i64 (encV xs).2)] ∧ H' = []) := by
  refine Fn.of_bodyR (fn := Tryd.f18) (n := 31) (res := [.tmp 2, .tmp 3]) (by kernel_rfl) rfl rfl rfl rfl rfl (fun C => ?_)
  have hr : room = 140737488355328 := rfl
  unfold encV
  refine AW.go ?_
  refine AW.cond rfl (fun hc => ?_) (fun hc => ?_)
  · have hl : 65536 < xs.length := by simp at hc; omega
    simp only [if_pos hl]
    refine AW.go ?_
    refine AW.finR (.inl rfl) (.inr rfl) (by simp only [go_sem, ↓reduceIte, retsV] <;> rfl) (.move rfl (.pv _ .nil)) (H' := []) (by simp only [go_sem, ↓reduceIte]) (by simp only [go_sem, ↓reduceIte]) (by simp only [go_sem, ↓reduceIte]) ⟨rfl, rfl⟩
  have hl : ¬ 65536 < xs.length := by simp at hc; omega
  simp only [if_neg hl]
  refine AW.go ?_
  refine AW.callE (fun _ => 12) (all_fn xs) (.pv _ .nil) ?_
  refine AW.go ?_
  refine AW.nilsOwnAt (.cell 5 0) 5 ?_
  refine AW.freeze (p := .cell 5 0) (by simp only [go_sem, ↓reduceIte, freeze, freezeO] <;> rfl) ?_
  have hout : ∀ i p, outs xs i = some p → ∃ w : Nat, (okL xs)[i]? = some w ∧ p = [PV.int .i64 (w : Int), .sl 1 (bytes (wayS xs (w : Int)).1)] := by
    intro i p hp
    rw [outs_eq] at hp
    cases hk : (okL xs)[i]? with
    | none => rw [hk] at hp; cases hp
    | some w => rw [hk] at hp; cases hp; exact ⟨w, rfl, rfl⟩
  refine AW.rangeFunc [4, 5] [4, 5] (fun i hp => hp = [(4, .cells 3 [.pv (.int .i64 ((bestC xs i).1 : Nat))]), (5, .cells 24 [.pv (.sl 1 (bytes (bestC xs i).2))])]) (fun _ _ => False) (okL xs).length (all1_iter xs 1 (by omega) hx) rfl (by simp only [go_sem, ↓reduceIte]) (by simp only [go_sem, ↓reduceIte]) (by simp only [go_sem, ↓reduceIte]) (by simp only [go_sem, ↓reduceIte] <;> rfl) rfl rfl rfl rfl rfl ?_ ?_ (.inl ?_) ?_ ?_ ?_
  · intro i p hp
    obtain ⟨w, _, rfl⟩ := hout i p hp
    rfl
  · intro i hi
    rw [outs_eq]
    have := List.getElem?_eq_getElem hi
    rw [this]
    exact ⟨_, rfl⟩
  · rw [outs_eq, List.getElem?_eq_none (Nat.le_refl _)]; rfl
  · intro i p hi hp
    obtain ⟨w, hw, rfl⟩ := hout i p hp
    have hsu := bestC_succ hw
    rintro _ rfl l C1
    refine AW.go ?_
    refine AW.nil ⟨rfl, rfl, fun C2 => ?_⟩
    rw [stepC] at hsu
    generalize bestC xs i = b at *
    obtain ⟨t, bs⟩ := b
    generalize (wayS xs (w : Int)).1 = r at *
    simp only at hsu ⊢
    have e4 : ((t : Int) == 4) = decide (t = 4) := by rw [Bool.eq_iff_iff]; simp; omega
    by_cases ht : t = 4
    · have d4 : decide (t = 4) = true := decide_eq_true ht
      rw [if_pos (.inl ht)] at hsu
      refine AW.gg ?_ (by simp only [go_sem, ↓reduceIte, e4, d4] <;> rfl)
      refine AW.condT rfl ?_
      refine AW.go ?_
      refine AW.nil ⟨rfl, by simp only [go_sem, ↓reduceIte], by simp only [go_sem, ↓reduceIte], .inl ⟨rfl, ?_⟩⟩
      simp only [go_sem, ↓reduceIte, hsu]
    · have d4 : decide (t = 4) = false := decide_eq_false ht
      by_cases hlen : r.length < bs.length
      · rw [if_pos (.inr hlen)] at hsu
        have dl : decide (r.length < bs.length) = true := decide_eq_true hlen
        refine AW.gg ?_ (by simp only [go_sem, ↓reduceIte, e4, d4, dl] <;> rfl)
        refine AW.condT rfl ?_
        refine AW.go ?_
        refine AW.nil ⟨rfl, by simp only [go_sem, ↓reduceIte], by simp only [go_sem, ↓reduceIte], .inl ⟨rfl, ?_⟩⟩
        simp only [go_sem, ↓reduceIte, hsu]
      · rw [if_neg (fun h => h.elim ht hlen)] at hsu
        have dl : decide (r.length < bs.length) = false := decide_eq_false hlen
        refine AW.gg ?_ (by simp only [go_sem, ↓reduceIte, e4, d4, dl] <;> rfl)
        refine AW.condF rfl ?_
        refine AW.go ?_
        refine AW.nil ⟨rfl, by simp only [go_sem, ↓reduceIte], by simp only [go_sem, ↓reduceIte], .inl ⟨rfl, ?_⟩⟩
        simp only [go_sem, ↓reduceIte, hsu]
  · rintro _ _ rfl
    rw [bestC_all hl]
    have hle := bestB_le xs 3
    have htg := bestB_tag xs 3
    generalize bestB xs 3 = b at *
    obtain ⟨t, bs⟩ := b
    simp only at hle htg ⊢
    have eu : IntKind.u8.wrap ((t : Nat) : Int) = (t : Nat) := wrap_u8_lt (by omega)
    have h1 : 1 + bs.length ≤ room := by omega
    refine AW.go ?_ (by simp only [go_sem, ↓reduceIte, eu, bytes_one, h1, List.length_cons, List.length_nil, Nat.zero_add, List.cons_append, List.nil_append] <;> rfl)
    refine AW.finR (.inr rfl) (.inr rfl) (by simp only [go_sem, ↓reduceIte, retsV] <;> rfl) (.move rfl (.pv _ .nil)) (H' := []) (by simp only [go_sem, ↓reduceIte]) (by simp only [go_sem, ↓reduceIte]) (by simp only [go_sem, ↓reduceIte]) ⟨rfl, rfl⟩
  · rintro j hp h; exact h.elim
end Go.Ck
