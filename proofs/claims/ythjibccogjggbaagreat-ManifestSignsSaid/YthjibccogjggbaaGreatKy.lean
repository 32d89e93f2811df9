/- What is proved here: parts of the proofs of this seat's statements (a verified evaluator for calls over pure values, its laws, and contracts of functions). No condition. -/
import Derived.Test.YthjibccogjggbaaGreatKx
import Derived.Test.YthjibccogjggbaaGreatKu
import Derived.Test.YthjibccogjggbaaGreatKo
import Derived.Test.YthjibccogjggbaaGreatKw
import Derived.Test.YthjibccogjggbaaGreatKp
set_option linter.all false
set_option linter.unusedVariables false
set_option maxRecDepth 100000
set_option maxHeartbeats 400000
namespace Go.Ck
open Go.Proofs
theorem manEnc_fn (m : Man) (hv : m.v < 2 ^ 64) (hl : m.es.length < 2 ^ 29) : Fn Tryz.prog 12 [] [.pv (manP m)] (fun rs H' => rs = [.own 5 (bytes (encM m).1), .pv (.int .i64 (encM m).2)] ∧ H' = []) := by
  refine Fn.of_body (fn := Tryz.f12) (n := 83) (res := [.tmp 2, .tmp 3]) (by kernel_rfl) rfl rfl rfl rfl rfl (fun C => ?_)
  have hroom : room = 140737488355328 := rfl
  have hm : manP m = .agg [.int .u64 (m.v : Int), .sl 1 (bytes m.prev), .sl 2 (entsP m.es), .sl 1 (bytes m.root)] := rfl
  have hwf := wrongMan_fn m (by omega)
  rw [hm] at hwf ⊢
  unfold encM
  refine AW.go ?_
  refine AW.callE (fun _ => 0) hwf (.pv _ .nil) ?_
  refine AW.go ?_
  refine AW.cond rfl (fun hc => ?_) (fun hc => ?_)
  · have hw : wrongM m ≠ 0 := by
      intro h; rw [h] at hc; exact absurd hc (by decide)
    rw [if_pos hw]
    refine AW.go ?_
    refine AW.finE (.move rfl (.pv _ .nil)) rfl
  have hw : wrongM m = 0 := by
    have h2 : ((wrongM m : Int) == 0) = true := by simpa [bne] using hc
    have := eq_of_beq h2
    omega
  rw [if_neg (by simp [hw])]
  obtain ⟨w1, w2, w3, w4, w5, w6⟩ := wrongM_zero hw
  have hnn := dirS_nodup m.es
  have hnl : (dirS m.es).length ≤ m.es.length := by rw [dirS_len]; exact nmS_len _
  have hnm := dirS_mem m.es
  have hn64 : ∀ s ∈ dirS m.es, s.length ≤ 64 := by
    intro s hs
    obtain ⟨e, he, rfl⟩ := (hnm s).1 hs
    exact w6 e he
  have hnmS : ∀ e ∈ m.es, e.1 ∈ nmS m.es := fun e he => (nmS_mem m.es e.1).2 ⟨e, he, rfl⟩
  have hdf := directory_fn m.es (by omega)
  unfold bodyM headM
  obtain ⟨v, prev, es, root⟩ := m
  simp only at *
  clear hwf hw hm hc
  refine AW.go ?_
  refine AW.callE (fun _ => 6) hdf (.pv _ .nil) ?_
  have hbl := beB_len v 8
  have hh4 : ([.int .u8 67, .int .u8 83, .int .u8 75, .int .u8 49] : List PV) ++ bytes (beB v 8) = bytes ([67, 83, 75, 49] ++ beB v 8) := rfl
  have m4 : (4 ≤ maxLen) = True := eq_true (le_maxLen 4)
  have r1 : (4 + (beB v 8).length ≤ room) = True := eq_true (by omega)
  generalize hns : dirS es = ns at *
  have h5 : (5 : Nat) < 83 := by decide
  refine AW.go ?_
  refine AW.extractM rfl ⟨_, rfl⟩ ?_
  refine AW.goM 9 ?_
  refine AW.constB (n := 4) (xs := [.int .u8 67, .int .u8 83, .int .u8 75, .int .u8 49]) tk_22 tk_5 ze_5 ?_ (by decide) (by decide) rfl ?_ ?_
  · rfl
  · simp only [go_sem, ↓reduceIte]; try decide
  refine AW.go ?_
  refine AW.callE (fun _ => 0) (fix_fn v 8 hv (by omega)) (.pv _ (.pv _ .nil)) ?_
  refine AW.goM 3 ?_
  refine AW.appendLit (ys := bytes (beB v 8)) (xs := [.int .u8 67, .int .u8 83, .int .u8 75, .int .u8 49]) rfl rfl rfl rfl tk_22 rfl (by decide) (by simp only [bytes_length]; omega) (by simp only [bytes_length, List.length_cons, List.length_nil]; omega) (by simp only [bytes_length, List.length_cons, List.length_nil]; omega) ?_
  rw [hh4]
  have g1 : (([67, 83, 75, 49] ++ beB v 8 : List Nat).length + 32 ≤ room) = True := eq_true (by rw [List.length_append, hbl]; simp; omega)
  have hdl : ([67, 83, 75, 49] ++ beB v 8 ++ prev).length = 44 := by simp [hbl, w2]
  generalize [67, 83, 75, 49] ++ beB v 8 = hd0 at *
  have wl : IntKind.u64.wrap (ns.length : Int) = (ns.length : Int) := wrap_u64_lt (by omega)
  have wm : IntKind.u64.wrap (es.length : Int) = (es.length : Int) := wrap_u64_lt (by omega)
  refine AW.go ?_ (by simp only [go_sem, ↓reduceIte, w2, g1, wl] <;> rfl)
  generalize hd0 ++ prev = hd at *
  refine AW.callE (fun _ => 0) (append_fn hd ns.length (by omega) (by omega)) (.lend rfl co_5 (.pv _ .nil)) ?_
  have l1 := leb_len10 (v := ns.length) (by omega)
  have l2 := leb_len10 (v := es.length) (by omega)
  have hal : (hd ++ leb ns.length).length ≤ 54 := by rw [List.length_append]; omega
  generalize hd ++ leb ns.length = ha at *
  refine AW.go ?_
  refine AW.loopS (fun i : Nat => ⟨83, [(40, .pv (.int .i64 i)), (38, .al (.slot 5)), (39, .pv (.int .i64 ns.length)), (5, .own 9 (strs ns)), (6, .mp 6), (7, .own 5 (bytes (ha ++ (ns.take i).flatMap blkS))), (1, .ptr 1 0)], [(6, .mp (mpS (posK ns ns.length) (nmS es))), (1, .cells 26 [.pv (.int .u64 v), .pv (.sl 1 (bytes prev)), .pv (.sl 2 (entsP es)), .pv (.sl 1 (bytes root))])]⟩) (fun i => i ≤ ns.length) (fun i => ns.length - i) [40, 38, 39, 5, 6, 7, 1] [6, 1] 0 (Nat.zero_le _) ?_ (hs := by simp only [go_sem, ↓reduceIte, List.take_zero, List.flatMap_nil, List.append_nil] <;> rfl)
  rintro i hi K hK
  refine AW.go ?_
  refine AW.cond rfl (fun hc => ?_) (fun hc => ?_)
  · have hlt : i < ns.length := by have := of_decide_eq_true hc; omega
    obtain ⟨t, ht⟩ : ∃ t, ns[i]? = some t := ⟨ns[i], List.getElem?_eq_getElem hlt⟩
    have hg := strs_get ht
    have htl : t.length ≤ 64 := hn64 t (List.mem_of_getElem? ht)
    have htm : t.length ≤ maxLen := Nat.le_trans htl (le_maxLen 64)
    have e1 : IntKind.i64.wrap ((i : Int) + 1) = ((i + 1 : Nat) : Int) := wrap_i64_succ (by omega)
    have l1 : (i < ns.length) = True := eq_true hlt
    have hfl := flatMap_le blkS 74 (ns.take i) (fun s hs => blkS_len s (hn64 s (List.mem_of_mem_take hs)))
    rw [List.length_take] at hfl
    have hfs := flatMap_take blkS ht
    have hbl := blkS_len t htl
    have hnb : (nb t).length = t.length := by simp [nb]
    refine AW.go ?_ (by simp only [go_sem, ↓reduceIte, hg, l1] <;> rfl)
    refine AW.ofStr htm tk_9 tk_22 tk_5 ?_
    rw [strBytes_nb]
    refine AW.go ?_
    refine AW.callE (fun _ => 0) (block_fn (nb t) (by omega)) (.pv _ .nil) ?_
    have eb : leb (nb t).length ++ nb t = blkS t := by rw [hnb]; rfl
    rw [eb]
    have hcl : ((ha ++ (ns.take i).flatMap blkS).length + (blkS t).length ≤ room) = True := eq_true (by rw [List.length_append]; omega)
    have hfe : ha ++ (ns.take i).flatMap blkS ++ blkS t = ha ++ (ns.take (i + 1)).flatMap blkS := by rw [hfs, List.append_assoc]
    generalize ha ++ (ns.take i).flatMap blkS = acc at *
    generalize blkS t = bt at *
    refine AW.go ?_ (by simp only [go_sem, ↓reduceIte, hcl, e1] <;> rfl)
    exact AW.again hK (i + 1) (by omega) (by omega) (hs := by simp only [go_sem, ↓reduceIte, hfe] <;> rfl)
  have hge : i = ns.length := by have := of_decide_eq_false hc; omega
  subst hge
  have hfl := flatMap_le blkS 74 ns (fun s hs => blkS_len s (hn64 s hs))
  have hbl : (ha ++ ns.flatMap blkS).length ≤ 54 + 74 * ns.length := by rw [List.length_append]; omega
  rw [List.take_length]
  generalize ha ++ ns.flatMap blkS = hb at *
  refine AW.go ?_ (by simp only [go_sem, ↓reduceIte, wm] <;> rfl)
  refine AW.callE (fun _ => 0) (append_fn [] es.length (by omega) (by simp; omega)) (.nilsP 1 (.pv _ .nil)) ?_
  try rw [List.nil_append]
  have hcl : (hb.length + (leb es.length).length ≤ room) = True := eq_true (by omega)
  have hdl : (hb ++ leb es.length).length ≤ 64 + 74 * ns.length := by rw [List.length_append]; omega
  refine AW.go ?_ (by simp only [go_sem, ↓reduceIte, hcl] <;> rfl)
  generalize hb ++ leb es.length = hh at *
  refine AW.loopS (fun i : Nat => ⟨83, [(60, .pv (.int .i64 i)), (58, .pv (.sl 2 (entsP es))), (59, .pv (.int .i64 es.length)), (6, .mp 6), (7, .own 5 (bytes (hh ++ (es.take i).flatMap (entB ns)))), (1, .ptr 1 0)], [(6, .mp (mpS (posK ns ns.length) (nmS es))), (1, .cells 26 [.pv (.int .u64 v), .pv (.sl 1 (bytes prev)), .pv (.sl 2 (entsP es)), .pv (.sl 1 (bytes root))])]⟩) (fun i => i ≤ es.length) (fun i => es.length - i) [60, 58, 59, 6, 7, 1] [6, 1] 0 (Nat.zero_le _) ?_ (hs := by simp only [go_sem, ↓reduceIte, List.take_zero, List.flatMap_nil, List.append_nil] <;> rfl)
  rintro i hi K hK
  refine AW.go ?_
  refine AW.cond rfl (fun hc => ?_) (fun hc => ?_)
  · have hlt : i < es.length := by have := of_decide_eq_true hc; omega
    obtain ⟨e, he⟩ : ∃ e, es[i]? = some e := ⟨es[i], List.getElem?_eq_getElem hlt⟩
    have hg := entsP_get he
    have hem := List.mem_of_getElem? he
    have e1 : IntKind.i64.wrap ((i : Int) + 1) = ((i + 1 : Nat) : Int) := wrap_i64_succ (by omega)
    have hfl := flatMap_le (entB ns) 11 (es.take i) (fun s hs => entB_len ns s (by omega))
    rw [List.length_take] at hfl
    have hfs := flatMap_take (entB ns) he
    have hel := entB_len ns e (by omega)
    have hml := mlook_mpS (posK ns ns.length) e.1 (nmS es)
    rw [if_pos (hnmS e hem), posK_all ns e.1 ((hnm e.1).2 ⟨e, hem, rfl⟩)] at hml
    have hix := idx_le ns e.1
    obtain ⟨q1, q2⟩ := w4 e hem
    have e2 : IntKind.u64.wrap ((ns.idxOf e.1 : Nat) : Int) = ((ns.idxOf e.1 : Nat) : Int) := wrap_u64_lt (by omega)
    have e3 : IntKind.u8.wrap e.2 = ((e.2.toNat : Nat) : Int) := by
      have : e.2 = ((e.2.toNat : Nat) : Int) := by omega
      rw [this, wrap_u8, Int.toNat_natCast, Nat.mod_eq_of_lt (by omega)]
    have heB : entB ns e = leb (ns.idxOf e.1) ++ [e.2.toNat] := rfl
    have hlx := leb_len10 (v := ns.idxOf e.1) (by omega)
    have hacl : (hh ++ (es.take i).flatMap (entB ns)).length ≤ 64 + 74 * ns.length + 11 * es.length := by rw [List.length_append]; omega
    have hfe : hh ++ (es.take i).flatMap (entB ns) ++ leb (ns.idxOf e.1) ++ [e.2.toNat] = hh ++ (es.take (i + 1)).flatMap (entB ns) := by rw [hfs, heB]; simp
    generalize hh ++ (es.take i).flatMap (entB ns) = acc at *
    generalize ns.idxOf e.1 = ix at *
    refine AW.go ?_ (by simp only [go_sem, ↓reduceIte, hg] <;> rfl)
    refine AW.lookup rfl rfl rfl hml tk_47 (by simp only [go_sem] <;> rfl) ze_3 ?_
    refine AW.go ?_ (by simp only [go_sem, ↓reduceIte, mval, e2] <;> rfl)
    refine AW.callE (fun _ => 0) (append_fn [] ix (by omega) (by simp; omega)) (.nilsP 1 (.pv _ .nil)) ?_
    try rw [List.nil_append]
    have hcl : (acc.length + (leb ix).length ≤ room) = True := eq_true (by omega)
    have hcl2 : ((acc ++ leb ix).length + 1 ≤ room) = True := eq_true (by rw [List.length_append]; omega)
    refine AW.go ?_ (by simp only [go_sem, ↓reduceIte, hcl, hcl2, e1, e3, bytes_one, List.length_cons, List.length_nil, Nat.zero_add] <;> rfl)
    exact AW.again hK (i + 1) (by omega) (by omega) (hs := by simp only [go_sem, ↓reduceIte, hfe] <;> rfl)
  have hge : i = es.length := by have := of_decide_eq_false hc; omega
  subst hge
  have hfl := flatMap_le (entB ns) 11 es (fun s hs => entB_len ns s (by omega))
  rw [List.take_length]
  have hcl : ((hh ++ es.flatMap (entB ns)).length + 32 ≤ room) = True := eq_true (by rw [List.length_append]; omega)
  generalize hh ++ es.flatMap (entB ns) = hz at *
  refine AW.go ?_ (by simp only [go_sem, ↓reduceIte, w3, hcl] <;> rfl)
  refine AW.finE (.move rfl (.pv _ .nil)) rfl
end Go.Ck

set_option linter.unusedVariables false
set_option maxRecDepth 100000
set_option maxHeartbeats 400000
namespace Go.Ck
open Go.Proofs
theorem badB_iff (e : Ent) : badB e = (decide (e.2 < 0) || decide (e.2 > 8)) := by
  unfold badB
  rw [Bool.eq_iff_iff]
  have := padSz_zero e.2
  simp only [beq_iff_eq, this, Bool.or_eq_true, decide_eq_true_eq]
  omega
theorem refWrong_fn (m : Man) (hl : m.es.length < 2 ^ 40) : Fn Tryz.prog 42 [] [.pv (manP m)] (fun rs H' => rs = [.pv (.int .i64 (wrongM m : Nat))] ∧ H' = []) := by
  refine Fn.of_body (fn := Tryz.f42) (n := 62) (res := [.tmp 2]) (by kernel_rfl) rfl rfl rfl rfl rfl (fun C => ?_)
  obtain ⟨v, prev, es, root⟩ := m
  simp only at hl
  have hm : manP ⟨v, prev, es, root⟩ = .agg [.int .u64 (v : Int), .sl 1 (bytes prev), .sl 2 (entsP es), .sl 1 (bytes root)] := rfl
  rw [hm]
  unfold wrongM
  simp only
  obtain ⟨b1, hb1⟩ : ∃ b, b = decide (v = 18446744073709551615) := ⟨_, rfl⟩
  obtain ⟨b2, hb2⟩ : ∃ b, b = decide (prev.length ≠ 32) := ⟨_, rfl⟩
  obtain ⟨b3, hb3⟩ : ∃ b, b = decide (root.length ≠ 32) := ⟨_, rfl⟩
  have d1 : ((v : Int) == 18446744073709551615) = b1 := by rw [hb1, Bool.eq_iff_iff]; simp; try omega
  have d2 : ((prev.length : Int) != 32) = b2 := by rw [hb2, Bool.eq_iff_iff]; simp; omega
  have d3 : ((root.length : Int) != 32) = b3 := by rw [hb3, Bool.eq_iff_iff]; simp; omega
  have d2' : (prev.length != 32) = b2 := by rw [hb2, Bool.eq_iff_iff]; simp
  have d3' : (root.length != 32) = b3 := by rw [hb3, Bool.eq_iff_iff]; simp
  have hcond : (v = 18446744073709551615 ∨ prev.length ≠ 32 ∨ root.length ≠ 32) ↔ (b1 || (b2 || b3)) = true := by
    rw [hb1, hb2, hb3]; simp
  by_cases hB : (b1 || (b2 || b3)) = true
  · cases b1 with
    | true =>
      rw [if_pos (hcond.2 rfl)]
      refine AW.gg ?_ (by simp only [go_sem, ↓reduceIte, d1, d2, d3, d2', d3'] <;> rfl)
      refine AW.condT rfl ?_
      refine AW.go ?_
      exact AW.finE (.pv _ .nil) rfl
    | false =>
      cases b2 with
      | true =>
        rw [if_pos (hcond.2 rfl)]
        refine AW.gg ?_ (by simp only [go_sem, ↓reduceIte, d1, d2, d3, d2', d3'] <;> rfl)
        refine AW.condT rfl ?_
        refine AW.go ?_
        exact AW.finE (.pv _ .nil) rfl
      | false =>
        cases b3 with
        | true =>
          rw [if_pos (hcond.2 rfl)]
          refine AW.gg ?_ (by simp only [go_sem, ↓reduceIte, d1, d2, d3, d2', d3'] <;> rfl)
          refine AW.condT rfl ?_
          refine AW.go ?_
          exact AW.finE (.pv _ .nil) rfl
        | false => cases hB
  rw [if_neg (fun h => hB (hcond.1 h))]
  have hb1 : b1 = false := by cases b1 <;> simp_all
  have hb2 : b2 = false := by cases b2 <;> simp_all
  have hb3 : b3 = false := by cases b3 <;> simp_all
  subst hb1 hb2 hb3
  refine AW.gg ?_ (by simp only [go_sem, ↓reduceIte, d1, d2, d3, d2', d3'] <;> rfl)
  refine AW.condF rfl ?_
  refine AW.go ?_
  refine AW.loopS (fun i : Nat => ⟨62, [(3, .pv (.int .i64 i)), (1, .ptr 1 0)], [(1, .cells 26 [.pv (.int .u64 (v : Int)), .pv (.sl 1 (bytes prev)), .pv (.sl 2 (entsP es)), .pv (.sl 1 (bytes root))])]⟩) (fun i => i ≤ es.length ∧ (es.take i).any badB = false) (fun i => es.length - i) [3, 1] [1] 0 ⟨Nat.zero_le _, rfl⟩ ?_
  rintro i ⟨hi, hn⟩ K hK
  refine AW.go ?_
  refine AW.cond rfl (fun hc => ?_) (fun hc => ?_)
  · have hlt : i < es.length := by have := of_decide_eq_true hc; omega
    obtain ⟨e, he⟩ : ∃ e, es[i]? = some e := ⟨es[i], List.getElem?_eq_getElem hlt⟩
    have hg := entsP_get he
    have hst : (es.take (i + 1)).any badB = badB e := by rw [List.take_add_one, he, List.any_append, hn]; simp
    have e1 : IntKind.i64.wrap ((i : Int) + 1) = ((i + 1 : Nat) : Int) := wrap_i64_succ (by omega)
    have d5 := badB_iff e
    obtain ⟨c1, hc1⟩ : ∃ b, b = decide (e.2 < 0) := ⟨_, rfl⟩
    obtain ⟨c2, hc2⟩ : ∃ b, b = decide (e.2 > 8) := ⟨_, rfl⟩
    rw [← hc1, ← hc2] at d5
    have c1' := hc1.symm
    have c2' := hc2.symm
    cases c1 with
    | true =>
      rw [if_pos (List.any_eq_true.2 ⟨e, List.mem_of_getElem? he, d5⟩)]
      refine AW.gg ?_ (by simp only [go_sem, ↓reduceIte, hg, c1', c2'] <;> rfl)
      refine AW.condT rfl ?_
      refine AW.go ?_
      exact AW.finE (.pv _ .nil) rfl
    | false =>
      cases c2 with
      | true =>
        rw [if_pos (List.any_eq_true.2 ⟨e, List.mem_of_getElem? he, d5⟩)]
        refine AW.gg ?_ (by simp only [go_sem, ↓reduceIte, hg, c1', c2'] <;> rfl)
        refine AW.condT rfl ?_
        refine AW.go ?_
        exact AW.finE (.pv _ .nil) rfl
      | false =>
        refine AW.gg ?_ (by simp only [go_sem, ↓reduceIte, hg, c1', c2'] <;> rfl)
        refine AW.condF rfl ?_
        refine AW.go ?_ (by simp only [go_sem, ↓reduceIte, e1] <;> rfl)
        exact AW.again hK (i + 1) (by exact ⟨by omega, by rw [hst]; exact d5⟩) (by omega)
  have hge : i = es.length := by have := of_decide_eq_false hc; omega
  subst hge
  rw [List.take_length] at hn
  rw [if_neg (by rw [hn]; simp)]
  by_cases hL : 1048576 < es.length
  · have d6 : decide ((es.length : Int) > 1048576) = true := decide_eq_true (by omega)
    have d6' : decide (1048576 < es.length) = true := decide_eq_true hL
    rw [if_pos (.inl hL)]
    refine AW.gg ?_ (by simp only [go_sem, ↓reduceIte, d6, d6'] <;> rfl)
    refine AW.condT rfl ?_
    refine AW.go ?_
    exact AW.finE (.pv _ .nil) rfl
  have d6 : decide ((es.length : Int) > 1048576) = false := decide_eq_false (by omega)
  have d6' : decide (1048576 < es.length) = false := decide_eq_false hL
  refine AW.gg ?_ (by simp only [go_sem, ↓reduceIte, d6, d6'] <;> rfl)
  refine AW.condF rfl ?_
  refine AW.go ?_
  refine AW.loopS (fun i : Nat => ⟨62, [(4, .pv (.int .i64 i)), (1, .ptr 1 0)], [(1, .cells 26 [.pv (.int .u64 (v : Int)), .pv (.sl 1 (bytes prev)), .pv (.sl 2 (entsP es)), .pv (.sl 1 (bytes root))])]⟩) (fun i => i ≤ es.length ∧ (es.take i).any longB = false) (fun i => es.length - i) [4, 1] [1] 0 ⟨Nat.zero_le _, rfl⟩ ?_
  rintro i ⟨hi, hn⟩ K hK
  refine AW.go ?_
  refine AW.cond rfl (fun hc => ?_) (fun hc => ?_)
  · have hlt : i < es.length := by have := of_decide_eq_true hc; omega
    obtain ⟨e, he⟩ : ∃ e, es[i]? = some e := ⟨es[i], List.getElem?_eq_getElem hlt⟩
    have hg := entsP_get he
    have hst : (es.take (i + 1)).any longB = longB e := by rw [List.take_add_one, he, List.any_append, hn]; simp
    have e1 : IntKind.i64.wrap ((i : Int) + 1) = ((i + 1 : Nat) : Int) := wrap_i64_succ (by omega)
    have d7 : decide (64 < e.1.length) = longB e := rfl
    have d7' : decide ((e.1.length : Int) > 64) = longB e := by unfold longB; rw [Bool.eq_iff_iff]; simp; omega
    cases hlb : longB e with
    | true =>
      rw [if_pos (.inr (List.any_eq_true.2 ⟨e, List.mem_of_getElem? he, hlb⟩))]
      refine AW.gg ?_ (by simp only [go_sem, ↓reduceIte, hg, d7, d7', hlb] <;> rfl)
      refine AW.condT rfl ?_
      refine AW.go ?_
      exact AW.finE (.pv _ .nil) rfl
    | false =>
      refine AW.gg ?_ (by simp only [go_sem, ↓reduceIte, hg, d7, d7', hlb] <;> rfl)
      refine AW.condF rfl ?_
      refine AW.go ?_ (by simp only [go_sem, ↓reduceIte, e1] <;> rfl)
      exact AW.again hK (i + 1) (by exact ⟨by omega, by rw [hst]; exact hlb⟩) (by omega)
  have hge : i = es.length := by have := of_decide_eq_false hc; omega
  subst hge
  rw [List.take_length] at hn
  rw [if_neg (by rw [hn]; simp [hL])]
  refine AW.go ?_
  exact AW.finE (.pv _ .nil) rfl
theorem place_fn (ls : List (List UInt8)) (s : List UInt8) (hm : s ∈ ls) (hl : ls.length < 2 ^ 40) : Fn Tryz.prog 47 [] [.pv (.sl 1 (strs ls)), .pv (.str s)] (fun rs H' => rs = [.pv (.int .i64 (ls.idxOf s : Nat))] ∧ H' = []) := by
  refine Fn.of_body (fn := Tryz.f47) (n := 19) (res := [.tmp 4]) (by kernel_rfl) rfl rfl rfl rfl rfl (fun C => ?_)
  refine AW.go ?_
  refine AW.loopS (fun i : Nat => ⟨19, [(5, .pv (.int .i64 i)), (0, .pv (.sl 1 (strs ls))), (1, .pv (.str s))], []⟩) (fun i => i ≤ ls.length ∧ s ∉ ls.take i) (fun i => ls.length - i) [5, 0, 1] [] 0 ⟨Nat.zero_le _, by simp⟩ ?_
  rintro i ⟨hi, hn⟩ K hK
  refine AW.go ?_
  refine AW.cond rfl (fun hc => ?_) (fun hc => ?_)
  · have hlt : i < ls.length := by have := of_decide_eq_true hc; omega
    obtain ⟨t, ht⟩ : ∃ t, ls[i]? = some t := ⟨ls[i], List.getElem?_eq_getElem hlt⟩
    have hg := strs_get ht
    have e1 : IntKind.i64.wrap ((i : Int) + 1) = ((i + 1 : Nat) : Int) := wrap_i64_succ (by omega)
    refine AW.go ?_ (by simp only [go_sem, ↓reduceIte, hg] <;> rfl)
    by_cases hts : t = s
    · subst hts
      have d : (t == t) = true := by simp
      have hix := idx_at ht hn
      rw [hix]
      refine AW.gg ?_ (by simp only [go_sem, ↓reduceIte, d] <;> rfl)
      refine AW.condT rfl ?_
      refine AW.go ?_
      exact AW.finE (.pv _ .nil) rfl
    · have d : (t == s) = false := by simpa using hts
      refine AW.gg ?_ (by simp only [go_sem, ↓reduceIte, d] <;> rfl)
      refine AW.condF rfl ?_
      refine AW.go ?_ (by simp only [go_sem, ↓reduceIte, e1] <;> rfl)
      exact AW.again hK (i + 1) (by exact ⟨hlt, by rw [List.take_add_one, ht]; simp [hn]; exact fun h => hts h.symm⟩) (by omega)
  have hge : i = ls.length := by have := of_decide_eq_false hc; omega
  subst hge
  rw [List.take_length] at hn
  exact absurd hm hn
end Go.Ck

set_option linter.unusedVariables false
set_option maxRecDepth 100000
set_option maxHeartbeats 400000
namespace Go.Ck
open Go.Proofs
theorem strs_take (ls : List (List UInt8)) (j : Nat) : (strs ls).take j = strs (ls.take j) := by simp [strs, List.map_take]
theorem strs_drop (ls : List (List UInt8)) (j : Nat) : (strs ls).drop j = strs (ls.drop j) := by simp [strs, List.map_drop]
theorem strs_ins (a b : List (List UInt8)) (s : List UInt8) : strs a ++ [.str s] ++ strs b = strs (a ++ s :: b) := by simp [strs]
theorem tenants_fn (es : List Ent) (hl : es.length < 2 ^ 30) : Fn Tryz.prog 44 [] [.pv (.sl 2 (entsP es))] (fun rs H' => rs = [.pv (.sl 1 (strs (dirS es)))] ∧ H' = []) := by
  refine Fn.of_body (fn := Tryz.f44) (n := 63) (res := [.tmp 2]) (by kernel_rfl) rfl rfl rfl rfl rfl (fun C => ?_)
  have hroom : room = 140737488355328 := rfl
  rw [← tnS_dir]
  refine AW.go ?_
  refine AW.freeze (p := .slot 3) (by simp only [go_sem, ↓reduceIte, freeze, freezeO] <;> rfl) ?_
  refine AW.loopS (fun i : Nat => ⟨63, [(4, .pv (.int .i64 i)), (0, .pv (.sl 2 (entsP es))), (3, .pv (.sl 1 (strs (tnS (es.take i)))))], []⟩) (fun i => i ≤ es.length) (fun i => es.length - i) [4, 0, 3] [] 0 (Nat.zero_le _) ?_
  rintro i hi K hK
  have hnl := tnS_len (es.take i)
  rw [List.length_take] at hnl
  have hsrt := tnS_sorted (es.take i)
  refine AW.go ?_
  refine AW.cond rfl (fun hc => ?_) (fun hc => ?_)
  · have hlt : i < es.length := by have := of_decide_eq_true hc; omega
    obtain ⟨e, he⟩ : ∃ e, es[i]? = some e := ⟨es[i], List.getElem?_eq_getElem hlt⟩
    have hg := entsP_get he
    have hsu := tnS_succ he
    have e1 : IntKind.i64.wrap ((i : Int) + 1) = ((i + 1 : Nat) : Int) := wrap_i64_succ (by omega)
    generalize tnS (es.take i) = ls at *
    have hlts : (i < es.length) = True := eq_true hlt
    refine AW.go ?_
    refine AW.loopS (fun j : Nat => ⟨63, [(5, .pv (.int .i64 j)), (4, .pv (.int .i64 i)), (0, .pv (.sl 2 (entsP es))), (3, .pv (.sl 1 (strs ls)))], []⟩) (fun j => j ≤ ls.length ∧ ∀ a ∈ ls.take j, a < e.1) (fun j => ls.length - j) [5, 4, 0, 3] [] 0 ⟨Nat.zero_le _, by simp⟩ ?_
    rintro j ⟨hj, hja⟩ K2 hK2
    have hjr : (j ≤ ls.length) = True := eq_true hj
    have htk := strs_take ls j
    have hdr := strs_drop ls j
    have ej : IntKind.i64.wrap ((j : Int) + 1) = ((j + 1 : Nat) : Int) := wrap_i64_succ (by omega)
    have hii : ∀ h : ls[j]? ≠ some e.1, ∀ h2 : (∀ a, ls[j]? = some a → ¬ a < e.1), insS e.1 ls = ls.take j ++ e.1 :: ls.drop j := fun h h2 => by
      rw [insS_at e.1 ls j hj hja h2, if_neg h]
    refine AW.go ?_
    refine via (T := insS e.1 ls = ls.take j ++ e.1 :: ls.drop j → ?Tins) (fun hT => ?_) ?_; rotate_left
    · rcases Nat.lt_or_ge j ls.length with hjl | hjl
      · obtain ⟨t, ht⟩ : ∃ t, ls[j]? = some t := ⟨ls[j], List.getElem?_eq_getElem hjl⟩
        have hgt := strs_get ht
        have djl : decide (j < ls.length) = true := decide_eq_true hjl
        have djl' : decide ((j : Int) < (ls.length : Int)) = true := decide_eq_true (by omega)
        have hbl : Op.bytesLess t e.1 = decide (t < e.1) := Go.Proofs.bytesLess_eq t e.1
        by_cases hlt2 : t < e.1
        · have dlt : decide (t < e.1) = true := decide_eq_true hlt2
          refine AW.sr mixed (by decide +kernel) ?_ (by simp only [go_sem, ↓reduceIte, hg, hgt, djl, djl', hbl, dlt] <;> rfl)
          refine AW.go ?_
          refine AW.condT rfl ?_
          refine AW.go ?_ (by simp only [go_sem, ↓reduceIte, ej] <;> rfl)
          exact AW.again hK2 (j + 1) (by exact ⟨hjl, by rw [List.take_add_one, ht]; intro a ha; rcases List.mem_append.1 ha with ha | ha; exact hja a ha; simp at ha; subst ha; exact hlt2⟩) (by omega)
        · have dlt : decide (t < e.1) = false := decide_eq_false hlt2
          refine AW.sr mixed (by decide +kernel) ?_ (by simp only [go_sem, ↓reduceIte, hg, hgt, djl, djl', hbl, dlt] <;> rfl)
          refine AW.go ?_
          refine AW.condF rfl ?_
          refine AW.go ?_
          by_cases heq : t = e.1
          · have de : (t == e.1) = true := by simpa using heq
            refine AW.sr mixed (by decide +kernel) ?_ (by simp only [go_sem, ↓reduceIte, hg, hgt, djl, djl', de] <;> rfl)
            refine AW.go ?_
            refine AW.condT rfl ?_
            have hin : insS e.1 ls = ls := by
              rw [insS_at e.1 ls j hj hja (fun a ha => by rw [ht] at ha; cases ha; exact hlt2), if_pos (by rw [ht, heq])]
            rw [hin] at hsu
            refine AW.go ?_ (by simp only [go_sem, ↓reduceIte, e1] <;> rfl)
            exact AW.again hK (i + 1) (by omega) (by omega) (hs := by simp only [go_sem, ↓reduceIte, hsu] <;> rfl)
          · have de : (t == e.1) = false := by simpa using heq
            refine AW.sr mixed (by decide +kernel) ?_ (by simp only [go_sem, ↓reduceIte, hg, hgt, djl, djl', de] <;> rfl)
            refine AW.go ?_
            refine AW.condF rfl ?_
            refine AW.go ?_
            refine AW.keepB [5, 4, 0, 3] [] (s' := ⟨63, [(5, .pv (.int .i64 j)), (4, .pv (.int .i64 i)), (0, .pv (.sl 2 (entsP es))), (3, .pv (.sl 1 (strs ls)))], []⟩) (by simp only [go_sem, ↓reduceIte]) (by simp only [go_sem, ↓reduceIte] <;> rfl) ?_
            exact hT () (hii (by rw [ht]; exact fun h => heq (by cases h; rfl)) (fun a ha => by rw [ht] at ha; cases ha; exact hlt2))
      · have djl : decide (j < ls.length) = false := decide_eq_false (by omega)
        have djl' : decide ((j : Int) < (ls.length : Int)) = false := decide_eq_false (by omega)
        have hnone : ls[j]? = none := List.getElem?_eq_none hjl
        refine AW.sr mixed (by decide +kernel) ?_ (by simp only [go_sem, ↓reduceIte, hg, djl, djl'] <;> rfl)
        refine AW.go ?_
        refine AW.condF rfl ?_
        refine AW.go ?_
        refine AW.sr mixed (by decide +kernel) ?_ (by simp only [go_sem, ↓reduceIte, hg, djl, djl'] <;> rfl)
        refine AW.go ?_
        refine AW.condF rfl ?_
        refine AW.go ?_
        refine AW.keepB [5, 4, 0, 3] [] (s' := ⟨63, [(5, .pv (.int .i64 j)), (4, .pv (.int .i64 i)), (0, .pv (.sl 2 (entsP es))), (3, .pv (.sl 1 (strs ls)))], []⟩) (by simp only [go_sem, ↓reduceIte]) (by simp only [go_sem, ↓reduceIte] <;> rfl) ?_
        exact hT () (hii (by rw [hnone]; simp) (fun a ha => by rw [hnone] at ha; cases ha))
    intro hin
    rw [hin] at hsu
    have hA : (ls.take j).length = j := by rw [List.length_take]; omega
    have hB : (ls.drop j).length = ls.length - j := by rw [List.length_drop]
    have hfin := strs_ins (ls.take j) (ls.drop j) e.1
    rw [← hsu] at hfin
    generalize ls.take j = A at *
    generalize ls.drop j = B at *
    have q1 : (A.length * 16 ≤ room) = True := eq_true (by omega)
    have q2 : (A.length ≤ room) = True := eq_true (by omega)
    have q3 : ((A.length + 1) * 16 ≤ room) = True := eq_true (by omega)
    have q4 : (A.length + 1 ≤ room) = True := eq_true (by omega)
    have q5 : ((A.length + 1 + B.length) * 16 ≤ room) = True := eq_true (by omega)
    have q6 : (A.length + 1 + B.length ≤ room) = True := eq_true (by omega)
    have htB : (strs B).take ((ls.length : Int) - (j : Int)).toNat = strs B := List.take_of_length_le (by rw [strs_len]; omega)
    refine AW.any0 mixed ?_
    refine AW.takes (fuel := 7) [1, 2, 3, 5, 6, 7, 8, 12, 13, 14] ?_ (by simp only [go_sem, ↓reduceIte, hg, htk, hdr, hjr, htB] <;> rfl) Ends.noPanic (listed' := #[false, true, true, true, false, true, true, true, true, false, false, false, true, true, true, false, false]) (by decide +kernel) (by decide +kernel)
    refine via (T := ?Tend) (fun hT => ?_) ?_; rotate_left
    · skip
      refine AW.branch (fuel := 6) (rs := [0, 9]) ?_ (by decide +kernel) (by simp)
      intro j hj
      simp only [List.mem_cons, List.not_mem_nil, or_false] at hj
      rcases hj with rfl | rfl
      · skip
        refine AW.gg ?_ (by simp only [go_sem, ↓reduceIte, q1, q2, q3, q4, q5, q6, hg, strs_len, List.nil_append, List.length_nil, Nat.zero_add, List.length_append, List.length_cons] <;> rfl)
        refine AW.branch (fuel := 5) (rs := [4, 9]) ?_ (by decide +kernel) (by simp)
        intro j hj
        simp only [List.mem_cons, List.not_mem_nil, or_false] at hj
        rcases hj with rfl | rfl
        · skip
          refine AW.gg ?_ (by simp only [go_sem, ↓reduceIte, q1, q2, q3, q4, q5, q6, hg, strs_len, List.nil_append, List.length_nil, Nat.zero_add, List.length_append, List.length_cons] <;> rfl)
          refine AW.seqs (fuel := 0) (listed' := Array.replicate 17 true) [9, 10, 11, 15, 16] ?_ (by decide +kernel)
          refine AW.gg ?_ (by simp only [go_sem, ↓reduceIte, q1, q2, q3, q4, q5, q6, hg, strs_len, List.nil_append, List.length_nil, Nat.zero_add, List.length_append, List.length_cons] <;> rfl)
          refine AW.anyDone (by decide +kernel) ?_
          refine AW.keepB [4, 0, 3] [] (s' := ⟨63, [(4, .pv (.int .i64 i)), (0, .pv (.sl 2 (entsP es))), (3, .own 9 (strs A ++ [.str e.1] ++ strs B))], []⟩) (by simp only [go_sem, ↓reduceIte]) (by simp only [go_sem, ↓reduceIte] <;> rfl) ?_
          exact hT ()
        · skip
          refine AW.gg ?_ (by simp only [go_sem, ↓reduceIte, q1, q2, q3, q4, q5, q6, hg, strs_len, List.nil_append, List.length_nil, Nat.zero_add, List.length_append, List.length_cons] <;> rfl)
          refine AW.branch (fuel := 4) (rs := [4, 10]) ?_ (by decide +kernel) (by simp)
          intro j hj
          simp only [List.mem_cons, List.not_mem_nil, or_false] at hj
          rcases hj with rfl | rfl
          · skip
            refine AW.gg ?_ (by simp only [go_sem, ↓reduceIte, q1, q2, q3, q4, q5, q6, hg, strs_len, List.nil_append, List.length_nil, Nat.zero_add, List.length_append, List.length_cons] <;> rfl)
            refine AW.seqs (fuel := 0) (listed' := Array.replicate 17 true) [10, 11, 15, 16] ?_ (by decide +kernel)
            refine AW.gg ?_ (by simp only [go_sem, ↓reduceIte, q1, q2, q3, q4, q5, q6, hg, strs_len, List.nil_append, List.length_nil, Nat.zero_add, List.length_append, List.length_cons] <;> rfl)
            refine AW.anyDone (by decide +kernel) ?_
            refine AW.keepB [4, 0, 3] [] (s' := ⟨63, [(4, .pv (.int .i64 i)), (0, .pv (.sl 2 (entsP es))), (3, .own 9 (strs A ++ [.str e.1] ++ strs B))], []⟩) (by simp only [go_sem, ↓reduceIte]) (by simp only [go_sem, ↓reduceIte] <;> rfl) ?_
            exact hT ()
          · skip
            refine AW.gg ?_ (by simp only [go_sem, ↓reduceIte, q1, q2, q3, q4, q5, q6, hg, strs_len, List.nil_append, List.length_nil, Nat.zero_add, List.length_append, List.length_cons] <;> rfl)
            refine AW.seqs (fuel := 0) (listed' := Array.replicate 17 true) [4, 11, 15, 16] ?_ (by decide +kernel)
            refine AW.gg ?_ (by simp only [go_sem, ↓reduceIte, q1, q2, q3, q4, q5, q6, hg, strs_len, List.nil_append, List.length_nil, Nat.zero_add, List.length_append, List.length_cons] <;> rfl)
            refine AW.anyDone (by decide +kernel) ?_
            refine AW.keepB [4, 0, 3] [] (s' := ⟨63, [(4, .pv (.int .i64 i)), (0, .pv (.sl 2 (entsP es))), (3, .own 9 (strs A ++ [.str e.1] ++ strs B))], []⟩) (by simp only [go_sem, ↓reduceIte]) (by simp only [go_sem, ↓reduceIte] <;> rfl) ?_
            exact hT ()
      · skip
        refine AW.gg ?_ (by simp only [go_sem, ↓reduceIte, q1, q2, q3, q4, q5, q6, hg, strs_len, List.nil_append, List.length_nil, Nat.zero_add, List.length_append, List.length_cons] <;> rfl)
        refine AW.branch (fuel := 5) (rs := [0, 10]) ?_ (by decide +kernel) (by simp)
        intro j hj
        simp only [List.mem_cons, List.not_mem_nil, or_false] at hj
        rcases hj with rfl | rfl
        · skip
          refine AW.gg ?_ (by simp only [go_sem, ↓reduceIte, q1, q2, q3, q4, q5, q6, hg, strs_len, List.nil_append, List.length_nil, Nat.zero_add, List.length_append, List.length_cons] <;> rfl)
          refine AW.branch (fuel := 4) (rs := [4, 10]) ?_ (by decide +kernel) (by simp)
          intro j hj
          simp only [List.mem_cons, List.not_mem_nil, or_false] at hj
          rcases hj with rfl | rfl
          · skip
            refine AW.gg ?_ (by simp only [go_sem, ↓reduceIte, q1, q2, q3, q4, q5, q6, hg, strs_len, List.nil_append, List.length_nil, Nat.zero_add, List.length_append, List.length_cons] <;> rfl)
            refine AW.seqs (fuel := 0) (listed' := Array.replicate 17 true) [10, 11, 15, 16] ?_ (by decide +kernel)
            refine AW.gg ?_ (by simp only [go_sem, ↓reduceIte, q1, q2, q3, q4, q5, q6, hg, strs_len, List.nil_append, List.length_nil, Nat.zero_add, List.length_append, List.length_cons] <;> rfl)
            refine AW.anyDone (by decide +kernel) ?_
            refine AW.keepB [4, 0, 3] [] (s' := ⟨63, [(4, .pv (.int .i64 i)), (0, .pv (.sl 2 (entsP es))), (3, .own 9 (strs A ++ [.str e.1] ++ strs B))], []⟩) (by simp only [go_sem, ↓reduceIte]) (by simp only [go_sem, ↓reduceIte] <;> rfl) ?_
            exact hT ()
          · skip
            refine AW.gg ?_ (by simp only [go_sem, ↓reduceIte, q1, q2, q3, q4, q5, q6, hg, strs_len, List.nil_append, List.length_nil, Nat.zero_add, List.length_append, List.length_cons] <;> rfl)
            refine AW.seqs (fuel := 0) (listed' := Array.replicate 17 true) [4, 11, 15, 16] ?_ (by decide +kernel)
            refine AW.gg ?_ (by simp only [go_sem, ↓reduceIte, q1, q2, q3, q4, q5, q6, hg, strs_len, List.nil_append, List.length_nil, Nat.zero_add, List.length_append, List.length_cons] <;> rfl)
            refine AW.anyDone (by decide +kernel) ?_
            refine AW.keepB [4, 0, 3] [] (s' := ⟨63, [(4, .pv (.int .i64 i)), (0, .pv (.sl 2 (entsP es))), (3, .own 9 (strs A ++ [.str e.1] ++ strs B))], []⟩) (by simp only [go_sem, ↓reduceIte]) (by simp only [go_sem, ↓reduceIte] <;> rfl) ?_
            exact hT ()
        · skip
          refine AW.gg ?_ (by simp only [go_sem, ↓reduceIte, q1, q2, q3, q4, q5, q6, hg, strs_len, List.nil_append, List.length_nil, Nat.zero_add, List.length_append, List.length_cons] <;> rfl)
          refine AW.seqs (fuel := 0) (listed' := Array.replicate 17 true) [0, 4, 11, 15, 16] ?_ (by decide +kernel)
          refine AW.gg ?_ (by simp only [go_sem, ↓reduceIte, q1, q2, q3, q4, q5, q6, hg, strs_len, List.nil_append, List.length_nil, Nat.zero_add, List.length_append, List.length_cons] <;> rfl)
          refine AW.anyDone (by decide +kernel) ?_
          refine AW.keepB [4, 0, 3] [] (s' := ⟨63, [(4, .pv (.int .i64 i)), (0, .pv (.sl 2 (entsP es))), (3, .own 9 (strs A ++ [.str e.1] ++ strs B))], []⟩) (by simp only [go_sem, ↓reduceIte]) (by simp only [go_sem, ↓reduceIte] <;> rfl) ?_
          exact hT ()
    rw [hfin]
    refine AW.freeze (p := .slot 3) (by simp only [go_sem, ↓reduceIte, freeze, freezeO] <;> rfl) ?_
    refine AW.go ?_ (by simp only [go_sem, ↓reduceIte, e1] <;> rfl)
    exact AW.again hK (i + 1) (by omega) (by omega)
  have hge : i = es.length := by have := of_decide_eq_false hc; omega
  subst hge
  rw [List.take_length]
  refine AW.go ?_
  exact AW.finE (.pv _ .nil) rfl
end Go.Ck

set_option linter.unusedVariables false
set_option maxRecDepth 100000
set_option maxHeartbeats 400000
namespace Go.Ck
open Go.Proofs
theorem ref21Enc_fn (m : Man) (hv : m.v < 2 ^ 64) (hl : m.es.length < 2 ^ 29) : Fn Tryz.prog 18 [] [.pv (manP m)] (fun rs H' => rs = [.own 5 (bytes (encM m).1), .pv (.int .i64 (encM m).2)] ∧ H' = []) := by
  refine Fn.of_body (fn := Tryz.f18) (n := 83) (res := [.tmp 2, .tmp 3]) (by kernel_rfl) rfl rfl rfl rfl rfl (fun C => ?_)
  have hroom : room = 140737488355328 := rfl
  have hm : manP m = .agg [.int .u64 (m.v : Int), .sl 1 (bytes m.prev), .sl 2 (entsP m.es), .sl 1 (bytes m.root)] := rfl
  have hwf := refWrong_fn m (by omega)
  rw [hm] at hwf ⊢
  unfold encM
  refine AW.go ?_
  refine AW.callE (fun _ => 0) hwf (.pv _ .nil) ?_
  refine AW.go ?_
  refine AW.cond rfl (fun hc => ?_) (fun hc => ?_)
  · have hw : wrongM m ≠ 0 := by
      intro h; rw [h] at hc; exact absurd hc (by decide)
    rw [if_pos hw]
    refine AW.go ?_
    refine AW.finE (.move rfl (.pv _ .nil)) rfl
  have hw : wrongM m = 0 := by
    have h2 : ((wrongM m : Int) == 0) = true := by simpa [bne] using hc
    have := eq_of_beq h2
    omega
  rw [if_neg (by simp [hw])]
  obtain ⟨w1, w2, w3, w4, w5, w6⟩ := wrongM_zero hw
  have hnn := dirS_nodup m.es
  have hnl : (dirS m.es).length ≤ m.es.length := by rw [dirS_len]; exact nmS_len _
  have hnm := dirS_mem m.es
  have hn64 : ∀ s ∈ dirS m.es, s.length ≤ 64 := by
    intro s hs
    obtain ⟨e, he, rfl⟩ := (hnm s).1 hs
    exact w6 e he
  have hnmS : ∀ e ∈ m.es, e.1 ∈ nmS m.es := fun e he => (nmS_mem m.es e.1).2 ⟨e, he, rfl⟩
  have hdf := tenants_fn m.es (by omega)
  unfold bodyM headM
  obtain ⟨v, prev, es, root⟩ := m
  simp only at *
  clear hwf hw hm hc
  have hdi := dirS_sorted es
  have hbl := beB_len v 8
  have hh4 : ([.int .u8 67, .int .u8 83, .int .u8 75, .int .u8 49] : List PV) ++ bytes (beB v 8) = bytes ([67, 83, 75, 49] ++ beB v 8) := rfl
  have m4 : (4 ≤ maxLen) = True := eq_true (le_maxLen 4)
  have r1 : (4 + (beB v 8).length ≤ room) = True := eq_true (by omega)
  have g1 : (([67, 83, 75, 49] ++ beB v 8 : List Nat).length + 32 ≤ room) = True := eq_true (by rw [List.length_append, hbl]; simp; omega)
  have hdl : ([67, 83, 75, 49] ++ beB v 8 ++ prev).length = 44 := by simp [hbl, w2]
  generalize hns : dirS es = ns at *
  refine AW.go ?_ (by simp only [go_sem, ↓reduceIte, m4] <;> rfl)
  refine AW.callE (fun _ => 0) (refFix_fn v 8 hv (by omega)) (.pv _ (.pv _ .nil)) ?_
  generalize beB v 8 = bv at *
  have g2 : (bv.length + 1 + 1 + 1 + 1 + 32 ≤ room) = True := eq_true (by omega)
  refine AW.go ?_ (by simp only [go_sem, ↓reduceIte, List.length_cons, List.length_nil, Nat.zero_add, r1, bytes_consC, w2, g1, g2, List.cons_append, List.nil_append] <;> rfl)
  have hh5 : (PV.int .u8 67 :: PV.int .u8 83 :: PV.int .u8 75 :: PV.int .u8 49 :: bytes (bv ++ prev)) = bytes ([67, 83, 75, 49] ++ bv ++ prev) := rfl
  rw [hh5]
  clear hh4 hh5 g1
  generalize [67, 83, 75, 49] ++ bv ++ prev = hd at *
  have wl : IntKind.u64.wrap (ns.length : Int) = (ns.length : Int) := wrap_u64_lt (by omega)
  have wm : IntKind.u64.wrap (es.length : Int) = (es.length : Int) := wrap_u64_lt (by omega)
  refine AW.callE (fun _ => 0) hdf (.pv _ .nil) ?_
  refine AW.go ?_ (by simp only [go_sem, ↓reduceIte, wl] <;> rfl)
  refine AW.callE (fun _ => 0) (refAppend_fn hd ns.length (by omega) (by omega)) (.lend rfl co_5 (.pv _ .nil)) ?_
  have l1 := leb_len10 (v := ns.length) (by omega)
  have l2 := leb_len10 (v := es.length) (by omega)
  have hal : (hd ++ leb ns.length).length ≤ 54 := by rw [List.length_append]; omega
  generalize hd ++ leb ns.length = ha at *
  refine AW.go ?_
  refine AW.loopS (fun i : Nat => ⟨83, [(7, .pv (.int .i64 i)), (6, .pv (.sl 1 (strs ns))), (5, .own 5 (bytes (ha ++ (ns.take i).flatMap blkS))), (1, .ptr 1 0)], [(1, .cells 26 [.pv (.int .u64 v), .pv (.sl 1 (bytes prev)), .pv (.sl 2 (entsP es)), .pv (.sl 1 (bytes root))])]⟩) (fun i => i ≤ ns.length) (fun i => ns.length - i) [7, 6, 5, 1] [1] 0 (Nat.zero_le _) ?_ (hs := by simp only [go_sem, ↓reduceIte, List.take_zero, List.flatMap_nil, List.append_nil] <;> rfl)
  rintro i hi K hK
  refine AW.go ?_
  refine AW.cond rfl (fun hc => ?_) (fun hc => ?_)
  · have hlt : i < ns.length := by have := of_decide_eq_true hc; omega
    obtain ⟨t, ht⟩ : ∃ t, ns[i]? = some t := ⟨ns[i], List.getElem?_eq_getElem hlt⟩
    have hg := strs_get ht
    have htl : t.length ≤ 64 := hn64 t (List.mem_of_getElem? ht)
    have htm : t.length ≤ maxLen := Nat.le_trans htl (le_maxLen 64)
    have e1 : IntKind.i64.wrap ((i : Int) + 1) = ((i + 1 : Nat) : Int) := wrap_i64_succ (by omega)
    have l1 : (i < ns.length) = True := eq_true hlt
    have hfl := flatMap_le blkS 74 (ns.take i) (fun s hs => blkS_len s (hn64 s (List.mem_of_mem_take hs)))
    rw [List.length_take] at hfl
    have hfs := flatMap_take blkS ht
    have hbl := blkS_len t htl
    have hnb : (nb t).length = t.length := by simp [nb]
    refine AW.go ?_ (by simp only [go_sem, ↓reduceIte, hg, l1] <;> rfl)
    refine AW.ofStr htm tk_9 tk_22 tk_5 ?_
    rw [strBytes_nb]
    refine AW.go ?_
    refine AW.callE (fun _ => 0) (refBlocked_fn (nb t) (by omega)) (.pv _ .nil) ?_
    have eb : leb (nb t).length ++ nb t = blkS t := by rw [hnb]; rfl
    rw [eb]
    have hcl : ((ha ++ (ns.take i).flatMap blkS).length + (blkS t).length ≤ room) = True := eq_true (by rw [List.length_append]; omega)
    have hfe : ha ++ (ns.take i).flatMap blkS ++ blkS t = ha ++ (ns.take (i + 1)).flatMap blkS := by rw [hfs, List.append_assoc]
    generalize ha ++ (ns.take i).flatMap blkS = acc at *
    generalize blkS t = bt at *
    refine AW.go ?_ (by simp only [go_sem, ↓reduceIte, hcl, e1] <;> rfl)
    exact AW.again hK (i + 1) (by omega) (by omega) (hs := by simp only [go_sem, ↓reduceIte, hfe] <;> rfl)
  have hge : i = ns.length := by have := of_decide_eq_false hc; omega
  subst hge
  have hfl := flatMap_le blkS 74 ns (fun s hs => blkS_len s (hn64 s hs))
  have hbl : (ha ++ ns.flatMap blkS).length ≤ 54 + 74 * ns.length := by rw [List.length_append]; omega
  rw [List.take_length]
  generalize ha ++ ns.flatMap blkS = hb at *
  refine AW.go ?_ (by simp only [go_sem, ↓reduceIte, wm] <;> rfl)
  refine AW.callE (fun _ => 0) (refAppend_fn hb es.length (by omega) (by omega)) (.lend rfl co_5 (.pv _ .nil)) ?_
  have hdl : (hb ++ leb es.length).length ≤ 64 + 74 * ns.length := by rw [List.length_append]; omega
  refine AW.go ?_
  generalize hb ++ leb es.length = hh at *
  refine AW.loopS (fun i : Nat => ⟨83, [(8, .pv (.int .i64 i)), (6, .pv (.sl 1 (strs ns))), (5, .own 5 (bytes (hh ++ (es.take i).flatMap (entB ns)))), (1, .ptr 1 0)], [(1, .cells 26 [.pv (.int .u64 v), .pv (.sl 1 (bytes prev)), .pv (.sl 2 (entsP es)), .pv (.sl 1 (bytes root))])]⟩) (fun i => i ≤ es.length) (fun i => es.length - i) [8, 6, 5, 1] [1] 0 (Nat.zero_le _) ?_ (hs := by simp only [go_sem, ↓reduceIte, List.take_zero, List.flatMap_nil, List.append_nil] <;> rfl)
  rintro i hi K hK
  refine AW.go ?_
  refine AW.cond rfl (fun hc => ?_) (fun hc => ?_)
  · have hlt : i < es.length := by have := of_decide_eq_true hc; omega
    obtain ⟨e, he⟩ : ∃ e, es[i]? = some e := ⟨es[i], List.getElem?_eq_getElem hlt⟩
    have hg := entsP_get he
    have hem := List.mem_of_getElem? he
    have e1 : IntKind.i64.wrap ((i : Int) + 1) = ((i + 1 : Nat) : Int) := wrap_i64_succ (by omega)
    have hfl := flatMap_le (entB ns) 11 (es.take i) (fun s hs => entB_len ns s (by omega))
    rw [List.length_take] at hfl
    have hfs := flatMap_take (entB ns) he
    have hpf := place_fn ns e.1 ((hnm e.1).2 ⟨e, hem, rfl⟩) (by omega)
    have hix := idx_le ns e.1
    obtain ⟨q1, q2⟩ := w4 e hem
    have e2 : IntKind.u64.wrap ((ns.idxOf e.1 : Nat) : Int) = ((ns.idxOf e.1 : Nat) : Int) := wrap_u64_lt (by omega)
    have e3 : IntKind.u8.wrap e.2 = ((e.2.toNat : Nat) : Int) := by
      have : e.2 = ((e.2.toNat : Nat) : Int) := by omega
      rw [this, wrap_u8, Int.toNat_natCast, Nat.mod_eq_of_lt (by omega)]
    have heB : entB ns e = leb (ns.idxOf e.1) ++ [e.2.toNat] := rfl
    have hlx := leb_len10 (v := ns.idxOf e.1) (by omega)
    have hacl : (hh ++ (es.take i).flatMap (entB ns)).length ≤ 64 + 74 * ns.length + 11 * es.length := by rw [List.length_append]; omega
    have hfe : hh ++ (es.take i).flatMap (entB ns) ++ leb (ns.idxOf e.1) ++ [e.2.toNat] = hh ++ (es.take (i + 1)).flatMap (entB ns) := by rw [hfs, heB]; simp
    generalize hh ++ (es.take i).flatMap (entB ns) = acc at *
    generalize ns.idxOf e.1 = ix at *
    refine AW.go ?_ (by simp only [go_sem, ↓reduceIte, hg] <;> rfl)
    refine AW.callE (fun _ => 0) hpf (.pv _ (.pv _ .nil)) ?_
    refine AW.go ?_ (by simp only [go_sem, ↓reduceIte, e2] <;> rfl)
    refine AW.callE (fun _ => 0) (refAppend_fn acc ix (by omega) (by omega)) (.lend rfl co_5 (.pv _ .nil)) ?_
    have hcl2 : ((acc ++ leb ix).length + 1 ≤ room) = True := eq_true (by rw [List.length_append]; omega)
    refine AW.go ?_ (by simp only [go_sem, ↓reduceIte, hg, hcl2, e1, e3, bytes_one, List.length_cons, List.length_nil, Nat.zero_add] <;> rfl)
    exact AW.again hK (i + 1) (by omega) (by omega) (hs := by simp only [go_sem, ↓reduceIte, hfe] <;> rfl)
  have hge : i = es.length := by have := of_decide_eq_false hc; omega
  subst hge
  have hfl := flatMap_le (entB ns) 11 es (fun s hs => entB_len ns s (by omega))
  rw [List.take_length]
  have hcl : ((hh ++ es.flatMap (entB ns)).length + 32 ≤ room) = True := eq_true (by rw [List.length_append]; omega)
  generalize hh ++ es.flatMap (entB ns) = hz at *
  refine AW.go ?_ (by simp only [go_sem, ↓reduceIte, w3, hcl] <;> rfl)
  refine AW.finE (.move rfl (.pv _ .nil)) rfl
end Go.Ck

set_option linter.unusedVariables false
set_option maxRecDepth 100000
set_option maxHeartbeats 400000
namespace Go.Ck
open Go.Proofs
def failE (e : Int) : PV := .iface 53 (.agg [.int .i64 e])
theorem must_fn (e : Int) : FnP Tryz.prog 37 [] [.pv (.int .i64 e)] (fun rs H' => e = 0 ∧ rs = [] ∧ H' = []) (fun p H' => e ≠ 0 ∧ p = failE e ∧ H' = []) := by
  refine FnP.of_body (fn := Tryz.f37) (n := 7) (res := []) (by kernel_rfl) rfl rfl rfl rfl rfl (fun C => ?_)
  refine AW.go ?_
  refine AW.cond rfl (fun hc => ?_) (fun hc => ?_)
  · have he : e ≠ 0 := by simpa using hc
    refine AW.go ?_
    refine AW.panicO (fun ch hch => ?_)
    exact AW.endP hch ⟨he, rfl, rfl⟩
  · have he : e = 0 := by simpa using hc
    refine AW.go ?_
    refine AW.finP .nil ⟨he, rfl, rfl⟩
theorem unless_fn (b : Bool) (e : Int) (he0 : e ≠ 0) : FnP Tryz.prog 31 [] [.pv (.bool b), .pv (.int .i64 e)] (fun rs H' => b = true ∧ rs = [] ∧ H' = []) (fun p H' => b = false ∧ p = failE e ∧ H' = []) := by
  refine FnP.of_body (fn := Tryz.f31) (n := 8) (res := []) (by kernel_rfl) rfl rfl rfl rfl rfl (fun C => ?_)
  refine AW.go ?_
  cases b with
  | true =>
    refine AW.condF rfl ?_
    refine AW.go ?_
    refine AW.finP .nil ⟨rfl, rfl, rfl⟩
  | false =>
    refine AW.condT rfl ?_
    refine AW.go ?_
    refine AW.callPE (fun _ => 0) (must_fn e) (.pv _ .nil) (fun he ch hch => ?_) (fun he => absurd he he0)
    exact AW.endP hch ⟨rfl, rfl, rfl⟩
theorem got64_fn (v : Nat) (e : Int) : FnP Tryz.prog 33 [] [.pv (.int .u64 v), .pv (.int .i64 e)] (fun rs H' => e = 0 ∧ rs = [.pv (.int .u64 v)] ∧ H' = []) (fun p H' => e ≠ 0 ∧ p = failE e ∧ H' = []) := by
  refine FnP.of_body (fn := Tryz.f33) (n := 8) (res := [.tmp 4]) (by kernel_rfl) rfl rfl rfl rfl rfl (fun C => ?_)
  refine AW.go ?_
  refine AW.callPE (fun _ => 0) (must_fn e) (.pv _ .nil) (fun he ch hch => ?_) (fun he => ?_)
  · exact AW.endP hch ⟨he, rfl, rfl⟩
  refine AW.go ?_
  refine AW.finP (.pv _ .nil) ⟨he, rfl, rfl⟩
theorem gotB_fn (l : List Nat) (e : Int) : FnP Tryz.prog 61 [] [.pv (.sl 1 (bytes l)), .pv (.int .i64 e)] (fun rs H' => e = 0 ∧ rs = [.pv (.sl 1 (bytes l))] ∧ H' = []) (fun p H' => e ≠ 0 ∧ p = failE e ∧ H' = []) := by
  refine FnP.of_body (fn := Tryz.f61) (n := 8) (res := [.tmp 4]) (by kernel_rfl) rfl rfl rfl rfl rfl (fun C => ?_)
  refine AW.go ?_
  refine AW.callPE (fun _ => 0) (must_fn e) (.pv _ .nil) (fun he ch hch => ?_) (fun he => ?_)
  · exact AW.endP hch ⟨he, rfl, rfl⟩
  refine AW.go ?_
  refine AW.finP (.pv _ .nil) ⟨he, rfl, rfl⟩
theorem taken_fn (l : List Nat) (n : Nat) (hl : l.length ≤ room) : FnP Tryz.prog 32 (curO l) [.ptr 1000 0, .pv (.int .i64 n)]
    (fun rs H' => n ≤ l.length ∧ rs = [.pv (.sl 1 (bytes (l.take n)))] ∧ H' = curO (l.drop n)) (fun p H' => l.length < n ∧ p = failE 2 ∧ H' = curO l) := by
  refine FnP.of_body (fn := Tryz.f32) (n := 11) (res := [.tmp 4]) (by kernel_rfl) rfl rfl rfl rfl rfl (fun C => ?_)
  refine AW.go ?_
  refine AW.callE id (curBytes_fn l n hl) (.ptr rfl (.pv _ .nil)) ?_
  refine AW.go ?_
  refine AW.freeze (p := .slot 8) (by simp only [go_sem, ↓reduceIte, freeze, freezeO] <;> rfl) ?_
  by_cases h : n ≤ l.length
  · simp only [if_pos h]
    refine AW.callPE (fun _ => 0) (gotB_fn (l.take n) 0) (.pv _ (.pv _ .nil)) (fun he ch hch => absurd rfl he) (fun he => ?_)
    refine AW.go ?_
    refine AW.finP (.pv _ .nil) ⟨h, rfl, rfl⟩
  · simp only [if_neg h]
    refine AW.callPE (fun _ => 0) (gotB_fn [] 2) (.pv _ (.pv _ .nil)) (fun he ch hch => ?_) (fun he => absurd he (by decide))
    exact AW.endP hch ⟨by omega, rfl, rfl⟩
theorem counted_fn (q : List Nat) (hl : q.length ≤ room) (hb : ∀ x ∈ q, x < 256) : FnP Tryz.prog 63 (curO q) [.ptr 1000 0]
    (fun rs H' => (cntD q).2.1 = 0 ∧ rs = [.pv (.int .i64 (cntD q).1)] ∧ H' = curO (cntD q).2.2) (fun p H' => (cntD q).2.1 ≠ 0 ∧ p = failE (cntD q).2.1 ∧ H' = curO (cntD q).2.2) := by
  refine FnP.of_body (fn := Tryz.f63) (n := 14) (res := [.tmp 2]) (by kernel_rfl) rfl rfl rfl rfl rfl (fun C => ?_)
  refine AW.go ?_
  refine AW.callE id (curVarint_fn q hl hb) (.ptr rfl .nil) ?_
  unfold cntD
  generalize q.drop (readV q).2.1 = q2
  obtain ⟨v, k, e⟩ := readV q
  simp only
  refine AW.go ?_
  refine AW.callPE (fun _ => 0) (got64_fn v e) (.pv _ (.pv _ .nil)) (fun he ch hch => ?_) (fun he => ?_)
  · simp only [if_pos he]
    exact AW.endP hch ⟨he, rfl, rfl⟩
  simp only [if_neg (show ¬ e ≠ 0 by simpa using he)]
  by_cases hv : 1048576 < v
  · simp only [if_pos hv]
    have d1 : decide (v ≤ 1048576) = false := decide_eq_false (by omega)
    have d2 : decide ((v : Int) ≤ 1048576) = false := decide_eq_false (by omega)
    refine AW.go ?_ (by simp only [go_sem, ↓reduceIte, d1, d2] <;> rfl)
    refine AW.callPE (fun _ => 0) (unless_fn false 4 (by decide)) (.pv _ (.pv _ .nil)) (fun he ch hch => ?_) (fun he => absurd he (by decide))
    exact AW.endP hch ⟨by decide, rfl, rfl⟩
  · simp only [if_neg hv]
    have d1 : decide (v ≤ 1048576) = true := decide_eq_true (by omega)
    have d2 : decide ((v : Int) ≤ 1048576) = true := decide_eq_true (by omega)
    have ev : IntKind.i64.wrap (v : Int) = (v : Int) := wrap_i64_nat (by omega)
    refine AW.go ?_ (by simp only [go_sem, ↓reduceIte, d1, d2] <;> rfl)
    refine AW.callPE (fun _ => 0) (unless_fn true 4 (by decide)) (.pv _ (.pv _ .nil)) (fun he ch hch => absurd he (by decide)) (fun he => ?_)
    refine AW.go ?_ (by simp only [go_sem, ↓reduceIte, ev] <;> rfl)
    refine AW.finP (.pv _ .nil) ⟨trivial, rfl, rfl⟩
end Go.Ck

set_option linter.unusedVariables false
set_option maxRecDepth 100000
set_option maxHeartbeats 400000
namespace Go.Ck
open Go.Proofs
theorem mtens_fn (q0 : List Nat) (hl : q0.length ≤ 2 ^ 40) (hb : ∀ x ∈ q0, x < 256) : FnP Tryz.prog 35 (curO q0) [.ptr 1000 0]
    (fun rs H' => (tensD q0).2.1 = 0 ∧ rs = [.pv (.sl 1 (strs (tensD q0).1))] ∧ H' = curO (tensD q0).2.2) (fun p H' => (tensD q0).2.1 ≠ 0 ∧ p = failE (tensD q0).2.1 ∧ H' = curO (tensD q0).2.2) := by
  refine FnP.of_body (fn := Tryz.f35) (n := 36) (res := [.tmp 2]) (by kernel_rfl) rfl rfl rfl rfl rfl (fun C => ?_)
  have hr : room = 140737488355328 := rfl
  refine AW.go ?_
  refine AW.callPE id (counted_fn q0 (by omega) hb) (.ptr rfl .nil) (fun he ch hch => ?_) (fun he => ?_)
  · have e1 : tensD q0 = ([], (cntD q0).2) := by unfold tensD; rw [if_pos he]
    rw [e1]
    exact AW.endP hch ⟨he, rfl, rfl⟩
  have e1 : tensD q0 = tnD (cntD q0).1 [] (cntD q0).2.2 := by unfold tensD; rw [if_neg (by simpa using he)]
  rw [e1]
  have hb1 := cntD_byte hb
  have hl1 := cntD_len q0
  have hn := cntD_le q0
  generalize (cntD q0).2.2 = q1 at *
  generalize (cntD q0).1 = n at *
  clear he e1
  refine AW.go ?_
  refine AW.loopS (fun a : List (List UInt8) × List Nat => ⟨36, [(7, .pv (.int .i64 a.1.length)), (6, .pv (.int .i64 n)), (0, .ptr 1000 0), (3, .own 9 (strs a.1))], [(1000, .cells 87 [.pv (.sl 1 (bytes a.2))])]⟩) (fun a => a.1.length ≤ n ∧ tnD (n - a.1.length) a.1 a.2 = tnD n [] q1 ∧ (∀ x ∈ a.2, x < 256) ∧ a.2.length ≤ q1.length) (fun a => n - a.1.length) [7, 6, 0, 3] [1000] ([], q1) ⟨Nat.zero_le _, rfl, hb1, Nat.le_refl _⟩ ?_
  rintro ⟨acc, q⟩ ⟨hi, htn, hqb, hql⟩ K hK
  simp only at hi htn hqb hql
  refine AW.go ?_
  refine AW.cond rfl (fun hc => ?_) (fun hc => ?_)
  · have hlt : acc.length < n := by have := of_decide_eq_true hc; omega
    obtain ⟨m, hm⟩ : ∃ m, n - acc.length = m + 1 := ⟨n - acc.length - 1, by omega⟩
    have e0 : tnD (m + 1) acc q = if (blk q 64).2.1 ≠ 0 then ([], (blk q 64).2.1, (blk q 64).2.2) else if okT acc (ub (blk q 64).1) = true then tnD m (acc ++ [ub (blk q 64).1]) (blk q 64).2.2 else ([], 3, (blk q 64).2.2) := rfl
    rw [hm, e0] at htn
    obtain ⟨hbb, hrb, _, hrl⟩ := blk_byte (m := 64) hqb
    refine AW.go ?_
    refine AW.callE id (curBlock_fn q 64 (by decide) (by omega) hqb) (.ptr rfl (.pv _ .nil)) ?_
    generalize blk q 64 = B at *
    obtain ⟨b, e, r⟩ := B
    simp only at htn hbb hrb hrl
    refine AW.go ?_
    refine AW.freeze (p := .slot 11) (by simp only [go_sem, ↓reduceIte, freeze, freezeO] <;> rfl) ?_
    refine AW.callPE (fun _ => 0) (gotB_fn b e) (.pv _ (.pv _ .nil)) (fun he ch hch => ?_) (fun he => ?_)
    · rw [← htn, if_pos he]
      exact AW.endP hch ⟨he, rfl, rfl⟩
    rw [if_neg (show ¬ e ≠ 0 by simpa using he)] at htn
    refine AW.go ?_
    have r1 : ((acc.length + 1) * 16 ≤ room) = True := eq_true (by omega)
    have r2 : (acc.length + 1 ≤ room) = True := eq_true (by omega)
    have ei : IntKind.i64.wrap ((acc.length : Int) + 1) = ((acc.length + 1 : Nat) : Int) := wrap_i64_succ (by omega)
    have hsn := strs_snoc acc (ub b)
    have hlen : (acc ++ [ub b]).length = acc.length + 1 := by simp
    refine via (T := okT acc (ub b) = true → ?Tok) (fun hT => ?_) ?_; rotate_left
    · by_cases hA : acc = []
      · have d0 : decide (acc.length = 0) = true := by rw [hA]; rfl
        have d0' : (((acc.length : Nat) : Int) == 0) = true := by rw [hA]; rfl
        have d0'' : (acc.length == 0) = true := by rw [hA]; rfl
        refine AW.srTail 14 mixed (by decide +kernel) ?_ (by simp only [go_sem, ↓reduceIte, d0, d0', d0'', List.take_succ_cons, List.take_zero] <;> rfl)
        refine AW.go ?_
        refine AW.callPE (fun _ => 0) (unless_fn true 3 (by decide)) (.pv _ (.pv _ .nil)) (fun he ch hch => absurd he (by decide)) (fun he => ?_)
        refine AW.keepB [7, 6, 0, 3, 4] [1000] (s' := ⟨36, [(7, .pv (.int .i64 acc.length)), (6, .pv (.int .i64 n)), (0, .ptr 1000 0), (3, .own 9 (strs acc)), (4, .pv (.sl 1 (bytes b)))], [(1000, .cells 87 [.pv (.sl 1 (bytes r))])]⟩) (by simp only [go_sem, ↓reduceIte]) (by simp only [go_sem, ↓reduceIte] <;> rfl) ?_
        exact hT () (by rw [hA]; rfl)
      · obtain ⟨l, hl⟩ : ∃ l, acc.getLast? = some l := ⟨acc.getLast hA, List.getLast?_eq_some_getLast hA⟩
        have hpos : 0 < acc.length := List.length_pos_iff.2 hA
        have hok := okT_last (ub b) hl
        rw [List.getLast?_eq_getElem?] at hl
        have hg := strs_get hl
        have hll : (acc.length - 1 < acc.length) = True := eq_true (by omega)
        have ej : IntKind.i64.wrap ((acc.length : Int) - 1) = ((acc.length - 1 : Nat) : Int) := by rw [wrap_i64_of (by omega) (by omega)]; omega
        have d0 : decide (acc.length = 0) = false := decide_eq_false (by omega)
        have d0' : (((acc.length : Nat) : Int) == 0) = false := by rw [beq_eq_false_iff_ne]; omega
        have d0'' : (acc.length == 0) = false := by rw [beq_eq_false_iff_ne]; omega
        have hbl : Op.bytesLess l (ub b) = okT acc (ub b) := by rw [bytesLess_eq, hok]
        refine AW.srTail 14 mixed (by decide +kernel) ?_ (by simp only [go_sem, ↓reduceIte, d0, d0', d0'', ej, hg, hll, numsOf_byt, ofNums_ub, hbl, List.take_succ_cons, List.take_zero] <;> rfl)
        refine AW.go ?_
        refine AW.callPE (fun _ => 0) (unless_fn (okT acc (ub b)) 3 (by decide)) (.pv _ (.pv _ .nil)) (fun he ch hch => ?_) (fun he => ?_)
        · rw [← htn, if_neg (by rw [he]; simp)]
          exact AW.endP hch ⟨by simp, rfl, rfl⟩
        refine AW.keepB [7, 6, 0, 3, 4] [1000] (s' := ⟨36, [(7, .pv (.int .i64 acc.length)), (6, .pv (.int .i64 n)), (0, .ptr 1000 0), (3, .own 9 (strs acc)), (4, .pv (.sl 1 (bytes b)))], [(1000, .cells 87 [.pv (.sl 1 (bytes r))])]⟩) (by simp only [go_sem, ↓reduceIte]) (by simp only [go_sem, ↓reduceIte] <;> rfl) ?_
        exact hT () he
    intro hok
    rw [if_pos hok] at htn
    refine AW.go ?_ (by simp only [go_sem, ↓reduceIte, numsOf_byt, ofNums_ub, r1, r2, ei, hsn, List.length_cons, List.length_nil, Nat.zero_add] <;> rfl)
    refine AW.again hK (acc ++ [ub b], r) ⟨by rw [hlen]; omega, ?_, hrb, by simp only; omega⟩ (by simp only [hlen]; omega) (hs := by simp only [go_sem, ↓reduceIte, hlen] <;> rfl)
    rw [← htn]
    simp only [hlen]
    congr 1
    omega
  have hge : acc.length = n := by have := of_decide_eq_false hc; omega
  rw [hge, Nat.sub_self] at htn
  rw [← htn]
  refine AW.freeze (p := .slot 3) (by simp only [go_sem, ↓reduceIte, freeze, freezeO] <;> rfl) ?_
  refine AW.go ?_
  refine AW.finP (.pv _ .nil) ⟨rfl, rfl, rfl⟩
end Go.Ck
