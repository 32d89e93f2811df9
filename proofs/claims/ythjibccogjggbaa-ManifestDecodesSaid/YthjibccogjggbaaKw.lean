/- What is proved here: parts of the proofs of this seat's statements (a verified evaluator for calls over pure values, its laws, and contracts of functions). No condition. -/
import Derived.Test.YthjibccogjggbaaKv
import Derived.Test.YthjibccogjggbaaKt
import Derived.Test.YthjibccogjggbaaKo
import Derived.Test.YthjibccogjggbaaKu
import Derived.Test.YthjibccogjggbaaKp
set_option linter.all false
set_option linter.unusedVariables false
set_option maxRecDepth 100000
set_option maxHeartbeats 400000
namespace Go.Ck
open Go.Proofs
theorem manEnc_fn (m : Man) (hv : m.v < 2 ^ 64) (hl : m.es.length < 2 ^ 29) : Fn Try.prog 11 [] [.pv (manP m)] (fun rs H' => rs = [.own 5 (bytes (encM m).1), .pv (.int .i64 (encM m).2)] ∧ H' = []) := by
  refine Fn.of_body (fn := Try.f11) (n := 83) (res := [.tmp 2, .tmp 3]) (by kernel_rfl) rfl rfl rfl rfl rfl (fun C => ?_)
  have hroom : room = 140737488355328 := rfl
  have hm : manP m = .agg [.int .u64 (m.v : Int), .sl 1 (bytes m.prev), .sl 2 (entsP m.es), .sl 1 (bytes m.root)] := rfl
  have hwf := wrongMan_fn m (by omega)
  rw [hm] at hwf ⊢
  unfold encM
  refine AW.go ?_
  refine AW.callE (fun _ => 0) hwf (.pv _ .nil) ?_
  refine AW.go ?_
  refine AW.cond rfl (fun hc => ?_) (fun hc => ?_)
  · have hw : wrongM m ≠ 0 := by
      intro h; rw [h] at hc; exact absurd hc (by decide)
    rw [if_pos hw]
    refine AW.go ?_
    refine AW.finE (.move rfl (.pv _ .nil)) rfl
  have hw : wrongM m = 0 := by
    have h2 : ((wrongM m : Int) == 0) = true := by simpa [bne] using hc
    have := eq_of_beq h2
    omega
  rw [if_neg (by simp [hw])]
  obtain ⟨w1, w2, w3, w4, w5, w6⟩ := wrongM_zero hw
  have hnn := dirS_nodup m.es
  have hnl : (dirS m.es).length ≤ m.es.length := by rw [dirS_len]; exact nmS_len _
  have hnm := dirS_mem m.es
  have hn64 : ∀ s ∈ dirS m.es, s.length ≤ 64 := by
    intro s hs
    obtain ⟨e, he, rfl⟩ := (hnm s).1 hs
    exact w6 e he
  have hnmS : ∀ e ∈ m.es, e.1 ∈ nmS m.es := fun e he => (nmS_mem m.es e.1).2 ⟨e, he, rfl⟩
  have hdf := directory_fn m.es (by omega)
  unfold bodyM headM
  obtain ⟨v, prev, es, root⟩ := m
  simp only at *
  clear hwf hw hm hc
  refine AW.go ?_
  refine AW.callE (fun _ => 6) hdf (.pv _ .nil) ?_
  have hbl := beB_len v 8
  have hh4 : ([.int .u8 67, .int .u8 83, .int .u8 75, .int .u8 49] : List PV) ++ bytes (beB v 8) = bytes ([67, 83, 75, 49] ++ beB v 8) := rfl
  have m4 : (4 ≤ maxLen) = True := eq_true (le_maxLen 4)
  have r1 : (4 + (beB v 8).length ≤ room) = True := eq_true (by omega)
  generalize hns : dirS es = ns at *
  have h5 : (5 : Nat) < 83 := by decide
  refine AW.go ?_
  refine AW.extractM rfl ⟨_, rfl⟩ ?_
  refine AW.goM 9 ?_
  refine AW.constB (n := 4) (xs := [.int .u8 67, .int .u8 83, .int .u8 75, .int .u8 49]) tk_23 tk_5 ze_5 ?_ (by decide) (by decide) rfl ?_ ?_
  · rfl
  · simp only [go_sem, ↓reduceIte]; try decide
  refine AW.go ?_
  refine AW.callE (fun _ => 0) (fix_fn v 8 hv (by omega)) (.pv _ (.pv _ .nil)) ?_
  refine AW.goM 3 ?_
  refine AW.appendLit (ys := bytes (beB v 8)) (xs := [.int .u8 67, .int .u8 83, .int .u8 75, .int .u8 49]) rfl rfl rfl rfl tk_23 rfl (by decide) (by simp only [bytes_length]; omega) (by simp only [bytes_length, List.length_cons, List.length_nil]; omega) (by simp only [bytes_length, List.length_cons, List.length_nil]; omega) ?_
  rw [hh4]
  have g1 : (([67, 83, 75, 49] ++ beB v 8 : List Nat).length + 32 ≤ room) = True := eq_true (by rw [List.length_append, hbl]; simp; omega)
  have hdl : ([67, 83, 75, 49] ++ beB v 8 ++ prev).length = 44 := by simp [hbl, w2]
  generalize [67, 83, 75, 49] ++ beB v 8 = hd0 at *
  have wl : IntKind.u64.wrap (ns.length : Int) = (ns.length : Int) := wrap_u64_lt (by omega)
  have wm : IntKind.u64.wrap (es.length : Int) = (es.length : Int) := wrap_u64_lt (by omega)
  refine AW.go ?_ (by simp only [go_sem, ↓reduceIte, w2, g1, wl] <;> rfl)
  generalize hd0 ++ prev = hd at *
  refine AW.callE (fun _ => 0) (append_fn hd ns.length (by omega) (by omega)) (.lend rfl co_5 (.pv _ .nil)) ?_
  have l1 := leb_len10 (v := ns.length) (by omega)
  have l2 := leb_len10 (v := es.length) (by omega)
  have hal : (hd ++ leb ns.length).length ≤ 54 := by rw [List.length_append]; omega
  generalize hd ++ leb ns.length = ha at *
  refine AW.go ?_
  refine AW.loopS (fun i : Nat => ⟨83, [(40, .pv (.int .i64 i)), (38, .al (.slot 5)), (39, .pv (.int .i64 ns.length)), (5, .own 9 (strs ns)), (6, .mp 6), (7, .own 5 (bytes (ha ++ (ns.take i).flatMap blkS))), (1, .ptr 1 0)], [(6, .mp (mpS (posK ns ns.length) (nmS es))), (1, .cells 26 [.pv (.int .u64 v), .pv (.sl 1 (bytes prev)), .pv (.sl 2 (entsP es)), .pv (.sl 1 (bytes root))])]⟩) (fun i => i ≤ ns.length) (fun i => ns.length - i) [40, 38, 39, 5, 6, 7, 1] [6, 1] 0 (Nat.zero_le _) ?_ (hs := by simp only [go_sem, ↓reduceIte, List.take_zero, List.flatMap_nil, List.append_nil] <;> rfl)
  rintro i hi K hK
  refine AW.go ?_
  refine AW.cond rfl (fun hc => ?_) (fun hc => ?_)
  · have hlt : i < ns.length := by have := of_decide_eq_true hc; omega
    obtain ⟨t, ht⟩ : ∃ t, ns[i]? = some t := ⟨ns[i], List.getElem?_eq_getElem hlt⟩
    have hg := strs_get ht
    have htl : t.length ≤ 64 := hn64 t (List.mem_of_getElem? ht)
    have htm : t.length ≤ maxLen := Nat.le_trans htl (le_maxLen 64)
    have e1 : IntKind.i64.wrap ((i : Int) + 1) = ((i + 1 : Nat) : Int) := wrap_i64_succ (by omega)
    have l1 : (i < ns.length) = True := eq_true hlt
    have hfl := flatMap_le blkS 74 (ns.take i) (fun s hs => blkS_len s (hn64 s (List.mem_of_mem_take hs)))
    rw [List.length_take] at hfl
    have hfs := flatMap_take blkS ht
    have hbl := blkS_len t htl
    have hnb : (nb t).length = t.length := by simp [nb]
    refine AW.go ?_ (by simp only [go_sem, ↓reduceIte, hg, l1] <;> rfl)
    refine AW.ofStr htm tk_9 tk_23 tk_5 ?_
    rw [strBytes_nb]
    refine AW.go ?_
    refine AW.callE (fun _ => 0) (block_fn (nb t) (by omega)) (.pv _ .nil) ?_
    have eb : leb (nb t).length ++ nb t = blkS t := by rw [hnb]; rfl
    rw [eb]
    have hcl : ((ha ++ (ns.take i).flatMap blkS).length + (blkS t).length ≤ room) = True := eq_true (by rw [List.length_append]; omega)
    have hfe : ha ++ (ns.take i).flatMap blkS ++ blkS t = ha ++ (ns.take (i + 1)).flatMap blkS := by rw [hfs, List.append_assoc]
    generalize ha ++ (ns.take i).flatMap blkS = acc at *
    generalize blkS t = bt at *
    refine AW.go ?_ (by simp only [go_sem, ↓reduceIte, hcl, e1] <;> rfl)
    exact AW.again hK (i + 1) (by omega) (by omega) (hs := by simp only [go_sem, ↓reduceIte, hfe] <;> rfl)
  have hge : i = ns.length := by have := of_decide_eq_false hc; omega
  subst hge
  have hfl := flatMap_le blkS 74 ns (fun s hs => blkS_len s (hn64 s hs))
  have hbl : (ha ++ ns.flatMap blkS).length ≤ 54 + 74 * ns.length := by rw [List.length_append]; omega
  rw [List.take_length]
  generalize ha ++ ns.flatMap blkS = hb at *
  refine AW.go ?_ (by simp only [go_sem, ↓reduceIte, wm] <;> rfl)
  refine AW.callE (fun _ => 0) (append_fn [] es.length (by omega) (by simp; omega)) (.nilsP 1 (.pv _ .nil)) ?_
  try rw [List.nil_append]
  have hcl : (hb.length + (leb es.length).length ≤ room) = True := eq_true (by omega)
  have hdl : (hb ++ leb es.length).length ≤ 64 + 74 * ns.length := by rw [List.length_append]; omega
  refine AW.go ?_ (by simp only [go_sem, ↓reduceIte, hcl] <;> rfl)
  generalize hb ++ leb es.length = hh at *
  refine AW.loopS (fun i : Nat => ⟨83, [(60, .pv (.int .i64 i)), (58, .pv (.sl 2 (entsP es))), (59, .pv (.int .i64 es.length)), (6, .mp 6), (7, .own 5 (bytes (hh ++ (es.take i).flatMap (entB ns)))), (1, .ptr 1 0)], [(6, .mp (mpS (posK ns ns.length) (nmS es))), (1, .cells 26 [.pv (.int .u64 v), .pv (.sl 1 (bytes prev)), .pv (.sl 2 (entsP es)), .pv (.sl 1 (bytes root))])]⟩) (fun i => i ≤ es.length) (fun i => es.length - i) [60, 58, 59, 6, 7, 1] [6, 1] 0 (Nat.zero_le _) ?_ (hs := by simp only [go_sem, ↓reduceIte, List.take_zero, List.flatMap_nil, List.append_nil] <;> rfl)
  rintro i hi K hK
  refine AW.go ?_
  refine AW.cond rfl (fun hc => ?_) (fun hc => ?_)
  · have hlt : i < es.length := by have := of_decide_eq_true hc; omega
    obtain ⟨e, he⟩ : ∃ e, es[i]? = some e := ⟨es[i], List.getElem?_eq_getElem hlt⟩
    have hg := entsP_get he
    have hem := List.mem_of_getElem? he
    have e1 : IntKind.i64.wrap ((i : Int) + 1) = ((i + 1 : Nat) : Int) := wrap_i64_succ (by omega)
    have hfl := flatMap_le (entB ns) 11 (es.take i) (fun s hs => entB_len ns s (by omega))
    rw [List.length_take] at hfl
    have hfs := flatMap_take (entB ns) he
    have hel := entB_len ns e (by omega)
    have hml := mlook_mpS (posK ns ns.length) e.1 (nmS es)
    rw [if_pos (hnmS e hem), posK_all ns e.1 ((hnm e.1).2 ⟨e, hem, rfl⟩)] at hml
    have hix := idx_le ns e.1
    obtain ⟨q1, q2⟩ := w4 e hem
    have e2 : IntKind.u64.wrap ((ns.idxOf e.1 : Nat) : Int) = ((ns.idxOf e.1 : Nat) : Int) := wrap_u64_lt (by omega)
    have e3 : IntKind.u8.wrap e.2 = ((e.2.toNat : Nat) : Int) := by
      have : e.2 = ((e.2.toNat : Nat) : Int) := by omega
      rw [this, wrap_u8, Int.toNat_natCast, Nat.mod_eq_of_lt (by omega)]
    have heB : entB ns e = leb (ns.idxOf e.1) ++ [e.2.toNat] := rfl
    have hlx := leb_len10 (v := ns.idxOf e.1) (by omega)
    have hacl : (hh ++ (es.take i).flatMap (entB ns)).length ≤ 64 + 74 * ns.length + 11 * es.length := by rw [List.length_append]; omega
    have hfe : hh ++ (es.take i).flatMap (entB ns) ++ leb (ns.idxOf e.1) ++ [e.2.toNat] = hh ++ (es.take (i + 1)).flatMap (entB ns) := by rw [hfs, heB]; simp
    generalize hh ++ (es.take i).flatMap (entB ns) = acc at *
    generalize ns.idxOf e.1 = ix at *
    refine AW.go ?_ (by simp only [go_sem, ↓reduceIte, hg] <;> rfl)
    refine AW.lookup rfl rfl rfl hml tk_47 (by simp only [go_sem] <;> rfl) ze_3 ?_
    refine AW.go ?_ (by simp only [go_sem, ↓reduceIte, mval, e2] <;> rfl)
    refine AW.callE (fun _ => 0) (append_fn [] ix (by omega) (by simp; omega)) (.nilsP 1 (.pv _ .nil)) ?_
    try rw [List.nil_append]
    have hcl : (acc.length + (leb ix).length ≤ room) = True := eq_true (by omega)
    have hcl2 : ((acc ++ leb ix).length + 1 ≤ room) = True := eq_true (by rw [List.length_append]; omega)
    refine AW.go ?_ (by simp only [go_sem, ↓reduceIte, hcl, hcl2, e1, e3, bytes_one, List.length_cons, List.length_nil, Nat.zero_add] <;> rfl)
    exact AW.again hK (i + 1) (by omega) (by omega) (hs := by simp only [go_sem, ↓reduceIte, hfe] <;> rfl)
  have hge : i = es.length := by have := of_decide_eq_false hc; omega
  subst hge
  have hfl := flatMap_le (entB ns) 11 es (fun s hs => entB_len ns s (by omega))
  rw [List.take_length]
  have hcl : ((hh ++ es.flatMap (entB ns)).length + 32 ≤ room) = True := eq_true (by rw [List.length_append]; omega)
  generalize hh ++ es.flatMap (entB ns) = hz at *
  refine AW.go ?_ (by simp only [go_sem, ↓reduceIte, w3, hcl] <;> rfl)
  refine AW.finE (.move rfl (.pv _ .nil)) rfl
end Go.Ck

set_option linter.unusedVariables false
set_option maxRecDepth 100000
set_option maxHeartbeats 400000
namespace Go.Ck
open Go.Proofs
end Go.Ck

set_option linter.unusedVariables false
set_option maxRecDepth 100000
set_option maxHeartbeats 400000
namespace Go.Ck
open Go.Proofs
end Go.Ck

set_option linter.unusedVariables false
set_option maxRecDepth 100000
set_option maxHeartbeats 400000
namespace Go.Ck
open Go.Proofs
end Go.Ck

set_option linter.unusedVariables false
set_option maxRecDepth 100000
set_option maxHeartbeats 400000
namespace Go.Ck
open Go.Proofs
def failE (e : Int) : PV := .iface 56 (.agg [.int .i64 e])
theorem must_fn (e : Int) : FnP Try.prog 40 [] [.pv (.int .i64 e)] (fun rs H' => e = 0 ∧ rs = [] ∧ H' = []) (fun p H' => e ≠ 0 ∧ p = failE e ∧ H' = []) := by
  refine FnP.of_body (fn := Try.f40) (n := 7) (res := []) (by kernel_rfl) rfl rfl rfl rfl rfl (fun C => ?_)
  refine AW.go ?_
  refine AW.cond rfl (fun hc => ?_) (fun hc => ?_)
  · have he : e ≠ 0 := by simpa using hc
    refine AW.go ?_
    refine AW.panicO (fun ch hch => ?_)
    exact AW.endP hch ⟨he, rfl, rfl⟩
  · have he : e = 0 := by simpa using hc
    refine AW.go ?_
    refine AW.finP .nil ⟨he, rfl, rfl⟩
theorem unless_fn (b : Bool) (e : Int) (he0 : e ≠ 0) : FnP Try.prog 34 [] [.pv (.bool b), .pv (.int .i64 e)] (fun rs H' => b = true ∧ rs = [] ∧ H' = []) (fun p H' => b = false ∧ p = failE e ∧ H' = []) := by
  refine FnP.of_body (fn := Try.f34) (n := 8) (res := []) (by kernel_rfl) rfl rfl rfl rfl rfl (fun C => ?_)
  refine AW.go ?_
  cases b with
  | true =>
    refine AW.condF rfl ?_
    refine AW.go ?_
    refine AW.finP .nil ⟨rfl, rfl, rfl⟩
  | false =>
    refine AW.condT rfl ?_
    refine AW.go ?_
    refine AW.callPE (fun _ => 0) (must_fn e) (.pv _ .nil) (fun he ch hch => ?_) (fun he => absurd he he0)
    exact AW.endP hch ⟨rfl, rfl, rfl⟩
theorem got64_fn (v : Nat) (e : Int) : FnP Try.prog 36 [] [.pv (.int .u64 v), .pv (.int .i64 e)] (fun rs H' => e = 0 ∧ rs = [.pv (.int .u64 v)] ∧ H' = []) (fun p H' => e ≠ 0 ∧ p = failE e ∧ H' = []) := by
  refine FnP.of_body (fn := Try.f36) (n := 8) (res := [.tmp 4]) (by kernel_rfl) rfl rfl rfl rfl rfl (fun C => ?_)
  refine AW.go ?_
  refine AW.callPE (fun _ => 0) (must_fn e) (.pv _ .nil) (fun he ch hch => ?_) (fun he => ?_)
  · exact AW.endP hch ⟨he, rfl, rfl⟩
  refine AW.go ?_
  refine AW.finP (.pv _ .nil) ⟨he, rfl, rfl⟩
theorem gotB_fn (l : List Nat) (e : Int) : FnP Try.prog 59 [] [.pv (.sl 1 (bytes l)), .pv (.int .i64 e)] (fun rs H' => e = 0 ∧ rs = [.pv (.sl 1 (bytes l))] ∧ H' = []) (fun p H' => e ≠ 0 ∧ p = failE e ∧ H' = []) := by
  refine FnP.of_body (fn := Try.f59) (n := 8) (res := [.tmp 4]) (by kernel_rfl) rfl rfl rfl rfl rfl (fun C => ?_)
  refine AW.go ?_
  refine AW.callPE (fun _ => 0) (must_fn e) (.pv _ .nil) (fun he ch hch => ?_) (fun he => ?_)
  · exact AW.endP hch ⟨he, rfl, rfl⟩
  refine AW.go ?_
  refine AW.finP (.pv _ .nil) ⟨he, rfl, rfl⟩
theorem taken_fn (l : List Nat) (n : Nat) (hl : l.length ≤ room) : FnP Try.prog 35 (curO l) [.ptr 1000 0, .pv (.int .i64 n)]
    (fun rs H' => n ≤ l.length ∧ rs = [.pv (.sl 1 (bytes (l.take n)))] ∧ H' = curO (l.drop n)) (fun p H' => l.length < n ∧ p = failE 2 ∧ H' = curO l) := by
  refine FnP.of_body (fn := Try.f35) (n := 11) (res := [.tmp 4]) (by kernel_rfl) rfl rfl rfl rfl rfl (fun C => ?_)
  refine AW.go ?_
  refine AW.callE id (curBytes_fn l n hl) (.ptr rfl (.pv _ .nil)) ?_
  refine AW.go ?_
  refine AW.freeze (p := .slot 8) (by simp only [go_sem, ↓reduceIte, freeze, freezeO] <;> rfl) ?_
  by_cases h : n ≤ l.length
  · simp only [if_pos h]
    refine AW.callPE (fun _ => 0) (gotB_fn (l.take n) 0) (.pv _ (.pv _ .nil)) (fun he ch hch => absurd rfl he) (fun he => ?_)
    refine AW.go ?_
    refine AW.finP (.pv _ .nil) ⟨h, rfl, rfl⟩
  · simp only [if_neg h]
    refine AW.callPE (fun _ => 0) (gotB_fn [] 2) (.pv _ (.pv _ .nil)) (fun he ch hch => ?_) (fun he => absurd he (by decide))
    exact AW.endP hch ⟨by omega, rfl, rfl⟩
theorem counted_fn (q : List Nat) (hl : q.length ≤ room) (hb : ∀ x ∈ q, x < 256) : FnP Try.prog 61 (curO q) [.ptr 1000 0]
    (fun rs H' => (cntD q).2.1 = 0 ∧ rs = [.pv (.int .i64 (cntD q).1)] ∧ H' = curO (cntD q).2.2) (fun p H' => (cntD q).2.1 ≠ 0 ∧ p = failE (cntD q).2.1 ∧ H' = curO (cntD q).2.2) := by
  refine FnP.of_body (fn := Try.f61) (n := 14) (res := [.tmp 2]) (by kernel_rfl) rfl rfl rfl rfl rfl (fun C => ?_)
  refine AW.go ?_
  refine AW.callE id (curVarint_fn q hl hb) (.ptr rfl .nil) ?_
  unfold cntD
  generalize q.drop (readV q).2.1 = q2
  obtain ⟨v, k, e⟩ := readV q
  simp only
  refine AW.go ?_
  refine AW.callPE (fun _ => 0) (got64_fn v e) (.pv _ (.pv _ .nil)) (fun he ch hch => ?_) (fun he => ?_)
  · simp only [if_pos he]
    exact AW.endP hch ⟨he, rfl, rfl⟩
  simp only [if_neg (show ¬ e ≠ 0 by simpa using he)]
  by_cases hv : 1048576 < v
  · simp only [if_pos hv]
    have d1 : decide (v ≤ 1048576) = false := decide_eq_false (by omega)
    have d2 : decide ((v : Int) ≤ 1048576) = false := decide_eq_false (by omega)
    refine AW.go ?_ (by simp only [go_sem, ↓reduceIte, d1, d2] <;> rfl)
    refine AW.callPE (fun _ => 0) (unless_fn false 4 (by decide)) (.pv _ (.pv _ .nil)) (fun he ch hch => ?_) (fun he => absurd he (by decide))
    exact AW.endP hch ⟨by decide, rfl, rfl⟩
  · simp only [if_neg hv]
    have d1 : decide (v ≤ 1048576) = true := decide_eq_true (by omega)
    have d2 : decide ((v : Int) ≤ 1048576) = true := decide_eq_true (by omega)
    have ev : IntKind.i64.wrap (v : Int) = (v : Int) := wrap_i64_nat (by omega)
    refine AW.go ?_ (by simp only [go_sem, ↓reduceIte, d1, d2] <;> rfl)
    refine AW.callPE (fun _ => 0) (unless_fn true 4 (by decide)) (.pv _ (.pv _ .nil)) (fun he ch hch => absurd he (by decide)) (fun he => ?_)
    refine AW.go ?_ (by simp only [go_sem, ↓reduceIte, ev] <;> rfl)
    refine AW.finP (.pv _ .nil) ⟨trivial, rfl, rfl⟩
end Go.Ck

set_option linter.unusedVariables false
set_option maxRecDepth 100000
set_option maxHeartbeats 400000
namespace Go.Ck
open Go.Proofs
theorem mtens_fn (q0 : List Nat) (hl : q0.length ≤ 2 ^ 40) (hb : ∀ x ∈ q0, x < 256) : FnP Try.prog 38 (curO q0) [.ptr 1000 0]
    (fun rs H' => (tensD q0).2.1 = 0 ∧ rs = [.pv (.sl 1 (strs (tensD q0).1))] ∧ H' = curO (tensD q0).2.2) (fun p H' => (tensD q0).2.1 ≠ 0 ∧ p = failE (tensD q0).2.1 ∧ H' = curO (tensD q0).2.2) := by
  refine FnP.of_body (fn := Try.f38) (n := 36) (res := [.tmp 2]) (by kernel_rfl) rfl rfl rfl rfl rfl (fun C => ?_)
  have hr : room = 140737488355328 := rfl
  refine AW.go ?_
  refine AW.callPE id (counted_fn q0 (by omega) hb) (.ptr rfl .nil) (fun he ch hch => ?_) (fun he => ?_)
  · have e1 : tensD q0 = ([], (cntD q0).2) := by unfold tensD; rw [if_pos he]
    rw [e1]
    exact AW.endP hch ⟨he, rfl, rfl⟩
  have e1 : tensD q0 = tnD (cntD q0).1 [] (cntD q0).2.2 := by unfold tensD; rw [if_neg (by simpa using he)]
  rw [e1]
  have hb1 := cntD_byte hb
  have hl1 := cntD_len q0
  have hn := cntD_le q0
  generalize (cntD q0).2.2 = q1 at *
  generalize (cntD q0).1 = n at *
  clear he e1
  refine AW.go ?_
  refine AW.loopS (fun a : List (List UInt8) × List Nat => ⟨36, [(7, .pv (.int .i64 a.1.length)), (6, .pv (.int .i64 n)), (0, .ptr 1000 0), (3, .own 9 (strs a.1))], [(1000, .cells 87 [.pv (.sl 1 (bytes a.2))])]⟩) (fun a => a.1.length ≤ n ∧ tnD (n - a.1.length) a.1 a.2 = tnD n [] q1 ∧ (∀ x ∈ a.2, x < 256) ∧ a.2.length ≤ q1.length) (fun a => n - a.1.length) [7, 6, 0, 3] [1000] ([], q1) ⟨Nat.zero_le _, rfl, hb1, Nat.le_refl _⟩ ?_
  rintro ⟨acc, q⟩ ⟨hi, htn, hqb, hql⟩ K hK
  simp only at hi htn hqb hql
  refine AW.go ?_
  refine AW.cond rfl (fun hc => ?_) (fun hc => ?_)
  · have hlt : acc.length < n := by have := of_decide_eq_true hc; omega
    obtain ⟨m, hm⟩ : ∃ m, n - acc.length = m + 1 := ⟨n - acc.length - 1, by omega⟩
    have e0 : tnD (m + 1) acc q = if (blk q 64).2.1 ≠ 0 then ([], (blk q 64).2.1, (blk q 64).2.2) else if okT acc (ub (blk q 64).1) = true then tnD m (acc ++ [ub (blk q 64).1]) (blk q 64).2.2 else ([], 3, (blk q 64).2.2) := rfl
    rw [hm, e0] at htn
    obtain ⟨hbb, hrb, _, hrl⟩ := blk_byte (m := 64) hqb
    refine AW.go ?_
    refine AW.callE id (curBlock_fn q 64 (by decide) (by omega) hqb) (.ptr rfl (.pv _ .nil)) ?_
    generalize blk q 64 = B at *
    obtain ⟨b, e, r⟩ := B
    simp only at htn hbb hrb hrl
    refine AW.go ?_
    refine AW.freeze (p := .slot 11) (by simp only [go_sem, ↓reduceIte, freeze, freezeO] <;> rfl) ?_
    refine AW.callPE (fun _ => 0) (gotB_fn b e) (.pv _ (.pv _ .nil)) (fun he ch hch => ?_) (fun he => ?_)
    · rw [← htn, if_pos he]
      exact AW.endP hch ⟨he, rfl, rfl⟩
    rw [if_neg (show ¬ e ≠ 0 by simpa using he)] at htn
    refine AW.go ?_
    have r1 : ((acc.length + 1) * 16 ≤ room) = True := eq_true (by omega)
    have r2 : (acc.length + 1 ≤ room) = True := eq_true (by omega)
    have ei : IntKind.i64.wrap ((acc.length : Int) + 1) = ((acc.length + 1 : Nat) : Int) := wrap_i64_succ (by omega)
    have hsn := strs_snoc acc (ub b)
    have hlen : (acc ++ [ub b]).length = acc.length + 1 := by simp
    refine via (T := okT acc (ub b) = true → ?Tok) (fun hT => ?_) ?_; rotate_left
    · by_cases hA : acc = []
      · have d0 : decide (acc.length = 0) = true := by rw [hA]; rfl
        have d0' : (((acc.length : Nat) : Int) == 0) = true := by rw [hA]; rfl
        have d0'' : (acc.length == 0) = true := by rw [hA]; rfl
        refine AW.srTail 14 mixed (by decide +kernel) ?_ (by simp only [go_sem, ↓reduceIte, d0, d0', d0'', List.take_succ_cons, List.take_zero] <;> rfl)
        refine AW.go ?_
        refine AW.callPE (fun _ => 0) (unless_fn true 3 (by decide)) (.pv _ (.pv _ .nil)) (fun he ch hch => absurd he (by decide)) (fun he => ?_)
        refine AW.keepB [7, 6, 0, 3, 4] [1000] (s' := ⟨36, [(7, .pv (.int .i64 acc.length)), (6, .pv (.int .i64 n)), (0, .ptr 1000 0), (3, .own 9 (strs acc)), (4, .pv (.sl 1 (bytes b)))], [(1000, .cells 87 [.pv (.sl 1 (bytes r))])]⟩) (by simp only [go_sem, ↓reduceIte]) (by simp only [go_sem, ↓reduceIte] <;> rfl) ?_
        exact hT () (by rw [hA]; rfl)
      · obtain ⟨l, hl⟩ : ∃ l, acc.getLast? = some l := ⟨acc.getLast hA, List.getLast?_eq_some_getLast hA⟩
        have hpos : 0 < acc.length := List.length_pos_iff.2 hA
        have hok := okT_last (ub b) hl
        rw [List.getLast?_eq_getElem?] at hl
        have hg := strs_get hl
        have hll : (acc.length - 1 < acc.length) = True := eq_true (by omega)
        have ej : IntKind.i64.wrap ((acc.length : Int) - 1) = ((acc.length - 1 : Nat) : Int) := by rw [wrap_i64_of (by omega) (by omega)]; omega
        have d0 : decide (acc.length = 0) = false := decide_eq_false (by omega)
        have d0' : (((acc.length : Nat) : Int) == 0) = false := by rw [beq_eq_false_iff_ne]; omega
        have d0'' : (acc.length == 0) = false := by rw [beq_eq_false_iff_ne]; omega
        have hbl : Op.bytesLess l (ub b) = okT acc (ub b) := by rw [bytesLess_eq, hok]
        refine AW.srTail 14 mixed (by decide +kernel) ?_ (by simp only [go_sem, ↓reduceIte, d0, d0', d0'', ej, hg, hll, numsOf_byt, ofNums_ub, hbl, List.take_succ_cons, List.take_zero] <;> rfl)
        refine AW.go ?_
        refine AW.callPE (fun _ => 0) (unless_fn (okT acc (ub b)) 3 (by decide)) (.pv _ (.pv _ .nil)) (fun he ch hch => ?_) (fun he => ?_)
        · rw [← htn, if_neg (by rw [he]; simp)]
          exact AW.endP hch ⟨by simp, rfl, rfl⟩
        refine AW.keepB [7, 6, 0, 3, 4] [1000] (s' := ⟨36, [(7, .pv (.int .i64 acc.length)), (6, .pv (.int .i64 n)), (0, .ptr 1000 0), (3, .own 9 (strs acc)), (4, .pv (.sl 1 (bytes b)))], [(1000, .cells 87 [.pv (.sl 1 (bytes r))])]⟩) (by simp only [go_sem, ↓reduceIte]) (by simp only [go_sem, ↓reduceIte] <;> rfl) ?_
        exact hT () he
    intro hok
    rw [if_pos hok] at htn
    refine AW.go ?_ (by simp only [go_sem, ↓reduceIte, numsOf_byt, ofNums_ub, r1, r2, ei, hsn, List.length_cons, List.length_nil, Nat.zero_add] <;> rfl)
    refine AW.again hK (acc ++ [ub b], r) ⟨by rw [hlen]; omega, ?_, hrb, by simp only; omega⟩ (by simp only [hlen]; omega) (hs := by simp only [go_sem, ↓reduceIte, hlen] <;> rfl)
    rw [← htn]
    simp only [hlen]
    congr 1
    omega
  have hge : acc.length = n := by have := of_decide_eq_false hc; omega
  rw [hge, Nat.sub_self] at htn
  rw [← htn]
  refine AW.freeze (p := .slot 3) (by simp only [go_sem, ↓reduceIte, freeze, freezeO] <;> rfl) ?_
  refine AW.go ?_
  refine AW.finP (.pv _ .nil) ⟨rfl, rfl, rfl⟩
end Go.Ck

set_option linter.unusedVariables false
set_option maxRecDepth 100000
set_option maxHeartbeats 400000
namespace Go.Ck
open Go.Proofs
theorem entsP_snoc (es : List Ent) (t : List UInt8) (x : Nat) : entsP es ++ [.agg [.str t, .int .i64 (x : Int)]] = entsP (es ++ [entD t x]) := by simp [entsP, entP, entD]
theorem padSz_pos (x : Nat) : decide (0 < padSz (x : Int)) = decide (x ≤ 8) := by
  rw [Bool.eq_iff_iff]
  have := padSz_zero (x : Int)
  simp only [decide_eq_true_eq]
  omega
theorem ments_fn (ts : List (List UInt8)) (htl : ts.length < 2 ^ 40) (q0 : List Nat) (hl : q0.length ≤ 2 ^ 40) (hb : ∀ x ∈ q0, x < 256) : FnP Try.prog 39 (curO q0) [.ptr 1000 0, .pv (.sl 1 (strs ts))]
    (fun rs H' => (entsD ts q0).2.1 = 0 ∧ rs = [.pv (.sl 2 (entsP (entsD ts q0).1))] ∧ H' = curO (entsD ts q0).2.2) (fun p H' => (entsD ts q0).2.1 ≠ 0 ∧ p = failE (entsD ts q0).2.1 ∧ H' = curO (entsD ts q0).2.2) := by
  refine FnP.of_body (fn := Try.f39) (n := 46) (res := [.tmp 4]) (by kernel_rfl) rfl rfl rfl rfl rfl (fun C => ?_)
  have hr : room = 140737488355328 := rfl
  refine AW.go ?_
  refine AW.callPE id (counted_fn q0 (by omega) hb) (.ptr rfl .nil) (fun he ch hch => ?_) (fun he => ?_)
  · have e1 : entsD ts q0 = ([], (cntD q0).2) := by unfold entsD; rw [if_pos he]
    rw [e1]
    exact AW.endP hch ⟨he, rfl, rfl⟩
  have e1 : entsD ts q0 = enD ts (cntD q0).1 [] (cntD q0).2.2 := by unfold entsD; rw [if_neg (by simpa using he)]
  rw [e1]
  have hb1 := cntD_byte hb
  have hl1 := cntD_len q0
  have hn := cntD_le q0
  generalize (cntD q0).2.2 = q1 at *
  generalize (cntD q0).1 = n at *
  clear he e1
  refine AW.go ?_
  refine AW.loopS (fun a : List Ent × List Nat => ⟨46, [(10, .pv (.int .i64 a.1.length)), (9, .pv (.int .i64 n)), (0, .ptr 1000 0), (1, .pv (.sl 1 (strs ts))), (5, .own 38 (entsP a.1))], [(1000, .cells 87 [.pv (.sl 1 (bytes a.2))])]⟩) (fun a => a.1.length ≤ n ∧ enD ts (n - a.1.length) a.1 a.2 = enD ts n [] q1 ∧ (∀ x ∈ a.2, x < 256) ∧ a.2.length ≤ q1.length) (fun a => n - a.1.length) [10, 9, 0, 1, 5] [1000] ([], q1) ⟨Nat.zero_le _, rfl, hb1, Nat.le_refl _⟩ ?_
  rintro ⟨acc, q⟩ ⟨hi, htn, hqb, hql⟩ K hK
  simp only at hi htn hqb hql
  refine AW.go ?_
  refine AW.cond rfl (fun hc => ?_) (fun hc => ?_)
  · have hlt : acc.length < n := by have := of_decide_eq_true hc; omega
    obtain ⟨m, hm⟩ : ∃ m, n - acc.length = m + 1 := ⟨n - acc.length - 1, by omega⟩
    rw [hm, enD] at htn
    have hb2 : ∀ x ∈ q.drop (readV q).2.1, x < 256 := fun x hx => hqb x (List.mem_of_mem_drop hx)
    have hl2 : (q.drop (readV q).2.1).length ≤ q.length := by rw [List.length_drop]; omega
    have hv := readV_lt hqb
    refine AW.go ?_
    refine AW.callE id (curVarint_fn q (by omega) hqb) (.ptr rfl .nil) ?_
    generalize q.drop (readV q).2.1 = q2 at *
    generalize readV q = B at *
    obtain ⟨v, k0, e⟩ := B
    simp only at htn hv
    refine AW.go ?_
    refine AW.callPE (fun _ => 0) (got64_fn v e) (.pv _ (.pv _ .nil)) (fun he ch hch => ?_) (fun he => ?_)
    · rw [← htn, if_pos he]
      exact AW.endP hch ⟨he, rfl, rfl⟩
    rw [if_neg (show ¬ e ≠ 0 by simpa using he)] at htn
    have et : IntKind.u64.wrap (ts.length : Int) = (ts.length : Int) := wrap_u64_lt (by omega)
    have d1 : decide ((v : Int) < (ts.length : Int)) = decide (v < ts.length) := by rw [Bool.eq_iff_iff]; simp
    refine AW.go ?_ (by simp only [go_sem, ↓reduceIte, et, d1] <;> rfl)
    refine AW.callPE (fun _ => 0) (unless_fn (decide (v < ts.length)) 3 (by decide)) (.pv _ (.pv _ .nil)) (fun he ch hch => ?_) (fun he => ?_)
    · have := of_decide_eq_false he
      rw [← htn, if_pos (by omega)]
      exact AW.endP hch ⟨by simp, rfl, rfl⟩
    have hvt := of_decide_eq_true he
    rw [if_neg (by omega)] at htn
    refine AW.go ?_
    refine AW.callPE id (taken_fn q2 1 (by omega)) (.ptr rfl (.pv _ .nil)) (fun he ch hch => ?_) (fun he => ?_)
    · rw [← htn, if_pos he]
      exact AW.endP hch ⟨by simp, rfl, rfl⟩
    obtain ⟨x, q3, rfl⟩ : ∃ x r, q2 = x :: r := by
      cases q2 with
      | nil => simp at he
      | cons x r => exact ⟨x, r, rfl⟩
    have t1 : (x :: q3).take 1 = [x] := rfl
    have t2 : (x :: q3).drop 1 = q3 := rfl
    have t3 : (x :: q3).headD 0 = x := rfl
    rw [if_neg (by omega)] at htn
    rw [t1, t2]
    rw [t2, t3] at htn
    have hx := hb2 x (by simp)
    have hb3 : ∀ y ∈ q3, y < 256 := fun y hy => hb2 y (by simp [hy])
    have hl3 : q3.length ≤ q1.length := by simp at hl2; omega
    have g0 : (bytes [x])[0]? = some (.int .u8 (x : Int)) := rfl
    have ex : IntKind.i64.wrap (x : Int) = (x : Int) := wrap_i64_nat (by omega)
    refine AW.go ?_ (by simp only [go_sem, ↓reduceIte, g0, ex] <;> rfl)
    refine AW.callE (fun _ => 0) (size_fn (x : Int)) (.pv _ .nil) ?_
    have dp := padSz_pos x
    have dp' : decide ((padSz (x : Int) : Int) > 0) = decide (x ≤ 8) := by rw [← dp, Bool.eq_iff_iff]; simp
    refine AW.go ?_ (by simp only [go_sem, ↓reduceIte, dp, dp'] <;> rfl)
    refine AW.callPE (fun _ => 0) (unless_fn (decide (x ≤ 8)) 3 (by decide)) (.pv _ (.pv _ .nil)) (fun he ch hch => ?_) (fun he => ?_)
    · have := of_decide_eq_false he
      rw [← htn, if_pos (by omega)]
      exact AW.endP hch ⟨by simp, rfl, rfl⟩
    have hx8 := of_decide_eq_true he
    rw [if_neg (by omega)] at htn
    have hgt : ts[v]? = some (ts.getD v []) := by rw [List.getD_eq_getElem?_getD, List.getElem?_eq_getElem hvt]; rfl
    have hg := strs_get hgt
    generalize ts.getD v [] = t at *
    have r1 : ((acc.length + 1) * 24 ≤ room) = True := eq_true (by omega)
    have r2 : (acc.length + 1 ≤ room) = True := eq_true (by omega)
    have ei : IntKind.i64.wrap ((acc.length : Int) + 1) = ((acc.length + 1 : Nat) : Int) := wrap_i64_succ (by omega)
    have hsn := entsP_snoc acc t x
    have hlen : (acc ++ [entD t x]).length = acc.length + 1 := by simp
    refine AW.go ?_
    refine AW.calmS ?_
    refine CK.reads [[], [], [], [33, 34], [35], [], [37], [38], [39]] ?_ (by simp only [go_sem, ↓reduceIte, hg, g0, ex] <;> rfl)
    refine CK.build [36, 40] ?_ (hf := by simp only [go_sem, ↓reduceIte, hg, g0, ex] <;> rfl)
    refine CK.list [41] ?_
    refine CK.done (M := 11) 2 mixed ?_
    refine AW.seqs (fuel := 0) (listed' := Array.replicate 13 true) [11, 12] ?_ (by decide +kernel)
    -- 11: t43 := call append(t32, t42)
    -- 12: t5 := = t43
    refine AW.gg ?_ (by simp only [go_sem, ↓reduceIte, r1, r2, hsn, List.length_cons, List.length_nil, Nat.zero_add] <;> rfl)
    refine AW.anyDone (by decide +kernel) ?_
    refine AW.go ?_ (by simp only [go_sem, ↓reduceIte, ei] <;> rfl)
    refine AW.again hK (acc ++ [entD t x], q3) ⟨by rw [hlen]; omega, ?_, hb3, hl3⟩ (by simp only [hlen]; omega) (hs := by simp only [go_sem, ↓reduceIte, hlen] <;> rfl)
    rw [← htn]
    simp only [hlen]
    congr 1
    omega
  have hge : acc.length = n := by have := of_decide_eq_false hc; omega
  rw [hge, Nat.sub_self] at htn
  rw [← htn]
  refine AW.freeze (p := .slot 5) (by simp only [go_sem, ↓reduceIte, freeze, freezeO] <;> rfl) ?_
  refine AW.go ?_
  refine AW.finP (.pv _ .nil) ⟨rfl, rfl, rfl⟩
end Go.Ck

set_option linter.unusedVariables false
set_option maxRecDepth 100000
set_option maxHeartbeats 400000
namespace Go.Ck
open Go.Proofs
def mO (a b c d : PV) (e : Int) : List (Nat × HO) := [(1002, .cells 26 [.pv a, .pv b, .pv c, .pv d]), (1003, .cells 29 [.pv (.int .i64 e)])]
attribute [go_sem] mO
theorem mdecRet_fn (a b c d : PV) (e : Int) : FnD Try.prog 32 (mO a b c d e) (ptrS [1002, 1003]) .returning .returning (fun H' => H' = mO a b c d e) := by
  refine FnD.of_rec (fn := Try.f32) (n := 14) (d := 5) (p := .nili) (by kernel_rfl) rfl rfl rfl rfl rfl rfl rfl rfl rfl (.inl ⟨rfl, rfl, rfl⟩) (fun C => ?_)
  refine AW.go ?_
  refine AW.eqNilI tk_20 ?_
  refine AW.condT (by simp only [go_sem, ↓reduceIte]) ?_
  refine AW.go ?_
  refine AW.finE .nil rfl
theorem mdecRec_fn (a b c d : PV) (e0 e : Int) {ch : List PanicEntry} (hch : Pan ch (failE e)) : FnD Try.prog 32 (mO a b c d e0) (ptrS [1002, 1003]) (.panicking ch) (recd ch) (fun H' => H' = mO (.int .u64 0) (.sl 1 []) (.sl 2 []) (.sl 1 []) e) := by
  refine FnD.of_rec (fn := Try.f32) (n := 14) (d := 5) (p := failE e) (by kernel_rfl) rfl rfl rfl rfl rfl rfl rfl rfl rfl (.inr ⟨ch, rfl, hch, rfl⟩) (fun C => ?_)
  refine AW.go ?_
  refine AW.eqNilI tk_20 ?_
  refine AW.condF (by simp only [go_sem, ↓reduceIte]) ?_
  refine AW.go ?_
  refine AW.assertT tk_56 ?_
  refine AW.go ?_
  refine AW.condT rfl ?_
  refine AW.go ?_
  refine AW.any0 mixed ?_
  refine AW.takes (fuel := 4) [1] ?_ (by simp only [go_sem, ↓reduceIte] <;> rfl) Ends.noPanic (listed' := #[false, true, false, false, false]) (by decide +kernel) (by decide +kernel)
  refine via (T := ?Tend) (fun hT => ?_) ?_; rotate_left
  · refine AW.branch (fuel := 3) (rs := [0, 2]) ?_ (by decide +kernel) (by simp)
    intro j hj
    simp only [List.mem_cons, List.not_mem_nil, or_false] at hj
    rcases hj with rfl | rfl
    · skip
      refine AW.gg ?_
      refine AW.branch (fuel := 2) (rs := [2, 3]) ?_ (by decide +kernel) (by simp)
      intro j hj
      simp only [List.mem_cons, List.not_mem_nil, or_false] at hj
      rcases hj with rfl | rfl
      · skip
        refine AW.gg ?_
        refine AW.seqs (fuel := 0) (listed' := #[true, true, true, true, true]) [3, 4] ?_ (by decide +kernel)
        refine AW.gg ?_
        refine AW.anyDone (by decide +kernel) ?_
        refine AW.keepB [] [1002, 1003] (s' := ⟨14, [], [(1002, .cells 26 [.pv (.int .u64 0), .nils, .nils, .nils]), (1003, .cells 29 [.pv (.int .i64 e)])]⟩) (by simp only [go_sem, ↓reduceIte]) (by simp only [go_sem, ↓reduceIte] <;> rfl) ?_
        exact hT ()
      · skip
        refine AW.gg ?_
        refine AW.seqs (fuel := 0) (listed' := #[true, true, true, true, true]) [2, 4] ?_ (by decide +kernel)
        refine AW.gg ?_
        refine AW.anyDone (by decide +kernel) ?_
        refine AW.keepB [] [1002, 1003] (s' := ⟨14, [], [(1002, .cells 26 [.pv (.int .u64 0), .nils, .nils, .nils]), (1003, .cells 29 [.pv (.int .i64 e)])]⟩) (by simp only [go_sem, ↓reduceIte]) (by simp only [go_sem, ↓reduceIte] <;> rfl) ?_
        exact hT ()
    · skip
      refine AW.gg ?_
      refine AW.seqs (fuel := 0) (listed' := #[true, true, true, true, true]) [0, 3, 4] ?_ (by decide +kernel)
      refine AW.gg ?_
      refine AW.anyDone (by decide +kernel) ?_
      refine AW.keepB [] [1002, 1003] (s' := ⟨14, [], [(1002, .cells 26 [.pv (.int .u64 0), .nils, .nils, .nils]), (1003, .cells 29 [.pv (.int .i64 e)])]⟩) (by simp only [go_sem, ↓reduceIte]) (by simp only [go_sem, ↓reduceIte] <;> rfl) ?_
      exact hT ()
  refine AW.go ?_
  refine AW.nilsOwnAt (.cell 1002 1) 5 ?_
  refine AW.freeze (p := .cell 1002 1) (by simp only [go_sem, ↓reduceIte, freeze, freezeO] <;> rfl) ?_
  refine AW.nilsOwnAt (.cell 1002 2) 38 ?_
  refine AW.freeze (p := .cell 1002 2) (by simp only [go_sem, ↓reduceIte, freeze, freezeO] <;> rfl) ?_
  refine AW.nilsOwnAt (.cell 1002 3) 5 ?_
  refine AW.freeze (p := .cell 1002 3) (by simp only [go_sem, ↓reduceIte, freeze, freezeO] <;> rfl) ?_
  refine AW.finE .nil rfl
theorem ub_eq {l : List Nat} (hb : ∀ x ∈ l, x < 256) : (ub l == [67, 83, 75, 49]) = decide (l = [67, 83, 75, 49]) := by
  rw [Bool.eq_iff_iff]
  simp only [beq_iff_eq, decide_eq_true_eq]
  constructor
  · intro h
    rw [← nb_ub hb, h]; rfl
  · rintro rfl; rfl
theorem manDec_fn (b : List Nat) (hl : b.length ≤ 2 ^ 40) (hb : ∀ x ∈ b, x < 256) : Fn Try.prog 14 [] [.pv (.sl 1 (bytes b))]
    (fun rs H' => rs = [.pv (manP (decM b).1), .pv (.int .i64 (decM b).2)] ∧ H' = []) := by
  refine Fn.of_bodyD 32 [1002, 1003] (fn := Try.f14) (n := 55) (res := [.cell 2 26, .cell 3 29]) (by kernel_rfl) rfl rfl rfl rfl rfl (fun C => ?_)
  have hr : room = 140737488355328 := rfl
  have hbad : ∀ e, decM b = noM e → [SV.pv (.agg [.int .u64 0, .sl 1 [], .sl 2 [], .sl 1 []]), .pv (.int .i64 e)] = [SV.pv (manP (decM b).1), .pv (.int .i64 (decM b).2)] := fun e h => by rw [h]; rfl
  refine AW.seq ?_
  refine AW.region ?_
  refine AW.allocAt 1002 ?_
  refine AW.allocAt 1003 ?_
  refine AW.nilsOwnAt (.cell 1002 1) 5 ?_
  refine AW.freeze (p := .cell 1002 1) (by simp only [go_sem, ↓reduceIte, freeze, freezeO] <;> rfl) ?_
  refine AW.nilsOwnAt (.cell 1002 2) 38 ?_
  refine AW.freeze (p := .cell 1002 2) (by simp only [go_sem, ↓reduceIte, freeze, freezeO] <;> rfl) ?_
  refine AW.nilsOwnAt (.cell 1002 3) 5 ?_
  refine AW.freeze (p := .cell 1002 3) (by simp only [go_sem, ↓reduceIte, freeze, freezeO] <;> rfl) ?_
  refine AW.go ?_
  refine AW.defer [1002, 1003] ?_
  refine AW.go ?_
  refine AW.callE (fun _ => 4) (curNew_fn b (by omega)) (.pv _ .nil) ?_
  refine AW.go ?_
  refine AW.callPE (fun _ => 4) (taken_fn b 4 (by omega)) (.ptr rfl (.pv _ .nil)) (fun he ch hch => ?_) (fun he => ?_)
  · exact AW.finDP hch (mdecRec_fn _ _ _ _ _ _ hch) (.pv _ (.pv _ .nil)) ⟨hbad 2 (by unfold decM; rw [if_pos he]), rfl⟩
  have e1 : decM b = if b.take 4 ≠ [67, 83, 75, 49] then noM 3 else decM1 (b.drop 4) := by unfold decM; rw [if_neg (by omega)]
  rw [e1] at hbad ⊢
  have hu := ub_eq (l := b.take 4) (fun x hx => hb x (List.mem_of_mem_take hx))
  have hb1 : ∀ x ∈ b.drop 4, x < 256 := fun x hx => hb x (List.mem_of_mem_drop hx)
  have hl1 : (b.drop 4).length ≤ 2 ^ 40 := by rw [List.length_drop]; omega
  clear e1 he hb hl
  generalize b.take 4 = m4 at *
  generalize b.drop 4 = q1 at *
  refine AW.go ?_ (by simp only [go_sem, ↓reduceIte, numsOf_byt, ofNums_ub, hu] <;> rfl)
  refine AW.callPE (fun _ => 0) (unless_fn (decide (m4 = [67, 83, 75, 49])) 3 (by decide)) (.pv _ (.pv _ .nil)) (fun he ch hch => ?_) (fun he => ?_)
  · exact AW.finDP hch (mdecRec_fn _ _ _ _ _ _ hch) (.pv _ (.pv _ .nil)) ⟨hbad 3 (by rw [if_pos (of_decide_eq_false he)]), rfl⟩
  have e2 : (if m4 ≠ [67, 83, 75, 49] then noM 3 else decM1 q1) = decM1 q1 := if_neg (by simpa using of_decide_eq_true he)
  rw [e2] at hbad ⊢
  clear e2 he hu
  refine AW.go ?_
  refine AW.callE (fun _ => 4) (curFixed_fn q1 8 (by omega) (by omega) hb1) (.ptr rfl (.pv _ .nil)) ?_
  have hv := beN_lt (q1.take 8) (fun x hx => hb1 x (List.mem_of_mem_take hx))
  have hvp : 256 ^ (q1.take 8).length ≤ 256 ^ 8 := Nat.pow_le_pow_right (by omega) (by rw [List.length_take]; omega)
  have hb2 : ∀ x ∈ q1.drop 8, x < 256 := fun x hx => hb1 x (List.mem_of_mem_drop hx)
  have hl2 : (q1.drop 8).length ≤ 2 ^ 40 := by rw [List.length_drop]; omega
  by_cases h8 : q1.length < 8
  · have h8' : ¬ 8 ≤ q1.length := by omega
    simp only [if_neg h8']
    refine AW.go ?_
    refine AW.callPE (fun _ => 0) (got64_fn 0 2) (.pv _ (.pv _ .nil)) (fun he ch hch => ?_) (fun he => absurd he (by decide))
    exact AW.finDP hch (mdecRec_fn _ _ _ _ _ _ hch) (.pv _ (.pv _ .nil)) ⟨hbad 2 (by unfold decM1; rw [if_pos h8]), rfl⟩
  have h8' : 8 ≤ q1.length := by omega
  simp only [if_pos h8']
  have e3 : decM1 q1 = if beN (q1.take 8) = 18446744073709551615 then noM 3 else decM2 (beN (q1.take 8)) (q1.drop 8) := by unfold decM1; rw [if_neg h8]
  rw [e3] at hbad ⊢
  clear e3 h8 h8'
  generalize beN (q1.take 8) = v at *
  generalize q1.drop 8 = q2 at *
  clear hvp
  refine AW.go ?_
  refine AW.callPE (fun _ => 0) (got64_fn v 0) (.pv _ (.pv _ .nil)) (fun he ch hch => absurd rfl he) (fun he => ?_)
  clear he
  have dv : ((v : Int) != 18446744073709551615) = !decide (v = 18446744073709551615) := by rw [Bool.eq_iff_iff]; simp; omega
  refine AW.go ?_ (by simp only [go_sem, ↓reduceIte, dv] <;> rfl)
  refine AW.callPE (fun _ => 0) (unless_fn (!decide (v = 18446744073709551615)) 3 (by decide)) (.pv _ (.pv _ .nil)) (fun he ch hch => ?_) (fun he => ?_)
  · have hv1 : v = 18446744073709551615 := by simpa using he
    exact AW.finDP hch (mdecRec_fn _ _ _ _ _ _ hch) (.pv _ (.pv _ .nil)) ⟨hbad 3 (by rw [if_pos hv1]), rfl⟩
  have hv1 : v ≠ 18446744073709551615 := by simpa using he
  rw [if_neg hv1] at hbad ⊢
  clear he
  refine AW.go ?_
  refine AW.callPE (fun _ => 4) (taken_fn q2 32 (by omega)) (.ptr rfl (.pv _ .nil)) (fun he ch hch => ?_) (fun he => ?_)
  · exact AW.finDP hch (mdecRec_fn _ _ _ _ _ _ hch) (.pv _ (.pv _ .nil)) ⟨hbad 2 (by unfold decM2; rw [if_pos he]), rfl⟩
  have e4 : decM2 v q2 = decM3 v (q2.take 32) (q2.drop 32) := by unfold decM2; rw [if_neg (by omega)]
  rw [e4] at hbad ⊢
  have hb3 : ∀ x ∈ q2.drop 32, x < 256 := fun x hx => hb2 x (List.mem_of_mem_drop hx)
  have hl3 : (q2.drop 32).length ≤ 2 ^ 40 := by rw [List.length_drop]; omega
  clear e4 he
  generalize q2.take 32 = prev at *
  generalize q2.drop 32 = q3 at *
  refine AW.go ?_
  refine AW.callPE (fun _ => 4) (mtens_fn q3 (by omega) hb3) (.ptr rfl .nil) (fun he ch hch => ?_) (fun he => ?_)
  · exact AW.finDP hch (mdecRec_fn _ _ _ _ _ _ hch) (.pv _ (.pv _ .nil)) ⟨hbad _ (by unfold decM3; rw [if_pos he]), rfl⟩
  have e5 : decM3 v prev q3 = decM4 v prev (tensD q3).1 (tensD q3).2.2 := by unfold decM3; rw [if_neg (by simpa using he)]
  rw [e5] at hbad ⊢
  have hb4 := tensD_byte hb3
  have hl4 := tensD_len hb3
  have htl := tensD_n q3
  clear e5 he
  generalize (tensD q3).1 = ts at *
  generalize (tensD q3).2.2 = q4 at *
  refine AW.go ?_
  refine AW.callPE (fun _ => 4) (ments_fn ts (by omega) q4 (by omega) hb4) (.ptr rfl (.pv _ .nil)) (fun he ch hch => ?_) (fun he => ?_)
  · exact AW.finDP hch (mdecRec_fn _ _ _ _ _ _ hch) (.pv _ (.pv _ .nil)) ⟨hbad _ (by unfold decM4; rw [if_pos he]), rfl⟩
  have e6 : decM4 v prev ts q4 = decM5 v prev ts (entsD ts q4).1 (entsD ts q4).2.2 := by unfold decM4; rw [if_neg (by simpa using he)]
  rw [e6] at hbad ⊢
  have hb5 := entsD_byte ts hb4
  have hl5 := entsD_len ts q4
  have hel := entsD_n ts q4
  clear e6 he
  generalize (entsD ts q4).1 = es at *
  generalize (entsD ts q4).2.2 = q5 at *
  refine AW.go ?_
  refine AW.callPE (fun _ => 4) (taken_fn q5 32 (by omega)) (.ptr rfl (.pv _ .nil)) (fun he ch hch => ?_) (fun he => ?_)
  · exact AW.finDP hch (mdecRec_fn _ _ _ _ _ _ hch) (.pv _ (.pv _ .nil)) ⟨hbad 2 (by unfold decM5; rw [if_pos he]), rfl⟩
  have e7 : decM5 v prev ts es q5 = if q5.drop 32 ≠ [] then noM 3 else if (dirS es).length ≠ ts.length then noM 3 else (⟨v, prev, es, q5.take 32⟩, 0) := by unfold decM5; rw [if_neg (by omega)]
  rw [e7] at hbad ⊢
  clear e7 he
  generalize q5.take 32 = root at *
  generalize q5.drop 32 = q6 at *
  refine AW.go ?_
  refine AW.callE (fun _ => 4) (curEnd_fn q6) (.ptr rfl .nil) ?_
  refine AW.go ?_
  refine AW.callPE (fun _ => 0) (must_fn _) (.pv _ .nil) (fun he ch hch => ?_) (fun he => ?_)
  · have h6 : q6 ≠ [] := fun h => he (if_pos h)
    rw [if_neg h6] at hch
    exact AW.finDP hch (mdecRec_fn _ _ _ _ _ _ hch) (.pv _ (.pv _ .nil)) ⟨hbad _ (by rw [if_pos h6]), rfl⟩
  have h6 : q6 = [] := Classical.byContradiction fun h => by rw [if_neg h] at he; exact absurd he (by decide)
  rw [if_neg (by simpa using h6)] at hbad ⊢
  clear he
  have hdf := directory_fn es (by omega)
  have hdl := dirS_len es
  have hnl := nmS_len es
  generalize dirS es = ns at *
  refine AW.go ?_
  refine AW.callE (fun _ => 6) hdf (.pv _ .nil) ?_
  refine AW.go ?_
  refine AW.extractM rfl ⟨_, rfl⟩ ?_
  have dn : ((ns.length : Int) == (ts.length : Int)) = decide (ns.length = ts.length) := by rw [Bool.eq_iff_iff]; simp; omega
  refine AW.go ?_ (by simp only [go_sem, ↓reduceIte, dn] <;> rfl)
  refine AW.callPE (fun _ => 0) (unless_fn (decide (ns.length = ts.length)) 3 (by decide)) (.pv _ (.pv _ .nil)) (fun he ch hch => ?_) (fun he => ?_)
  · exact AW.finDP hch (mdecRec_fn _ _ _ _ _ _ hch) (.pv _ (.pv _ .nil)) ⟨hbad 3 (by rw [if_pos (of_decide_eq_false he)]), rfl⟩
  rw [if_neg (by simpa using of_decide_eq_true he)]
  refine AW.go ?_
  exact AW.finD (mdecRet_fn _ _ _ _ _) (.pv _ (.pv _ .nil)) ⟨rfl, rfl⟩
end Go.Ck

set_option linter.unusedVariables false
set_option maxRecDepth 100000
set_option maxHeartbeats 400000
namespace Go.Ck
open Go.Proofs
theorem refMSame_fn (m m2 : Man) (hl : m.es.length < 2 ^ 40) (hp : m.prev.length ≤ 2 ^ 40) (hr : m.root.length ≤ 2 ^ 40) : Fn Try.prog 46 [] [.pv (manP m), .pv (manP m2)] (fun rs H' => rs = [.pv (.bool (sameM m m2))] ∧ H' = []) := by
  refine Fn.of_body (fn := Try.f46) (n := 71) (res := [.tmp 4]) (by kernel_rfl) rfl rfl rfl rfl rfl (fun C => ?_)
  have hroom : room = 140737488355328 := rfl
  obtain ⟨v, p, es, r⟩ := m
  obtain ⟨v2, p2, es2, r2⟩ := m2
  have hm : ∀ v p es r, manP ⟨v, p, es, r⟩ = .agg [.int .u64 (v : Int), .sl 1 (bytes p), .sl 2 (entsP es), .sl 1 (bytes r)] := fun _ _ _ _ => rfl
  rw [hm, hm]
  simp only at hl hp hr
  unfold sameM
  simp only
  have dv : ((v : Int) != (v2 : Int)) = !decide (v = v2) := by rw [Bool.eq_iff_iff]; simp; omega
  have dl : ((es.length : Int) != (es2.length : Int)) = !decide (es.length = es2.length) := by rw [Bool.eq_iff_iff]; simp; omega
  have dl' : (es.length != es2.length) = !decide (es.length = es2.length) := by rw [Bool.eq_iff_iff]; simp
  by_cases hv : v = v2
  · rw [decide_eq_true hv] at dv
    refine AW.gg ?_ (by simp only [go_sem, ↓reduceIte, dv, Bool.not_true] <;> rfl)
    refine AW.guardT rfl rfl ?_
    refine AW.callE (fun _ => 0) (ref01Same_fn p p2 (by omega)) (.pv _ (.pv _ .nil)) ?_
    by_cases hpp : p = p2
    · rw [decide_eq_true hpp]
      refine AW.gg ?_
      refine AW.guardT rfl rfl ?_
      refine AW.callE (fun _ => 0) (ref01Same_fn r r2 (by omega)) (.pv _ (.pv _ .nil)) ?_
      by_cases hrr : r = r2
      · rw [decide_eq_true hrr]
        by_cases hll : es.length = es2.length
        · rw [decide_eq_true hll] at dl dl'
          refine AW.gg ?_ (by simp only [go_sem, ↓reduceIte, dl, dl', Bool.not_true] <;> rfl)
          refine AW.condF rfl ?_
          refine AW.go ?_
          refine AW.loopS (fun i : Nat => ⟨71, [(5, .pv (.int .i64 i)), (2, .ptr 2 0), (3, .ptr 3 0)], [(2, .cells 26 [.pv (.int .u64 (v : Int)), .pv (.sl 1 (bytes p)), .pv (.sl 2 (entsP es)), .pv (.sl 1 (bytes r))]), (3, .cells 26 [.pv (.int .u64 (v2 : Int)), .pv (.sl 1 (bytes p2)), .pv (.sl 2 (entsP es2)), .pv (.sl 1 (bytes r2))])]⟩) (fun i => i ≤ es.length ∧ es.take i = es2.take i) (fun i => es.length - i) [5, 2, 3] [2, 3] 0 ⟨Nat.zero_le _, rfl⟩ ?_
          rintro i ⟨hi, ht⟩ K hK
          refine AW.go ?_
          refine AW.cond rfl (fun hc => ?_) (fun hc => ?_)
          · have hlt : i < es.length := by have := of_decide_eq_true hc; omega
            obtain ⟨e, he⟩ : ∃ e, es[i]? = some e := ⟨es[i], List.getElem?_eq_getElem hlt⟩
            obtain ⟨e2, he2⟩ : ∃ e, es2[i]? = some e := ⟨es2[i], List.getElem?_eq_getElem (by omega)⟩
            have hg := entsP_get he
            have hg2 := entsP_get he2
            have e1 : IntKind.i64.wrap ((i : Int) + 1) = ((i + 1 : Nat) : Int) := wrap_i64_succ (by omega)
            have hne : e ≠ e2 → ¬ (v = v2 ∧ p = p2 ∧ r = r2 ∧ es = es2) := by
              rintro h ⟨_, _, _, h4⟩
              rw [h4, he2] at he
              exact h (by cases he; rfl)
            refine AW.go ?_
            by_cases ht1 : e.1 = e2.1
            · have d1 : (e.1 == e2.1) = true := by simpa using ht1
              have d1' : (e.1 != e2.1) = false := by simpa using ht1
              by_cases ht2 : e.2 = e2.2
              · have d2 : (e.2 != e2.2) = false := by simpa using ht2
                refine AW.sr mixed (by decide +kernel) ?_ (by simp only [go_sem, ↓reduceIte, hg, hg2, d1, d1', d2] <;> rfl)
                refine AW.go ?_
                refine AW.condF rfl ?_
                refine AW.go ?_ (by simp only [go_sem, ↓reduceIte, e1] <;> rfl)
                have hee : e = e2 := Prod.ext ht1 ht2
                exact AW.again hK (i + 1) (by exact ⟨hlt, by rw [List.take_add_one, List.take_add_one, he, he2, ht, hee]⟩) (by omega)
              · have d2 : (e.2 != e2.2) = true := by simpa using ht2
                rw [decide_eq_false (hne (fun h => ht2 (by rw [h])))]
                refine AW.sr mixed (by decide +kernel) ?_ (by simp only [go_sem, ↓reduceIte, hg, hg2, d1, d1', d2] <;> rfl)
                refine AW.go ?_
                refine AW.condT rfl ?_
                refine AW.go ?_
                exact AW.finE (.pv _ .nil) rfl
            · have d1 : (e.1 == e2.1) = false := by simpa using ht1
              have d1' : (e.1 != e2.1) = true := by simpa using ht1
              rw [decide_eq_false (hne (fun h => ht1 (by rw [h])))]
              refine AW.sr mixed (by decide +kernel) ?_ (by simp only [go_sem, ↓reduceIte, hg, hg2, d1, d1'] <;> rfl)
              refine AW.go ?_
              refine AW.condT rfl ?_
              refine AW.go ?_
              exact AW.finE (.pv _ .nil) rfl
          have hge : ¬ i < es.length := by have := of_decide_eq_false hc; omega
          rw [List.take_of_length_le (by omega), List.take_of_length_le (by omega)] at ht
          rw [decide_eq_true ⟨hv, hpp, hrr, ht⟩]
          refine AW.go ?_
          exact AW.finE (.pv _ .nil) rfl
        · rw [decide_eq_false hll] at dl dl'
          rw [decide_eq_false (fun h => hll (by rw [h.2.2.2]))]
          refine AW.gg ?_ (by simp only [go_sem, ↓reduceIte, dl, dl', Bool.not_false] <;> rfl)
          refine AW.condT rfl ?_
          refine AW.go ?_
          exact AW.finE (.pv _ .nil) rfl
      · rw [decide_eq_false hrr, decide_eq_false (fun h => hrr h.2.2.1)]
        refine AW.gg ?_
        refine AW.condT rfl ?_
        refine AW.go ?_
        exact AW.finE (.pv _ .nil) rfl
    · rw [decide_eq_false hpp, decide_eq_false (fun h => hpp h.2.1)]
      refine AW.gg ?_
      refine AW.condT rfl ?_
      refine AW.go ?_
      exact AW.finE (.pv _ .nil) rfl
  · rw [decide_eq_false hv] at dv
    rw [decide_eq_false (fun h => hv h.1)]
    refine AW.gg ?_ (by simp only [go_sem, ↓reduceIte, dv, Bool.not_false] <;> rfl)
    refine AW.condT rfl ?_
    refine AW.go ?_
    exact AW.finE (.pv _ .nil) rfl
theorem lawMSame_fn (m m2 : Man) (hl : m.es.length < 2 ^ 40) (hp : m.prev.length ≤ 2 ^ 40) (hr : m.root.length ≤ 2 ^ 40) : Fn Try.prog 16 [] [.pv (manP m), .pv (manP m2)] (fun rs H' => rs = [.pv (.bool (sameM m m2))] ∧ H' = []) := by
  refine Fn.of_body (fn := Try.f16) (n := 8) (res := [.tmp 4]) (by kernel_rfl) rfl rfl rfl rfl rfl (fun C => ?_)
  have hs := refMSame_fn m m2 hl hp hr
  obtain ⟨v, p, es, r⟩ := m
  obtain ⟨v2, p2, es2, r2⟩ := m2
  have hm : ∀ v p es r, manP ⟨v, p, es, r⟩ = .agg [.int .u64 (v : Int), .sl 1 (bytes p), .sl 2 (entsP es), .sl 1 (bytes r)] := fun _ _ _ _ => rfl
  rw [hm, hm] at hs ⊢
  refine AW.go ?_
  refine AW.callE (fun _ => 0) hs (.pv _ (.pv _ .nil)) ?_
  refine AW.go ?_
  exact AW.finE (.pv _ .nil) rfl
end Go.Ck
