/- What is proved here: parts of the proofs of this seat's statements (a verified evaluator for calls over pure values, its laws, and contracts of functions). No condition. -/
import Derived.Test.YthjibccogjggbaaKx
set_option linter.all false
set_option linter.unusedVariables false
set_option maxRecDepth 100000
set_option maxHeartbeats 400000
namespace Go.Ck
open Go.Proofs
theorem entsP_snocE (l : List Ent) (e : Ent) : entsP l ++ [.agg [.str e.1, .int .i64 e.2]] = entsP (l ++ [e]) := by simp [entsP, entP]
theorem law21tenants_fn (m : Man) (hv : m.v < 2 ^ 64) (hl : m.es.length < 2 ^ 63) (hpb : ∀ x ∈ m.prev, x < 256) (hrb : ∀ x ∈ m.root, x < 256) : Fn Try.prog 6 [] [.pv (manP m)] (fun rs H' => rs = [.pv (.bool true)] ∧ H' = []) := by
  refine Fn.of_body (fn := Try.f6) (n := 86) (res := [.tmp 2]) (by kernel_rfl) rfl rfl rfl rfl rfl (fun C => ?_)
  have hroom : room = 140737488355328 := rfl
  have hff := few_fn m hl
  have hm : manP m = .agg [.int .u64 (m.v : Int), .sl 1 (bytes m.prev), .sl 2 (entsP m.es), .sl 1 (bytes m.root)] := rfl
  rw [hm] at hff ⊢
  refine AW.go ?_
  refine AW.callE (fun _ => 0) awake_fn .nil ?_
  refine AW.go ?_
  refine AW.callE (fun _ => 0) hff (.pv _ .nil) ?_
  cases hfb : fewM m with
  | false =>
    refine AW.go ?_
    refine AW.condT rfl ?_
    refine AW.go ?_
    exact AW.finE (.pv _ .nil) rfl
  | true =>
  have hfw : m.es.length ≤ 100 ∧ m.prev.length ≤ 300 ∧ m.root.length ≤ 300 ∧ ∀ e ∈ m.es, e.1.length ≤ 200 := by unfold fewM at hfb; exact of_decide_eq_true hfb
  obtain ⟨f1, f2, f3, f4⟩ := hfw
  have hef := manEnc_fn m hv (by omega)
  have hef2 := manEnc_fn (revM m) hv (by simp only [revM, List.length_reverse]; omega)
  have hsm := lawMSame_fn (revM m) (revM m) (by simp only [revM, List.length_reverse]; omega) (by simp only [revM]; omega) (by simp only [revM]; omega)
  rw [sameM_self] at hsm
  have hE1 := encM_len m hv
  have hE2 := encM_rev2 m
  have hE3 := encM_rev1 m
  have hdm : (encM m).2 = 0 → decM (encM (revM m)).1 = (revM m, 0) := fun h => by
    obtain ⟨h1, h2⟩ := encM_ok (m := revM m) (by rw [hE2]; exact h)
    rw [h2]; exact decM_bodyM h1 hv
  have hby := encM_byte (m := revM m) hpb hrb
  have hm2 : manP (revM m) = .agg [.int .u64 (m.v : Int), .sl 1 (bytes m.prev), .sl 2 (entsP m.es.reverse), .sl 1 (bytes m.root)] := rfl
  rw [hm2] at hef2 hsm
  rw [hm] at hef
  rw [hE2] at hef2
  generalize (encM (revM m)).1 = E2 at *
  generalize encM m = E at *
  obtain ⟨en, ee⟩ := E
  simp only at hE1 hE2 hE3 hdm hef hef2
  have hmr : manP (revM m) = .agg [.int .u64 (m.v : Int), .sl 1 (bytes m.prev), .sl 2 (entsP m.es.reverse), .sl 1 (bytes m.root)] := rfl
  generalize revM m = RM at *
  clear hff hm hfb
  obtain ⟨v, p, es, r⟩ := m
  simp only at *
  have en1 : IntKind.i64.wrap ((es.length : Int) - 1) = (es.length : Int) - 1 := wrap_i64_of (by omega) (by omega)
  refine AW.go ?_
  refine AW.condF rfl ?_
  refine AW.go ?_
  refine AW.nilsOwnAt (.cell 4 2) 38 ?_
  refine AW.go ?_ (by simp only [go_sem, ↓reduceIte, en1] <;> rfl)
  refine AW.loopS (fun k : Nat => ⟨86, [(5, .pv (.int .i64 ((k : Int) - 1))), (4, .ptr 4 0), (1, .ptr 1 0), (3, .pv (.bool true))], [(1, .cells 26 [.pv (.int .u64 (v : Int)), .pv (.sl 1 (bytes p)), .pv (.sl 2 (entsP es)), .pv (.sl 1 (bytes r))]), (4, .cells 26 [.pv (.int .u64 (v : Int)), .pv (.sl 1 (bytes p)), .own 38 (entsP (es.drop k).reverse), .pv (.sl 1 (bytes r))])]⟩) (fun k => k ≤ es.length) (fun k => k) [5, 4, 1, 3] [1, 4] es.length (Nat.le_refl _) ?_ (hs := by simp only [go_sem, ↓reduceIte, List.drop_length, List.reverse_nil] <;> rfl)
  rintro k hk K hK
  rcases k with _ | j
  · have d0 : decide (((0 : Nat) : Int) - 1 ≥ 0) = false := decide_eq_false (by decide)
    have d0' : decide ((0 : Int) ≤ ((0 : Nat) : Int) - 1) = false := decide_eq_false (by decide)
    refine AW.gg ?_ (by simp only [go_sem, ↓reduceIte, d0, d0'] <;> rfl)
    refine AW.condF rfl ?_
    try rw [List.drop_zero]
    refine AW.freeze (p := .cell 4 2) (by simp only [go_sem, ↓reduceIte, freeze, freezeO] <;> rfl) ?_
    refine AW.go ?_
    refine AW.callE (fun _ => 0) hef (.pv _ .nil) ?_
    refine AW.go ?_
    refine AW.callE (fun _ => 0) hef2 (.pv _ .nil) ?_
    by_cases hee : ee = 0
    · subst hee
      have hdf := manDec_fn E2 (by omega) hby
      rw [hdm rfl, hmr] at hdf
      simp only [show ((0 : Nat) : Int) = 0 from rfl] at hdf
      have d1 : (((0 : Nat) : Int) != 0) = false := rfl
      refine AW.gg ?_ (by simp only [go_sem, ↓reduceIte, d1] <;> rfl)
      refine AW.condF rfl ?_
      refine AW.freeze (p := .slot 8) (by simp only [go_sem, ↓reduceIte, freeze, freezeO] <;> rfl) ?_
      refine AW.go ?_
      refine AW.callE (fun _ => 0) hdf (.pv _ .nil) ?_
      have g0 : ((0 : Int) == 0) = true := rfl
      have dl : ((en.length : Int) == (E2.length : Int)) = true := by rw [hE3]; simp
      refine AW.go ?_
      refine AW.gg ?_ (by simp only [go_sem, ↓reduceIte, g0] <;> rfl)
      refine AW.guardT rfl rfl ?_
      refine AW.callE (fun _ => 0) hsm (.pv _ (.pv _ .nil)) ?_
      refine AW.gg ?_ (by simp only [go_sem, ↓reduceIte, dl] <;> rfl)
      exact AW.finE (.pv _ .nil) rfl
    · have d1 : ((ee : Int) != 0) = true := by rw [bne_iff_ne]; omega
      have d2 : ((ee : Int) == (ee : Int)) = true := by simp
      refine AW.gg ?_ (by simp only [go_sem, ↓reduceIte, d1] <;> rfl)
      refine AW.condT rfl ?_
      refine AW.gg ?_ (by simp only [go_sem, ↓reduceIte, d2] <;> rfl)
      exact AW.finE (.pv _ .nil) rfl
  have ej : ((j + 1 : Nat) : Int) - 1 = (j : Int) := by omega
  have dj : decide ((j : Int) ≥ 0) = true := decide_eq_true (by omega)
  have dj' : decide ((0 : Int) ≤ (j : Int)) = true := decide_eq_true (by omega)
  obtain ⟨e, he⟩ : ∃ e, es[j]? = some e := ⟨es[j], List.getElem?_eq_getElem hk⟩
  have hg := entsP_get he
  have ew : IntKind.i64.wrap ((j : Int) - 1) = (j : Int) - 1 := wrap_i64_of (by omega) (by omega)
  have hds : (es.drop (j + 1)).reverse ++ [e] = (es.drop j).reverse := by
    have : es.drop j = e :: es.drop (j + 1) := by rw [List.drop_eq_getElem_cons hk]; congr 1; rw [List.getElem?_eq_getElem hk] at he; exact Option.some.inj he
    rw [this]; simp
  have hsn := entsP_snocE (es.drop (j + 1)).reverse e
  rw [hds] at hsn
  have q1 : (es.length - (j + 1) + 1) * 24 ≤ room := by omega
  have q2 : es.length - (j + 1) + 1 ≤ room := by omega
  refine AW.go ?_ (by simp only [go_sem, ↓reduceIte, ej, dj, dj'] <;> rfl)
  refine AW.condT rfl ?_
  refine AW.go ?_
  refine AW.calmS ?_
  refine CK.reads [[], [32], [], [34], [], [35, 36], [37]] ?_ (by simp only [go_sem, ↓reduceIte, hg, ej] <;> rfl)
  refine CK.list [38] ?_
  refine CK.done (M := 8) 3 mixed ?_
  refine AW.seqs (fuel := 0) (listed' := Array.replicate 11 true) [8, 9, 10] ?_ (by decide +kernel)
  refine AW.gg ?_ (by simp only [go_sem, ↓reduceIte, entsP_len, List.length_reverse, List.length_drop, List.length_cons, List.length_nil, Nat.zero_add, q1, q2, hsn] <;> rfl)
  refine AW.anyDone (by decide +kernel) ?_
  refine AW.go ?_ (by simp only [go_sem, ↓reduceIte, ej, ew] <;> rfl)
  exact AW.again hK j (by omega) (by omega)
end Go.Ck
