/- What is proved: the law ChunkSamples returns true for every input and leaves its arguments as they were. Conditions: those of the given row and card alone (the table of package math/bits is laid as the program's text lays it). -/
import Derived.Test.YtnbkoemhcpjceaaDoorKr
import Derived.Test.YtnbkoemhcpjceaaDoorZCtRa
set_option linter.all false
set_option linter.unusedVariables false
namespace Go.Proofs.YtnbkoemhcpjceaaDoor
open Go Go.Ck Go.RowKit Go.ChangeShapes Go.WideShapes Go.ChangeAt

set_option maxRecDepth 100000 in
theorem chunkSamples_lifted (os : Os) (started : os.Started) (H : Type) (enc : TypeId × Value → H) :
    ReturnsInHanded {} Tryd.checked os 13 .any (fun w args => (Rows.chunkSamplesSpec.pre enc Tryd.prog Tryd.f13 [] false w args ∧ laidMetH Tryd.prog laidL w) ∧ sizedMet enc Tryd.prog Tryd.f13 (OpenSpec.ofChange Rows.chunkSamplesSpec) false w args)
      (Rows.chunkSamplesSpec.post enc Tryd.prog Tryd.f13 false true false false) :=
  law_lifted (C := Tryd.checked) (N := 4) (tb := 4) own started (by kernel_rfl) Tryd.func13
    (ChangeSpec.witness_shaped (enc := enc) (C := Tryd.checked) (os := os) (X := fun w _ => laidMetH Tryd.prog laidL w) false (World.doorLaid Tryd.prog 400 os) #[.agg #[.string ⟨#[]⟩, .slice none 0 0]] 8 rfl (World.shaped_of_RefB (by kernel_rfl) (by kernel_rfl)) (by kernel_rfl) (by kernel_rfl) (by kernel_rfl) (door_met os _))
    laidOut mapsR (by kernel_rfl) rfl (fun ds h => by
      have h2 : ds.length = 1 := h
      match ds, h2 with
      | [a], _ => rfl) rfl (by kernel_rfl) (fun pl h => by
      have e : Tryd.f13.params.toList = [42] := by kernel_rfl
      rw [e] at h
      obtain ⟨p, rfl, h1⟩ := PA1 h
      obtain ⟨t, xs, rfl, ht, hx⟩ := PT_chunk (n := 0) (s := 9) (l := 40) (e := 55) (a := 3) (b := 38) (by kernel_rfl) (by kernel_rfl) (by kernel_rfl) (by kernel_rfl) (by kernel_rfl) (by kernel_rfl) (by kernel_rfl) h1.1 h1.2
      exact law12samples_fn t xs ht hx) gok

theorem chunkSamples_row : Rows.ChunkSamplesSaid :=
  OpenClaim.holds_of_wide 13 Tryd.f13 rfl rfl rfl rfl rfl rfl rfl ⟨rfl, rfl, rfl, rfl, rfl⟩ rfl rfl rfl rfl rfl (by kernel_rfl) Tryd.func13 (by kernel_rfl)
    (of_decide_eq_true (by kernel_rfl)) (by unfold Func.isWrapper; first | (rw [if_pos (by decide +kernel)]; kernel_rfl) | (rw [if_neg (by decide +kernel)]; exact ⟨rfl, rfl⟩))
    (fun os started H enc _ => chunkSamples_lifted os started H enc)
theorem chunkSamples_holds : Rows.ChunkSamplesCardSaid :=
  Claim7.holds_tied_plain_at .later [] [.data] true (true, "d9c5dc142aa56fca31cc4f17b9b180540adf02212ab99a297039fbbc86a0dc87") true
    chunkSamples_row (fun _ h => by cases h) (by kernel_rfl) (fun _ h => by cases h) chunkSamples_row_tie rfl ⟨rfl, rfl⟩ (by kernel_rfl) rfl
    (fun f fn hf hfn => by
      obtain rfl : f = 13 := Option.some.inj ((show Tryd.prog.funcNamed "casket/casketlaw12.ChunkSamples" = some 13 by kernel_rfl).symm.trans hf) |>.symm
      obtain rfl : fn = Tryd.f13 := (Option.some.inj (Tryd.func13.symm.trans hfn)).symm
      exact ⟨by kernel_rfl, fun j t ht => by
        have hall : (Tryd.f13.params.toList.all fun u => !Tryd.prog.wantsStandIn u) = true := by kernel_rfl
        have hm : t ∈ Tryd.f13.params.toList := by simpa using Array.mem_of_getElem? ht
        exact (show Tryd.prog.wantsStandIn t = false by simpa using List.all_eq_true.1 hall t hm)⟩)
    (by kernel_rfl)
#print axioms chunkSamples_holds
end Go.Proofs.YtnbkoemhcpjceaaDoor
