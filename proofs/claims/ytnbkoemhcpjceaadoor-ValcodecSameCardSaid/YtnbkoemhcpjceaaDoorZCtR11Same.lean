/- What is proved: the law ValcodecSame returns true for every input and leaves its arguments as they were. Conditions: those of the given row and card alone (the table of package math/bits is laid as the program's text lays it). -/
import Derived.Test.YtnbkoemhcpjceaaDoorKd
import Derived.Test.YtnbkoemhcpjceaaDoorZCtRa
set_option linter.all false
set_option linter.unusedVariables false
namespace Go.Proofs.YtnbkoemhcpjceaaDoor
open Go Go.Ck Go.RowKit Go.ChangeShapes Go.WideShapes Go.ChangeAt

set_option maxRecDepth 100000 in
theorem valcodecSame_lifted (os : Os) (started : os.Started) (H : Type) (enc : TypeId × Value → H) :
    ReturnsInHanded {} Tryd.checked os 8 .any (fun w args => (Rows.valcodecSameSpec.pre enc Tryd.prog Tryd.f8 [] false w args ∧ laidMetH Tryd.prog laidL w) ∧ sizedMet enc Tryd.prog Tryd.f8 (OpenSpec.ofChange Rows.valcodecSameSpec) false w args)
      (Rows.valcodecSameSpec.post enc Tryd.prog Tryd.f8 false true false false) :=
  law_lifted (C := Tryd.checked) (N := 4) (tb := 4) own started (by kernel_rfl) Tryd.func8
    (ChangeSpec.witness_shaped (enc := enc) (C := Tryd.checked) (os := os) (X := fun w _ => laidMetH Tryd.prog laidL w) false (World.doorLaid Tryd.prog 400 os) #[.int .u64 0, .int .i64 0, .slice none 0 0] 8 rfl (World.shaped_of_RefB (by kernel_rfl) (by kernel_rfl)) (by kernel_rfl) (by kernel_rfl) (by kernel_rfl) (door_met os _))
    laidOut mapsR (by kernel_rfl) rfl (fun ds h => by
      have h2 : ds.length = 3 := h
      match ds, h2 with
      | [a, b, c], _ => rfl) rfl (by kernel_rfl) (fun pl h => by
      have e : Tryd.f8.params.toList = [38, 3, 22] := by kernel_rfl
      rw [e] at h
      obtain ⟨p, q, r, rfl, h1, h2, h3⟩ := PA3 h
      obtain ⟨v, rfl, hv⟩ := PT_u64 (n := 3) (by kernel_rfl) h1.1 h1.2
      obtain ⟨n, rfl, hn⟩ := PT_i64 (n := 3) (by kernel_rfl) h2.1 h2.2
      obtain ⟨xs, rfl, _, hxs⟩ := PT_u64s (n := 2) (by kernel_rfl) (e := 38) (by kernel_rfl) (by kernel_rfl) h3.1 h3.2
      exact law11sameLaw_fn v n xs hv hxs) gok

theorem valcodecSame_row : Rows.ValcodecSameSaid :=
  OpenClaim.holds_of_wide 8 Tryd.f8 rfl rfl rfl rfl rfl rfl rfl ⟨rfl, rfl, rfl, rfl, rfl⟩ rfl rfl rfl rfl rfl (by kernel_rfl) Tryd.func8 (by kernel_rfl)
    (of_decide_eq_true (by kernel_rfl)) (by unfold Func.isWrapper; first | (rw [if_pos (by decide +kernel)]; kernel_rfl) | (rw [if_neg (by decide +kernel)]; exact ⟨rfl, rfl⟩))
    (fun os started H enc _ => valcodecSame_lifted os started H enc)
theorem valcodecSame_holds : Rows.ValcodecSameCardSaid :=
  Claim7.holds_tied_plain_at .later [] [.data] true (true, "d9c5dc142aa56fca31cc4f17b9b180540adf02212ab99a297039fbbc86a0dc87") true
    valcodecSame_row (fun _ h => by cases h) (by kernel_rfl) (fun _ h => by cases h) valcodecSame_row_tie rfl ⟨rfl, rfl⟩ (by kernel_rfl) rfl
    (fun f fn hf hfn => by
      obtain rfl : f = 8 := Option.some.inj ((show Tryd.prog.funcNamed "casket/casketlaw11.ValcodecSame" = some 8 by kernel_rfl).symm.trans hf) |>.symm
      obtain rfl : fn = Tryd.f8 := (Option.some.inj (Tryd.func8.symm.trans hfn)).symm
      exact ⟨by kernel_rfl, fun j t ht => by
        have hall : (Tryd.f8.params.toList.all fun u => !Tryd.prog.wantsStandIn u) = true := by kernel_rfl
        have hm : t ∈ Tryd.f8.params.toList := by simpa using Array.mem_of_getElem? ht
        exact (show Tryd.prog.wantsStandIn t = false by simpa using List.all_eq_true.1 hall t hm)⟩)
    (by kernel_rfl)
#print axioms valcodecSame_holds
end Go.Proofs.YtnbkoemhcpjceaaDoor
