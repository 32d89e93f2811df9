/- What is proved: the law ChunkDecodes returns true for every input and leaves its arguments as they were. Conditions: those of the given row and card alone (the table of package math/bits is laid as the program's text lays it). -/
import Derived.Test.YtnbkoemhcpjceaaGreatDoorKt
import Derived.Test.YtnbkoemhcpjceaaGreatDoorZCtRa
set_option linter.all false
set_option linter.unusedVariables false
namespace Go.Proofs.YtnbkoemhcpjceaaGreatDoor
open Go Go.Ck Go.RowKit Go.ChangeShapes Go.WideShapes Go.ChangeAt

set_option maxRecDepth 100000 in
theorem chunkDecodes_lifted (os : Os) (started : os.Started) (H : Type) (enc : TypeId × Value → H) :
    ReturnsInHanded {} Tryz.checked os 4 .any (fun w args => (Rows.chunkDecodesSpec.pre enc Tryz.prog Tryz.f4 [] false w args ∧ laidMetH Tryz.prog laidL w) ∧ sizedMet enc Tryz.prog Tryz.f4 (OpenSpec.ofChange Rows.chunkDecodesSpec) false w args)
      (Rows.chunkDecodesSpec.post enc Tryz.prog Tryz.f4 false true false false) :=
  law_lifted (C := Tryz.checked) (N := 4) (tb := 4) own started (by kernel_rfl) Tryz.func4
    (ChangeSpec.witness_shaped (enc := enc) (C := Tryz.checked) (os := os) (X := fun w _ => laidMetH Tryz.prog laidL w) false (World.doorLaid Tryz.prog 400 os) #[.slice none 0 0] 8 rfl (World.shaped_of_RefB (by kernel_rfl) (by kernel_rfl)) (by kernel_rfl) (by kernel_rfl) (by kernel_rfl) (door_met os _))
    laidOut mapsR (by kernel_rfl) rfl (fun ds h => by
      have h2 : ds.length = 1 := h
      match ds, h2 with
      | [a], _ => rfl) rfl (by kernel_rfl) (fun pl h => by
      have e : Tryz.f4.params.toList = [26] := by kernel_rfl
      rw [e] at h
      obtain ⟨p, rfl, h1⟩ := PA1 h
      obtain ⟨l, rfl, _, hl⟩ := PT_bytes (n := 2) (by kernel_rfl) (e := 5) (by kernel_rfl) (by kernel_rfl) h1.1 h1.2
      exact law12decodes_fn l hl) gok

theorem chunkDecodes_row : Rows.ChunkDecodesSaid :=
  OpenClaim.holds_of_wide 4 Tryz.f4 rfl rfl rfl rfl rfl rfl rfl ⟨rfl, rfl, rfl, rfl, rfl⟩ rfl rfl rfl rfl rfl (by kernel_rfl) Tryz.func4 (by kernel_rfl)
    (of_decide_eq_true (by kernel_rfl)) (by unfold Func.isWrapper; first | (rw [if_pos (by decide +kernel)]; kernel_rfl) | (rw [if_neg (by decide +kernel)]; exact ⟨rfl, rfl⟩))
    (fun os started H enc _ => chunkDecodes_lifted os started H enc)
theorem chunkDecodes_holds : Rows.ChunkDecodesCardSaid :=
  Claim7.holds_tied_plain_at .later [] [.data] true (true, "0fb6d4a7b736b666edcd52cffafb10034acf0a1915104f5432ea53e9ace12c48") true
    chunkDecodes_row (fun _ h => by cases h) (by kernel_rfl) (fun _ h => by cases h) chunkDecodes_row_tie rfl ⟨rfl, rfl⟩ (by kernel_rfl) rfl
    (fun f fn hf hfn => by
      obtain rfl : f = 4 := Option.some.inj ((show Tryz.prog.funcNamed "casket/casketlaw12.ChunkDecodes" = some 4 by kernel_rfl).symm.trans hf) |>.symm
      obtain rfl : fn = Tryz.f4 := (Option.some.inj (Tryz.func4.symm.trans hfn)).symm
      exact ⟨by kernel_rfl, fun j t ht => by
        have hall : (Tryz.f4.params.toList.all fun u => !Tryz.prog.wantsStandIn u) = true := by kernel_rfl
        have hm : t ∈ Tryz.f4.params.toList := by simpa using Array.mem_of_getElem? ht
        exact (show Tryz.prog.wantsStandIn t = false by simpa using List.all_eq_true.1 hall t hm)⟩)
    (by kernel_rfl)
#print axioms chunkDecodes_holds
end Go.Proofs.YtnbkoemhcpjceaaGreatDoor
