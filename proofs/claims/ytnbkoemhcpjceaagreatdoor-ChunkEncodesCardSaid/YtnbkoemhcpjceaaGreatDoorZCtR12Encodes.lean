/- What is proved: the law ChunkEncodes returns true for every input and leaves its arguments as they were. Conditions: those of the given row and card alone (the table of package math/bits is laid as the program's text lays it). -/
import Derived.Test.YtnbkoemhcpjceaaGreatDoorKt
import Derived.Test.YtnbkoemhcpjceaaGreatDoorZCtRa
set_option linter.all false
set_option linter.unusedVariables false
namespace Go.Proofs.YtnbkoemhcpjceaaGreatDoor
open Go Go.Ck Go.RowKit Go.ChangeShapes Go.WideShapes Go.ChangeAt

set_option maxRecDepth 100000 in
theorem chunkEncodes_lifted (os : Os) (started : os.Started) (H : Type) (enc : TypeId × Value → H) :
    ReturnsInHanded {} Tryz.checked os 3 .any (fun w args => (Rows.chunkEncodesSpec.pre enc Tryz.prog Tryz.f3 [] false w args ∧ laidMetH Tryz.prog laidL w) ∧ sizedMet enc Tryz.prog Tryz.f3 (OpenSpec.ofChange Rows.chunkEncodesSpec) false w args)
      (Rows.chunkEncodesSpec.post enc Tryz.prog Tryz.f3 false true false false) :=
  law_lifted (C := Tryz.checked) (N := 4) (tb := 4) own started (by kernel_rfl) Tryz.func3
    (ChangeSpec.witness_shaped (enc := enc) (C := Tryz.checked) (os := os) (X := fun w _ => laidMetH Tryz.prog laidL w) false (World.doorLaid Tryz.prog 400 os) #[.agg #[.string ⟨#[]⟩, .slice none 0 0], .int .i64 0] 8 rfl (World.shaped_of_RefB (by kernel_rfl) (by kernel_rfl)) (by kernel_rfl) (by kernel_rfl) (by kernel_rfl) (door_met os _))
    laidOut mapsR (by kernel_rfl) rfl (fun ds h => by
      have h2 : ds.length = 2 := h
      match ds, h2 with
      | [a, b], _ => rfl) rfl (by kernel_rfl) (fun pl h => by
      have e : Tryz.f3.params.toList = [24, 3] := by kernel_rfl
      rw [e] at h
      obtain ⟨p, q, rfl, h1, h2⟩ := PA2 h
      obtain ⟨t, xs, rfl, ht, hx⟩ := PT_chunk (n := 0) (s := 9) (l := 22) (e := 41) (a := 3) (b := 39) (by kernel_rfl) (by kernel_rfl) (by kernel_rfl) (by kernel_rfl) (by kernel_rfl) (by kernel_rfl) (by kernel_rfl) h1.1 h1.2
      obtain ⟨n, rfl, hn⟩ := PT_i64 (n := 3) (by kernel_rfl) h2.1 h2.2
      exact law12encodes_fn t xs n ht hx hn) gok

theorem chunkEncodes_row : Rows.ChunkEncodesSaid :=
  OpenClaim.holds_of_wide 3 Tryz.f3 rfl rfl rfl rfl rfl rfl rfl ⟨rfl, rfl, rfl, rfl, rfl⟩ rfl rfl rfl rfl rfl (by kernel_rfl) Tryz.func3 (by kernel_rfl)
    (of_decide_eq_true (by kernel_rfl)) (by unfold Func.isWrapper; first | (rw [if_pos (by decide +kernel)]; kernel_rfl) | (rw [if_neg (by decide +kernel)]; exact ⟨rfl, rfl⟩))
    (fun os started H enc _ => chunkEncodes_lifted os started H enc)
theorem chunkEncodes_holds : Rows.ChunkEncodesCardSaid :=
  Claim7.holds_tied_plain_at .later [] [.data] true (true, "0fb6d4a7b736b666edcd52cffafb10034acf0a1915104f5432ea53e9ace12c48") true
    chunkEncodes_row (fun _ h => by cases h) (by kernel_rfl) (fun _ h => by cases h) chunkEncodes_row_tie rfl ⟨rfl, rfl⟩ (by kernel_rfl) rfl
    (fun f fn hf hfn => by
      obtain rfl : f = 3 := Option.some.inj ((show Tryz.prog.funcNamed "casket/casketlaw12.ChunkEncodes" = some 3 by kernel_rfl).symm.trans hf) |>.symm
      obtain rfl : fn = Tryz.f3 := (Option.some.inj (Tryz.func3.symm.trans hfn)).symm
      exact ⟨by kernel_rfl, fun j t ht => by
        have hall : (Tryz.f3.params.toList.all fun u => !Tryz.prog.wantsStandIn u) = true := by kernel_rfl
        have hm : t ∈ Tryz.f3.params.toList := by simpa using Array.mem_of_getElem? ht
        exact (show Tryz.prog.wantsStandIn t = false by simpa using List.all_eq_true.1 hall t hm)⟩)
    (by kernel_rfl)
#print axioms chunkEncodes_holds
end Go.Proofs.YtnbkoemhcpjceaaGreatDoor
