/- What is proved: the law IntcodecEncodes returns true for every input and leaves its arguments as they were. Conditions: those of the given row alone. -/
import Derived.Test.YtnbkoemhcpjceaaKp
import Derived.Test.YtnbkoemhcpjceaaZCtRp
set_option linter.all false
set_option linter.unusedVariables false
namespace Go.Proofs.Ytnbkoemhcpjceaa
open Go Go.Ck Go.RowKit Go.ChangeShapes Go.WideShapes Go.ChangeAt

set_option maxRecDepth 100000 in
theorem intcodecEncodes_lifted (os : Os) (started : os.Started) (H : Type) (enc : TypeId × Value → H) :
    ReturnsInHanded {} Try.checked os 4 .any (Rows.intcodecEncodesSpec.pre6 enc Try.prog Try.f4 [] false) (Rows.intcodecEncodesSpec.post enc Try.prog Try.f4 false true false false) :=
  law_plain (C := Try.checked) (N := 4) (tb := 4) own started (by kernel_rfl) Try.func4
    (ChangeSpec.witness6 (enc := enc) (C := Try.checked) false ⟨#[], #[.slice none 0 0], []⟩ 8 (by kernel_rfl) (by kernel_rfl) (by kernel_rfl) (by kernel_rfl))
    laidOut mapsR (by kernel_rfl) rfl (fun ds h => by
      have h2 : ds.length = 1 := h
      match ds, h2 with
      | [a], _ => rfl) rfl (by kernel_rfl) (fun pl h => by
      have e : Try.f4.params.toList = [22] := by kernel_rfl
      rw [e] at h
      obtain ⟨p, rfl, h1⟩ := PA1 h
      obtain ⟨xs, rfl, _, hxs⟩ := PT_i64s (n := 2) (by kernel_rfl) (e := 3) (by kernel_rfl) (by kernel_rfl) h1.1 h1.2
      exact law08encodes_fn xs hxs) noTabs

theorem intcodecEncodes_holds : Rows.IntcodecEncodesSaid :=
  OpenClaim.holds_of_wide 4 Try.f4 rfl rfl rfl rfl rfl rfl rfl ⟨rfl, rfl, rfl, rfl, rfl⟩ rfl rfl rfl rfl rfl (by kernel_rfl) Try.func4 (by kernel_rfl)
    (of_decide_eq_true (by kernel_rfl)) (by unfold Func.isWrapper; first | (rw [if_pos (by decide +kernel)]; kernel_rfl) | (rw [if_neg (by decide +kernel)]; exact ⟨rfl, rfl⟩))
    (fun os started H enc _ => intcodecEncodes_lifted os started H enc)
#print axioms intcodecEncodes_holds
end Go.Proofs.Ytnbkoemhcpjceaa
