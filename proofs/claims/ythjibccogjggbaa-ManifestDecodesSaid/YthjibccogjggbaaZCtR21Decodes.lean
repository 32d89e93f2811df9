/- What is proved: the law ManifestDecodes returns true for every input and leaves its arguments as they were. Conditions: those of the given row alone. -/
import Derived.Test.YthjibccogjggbaaKx
import Derived.Test.YthjibccogjggbaaZCtRp
set_option linter.all false
set_option linter.unusedVariables false
namespace Go.Proofs.Ythjibccogjggbaa
open Go Go.Ck Go.RowKit Go.ChangeShapes Go.WideShapes Go.ChangeAt

set_option maxRecDepth 100000 in
theorem manifestDecodes_lifted (os : Os) (started : os.Started) (H : Type) (enc : TypeId × Value → H) :
    ReturnsInHanded {} Try.checked os 4 .any (Rows.manifestDecodesSpec.pre6 enc Try.prog Try.f4 [] false) (Rows.manifestDecodesSpec.post enc Try.prog Try.f4 false true false false) :=
  law_plain (C := Try.checked) (N := 4) (tb := 4) own started (by kernel_rfl) Try.func4
    (ChangeSpec.witness6 (enc := enc) (C := Try.checked) false ⟨#[], #[.slice none 0 0], []⟩ 8 (by kernel_rfl) (by kernel_rfl) (by kernel_rfl) (by kernel_rfl))
    laidOut mapsR (by kernel_rfl) rfl (fun ds h => by
      have h2 : ds.length = 1 := h
      match ds, h2 with
      | [a], _ => rfl) rfl (by kernel_rfl) (fun pl h => by
      have e : Try.f4.params.toList = [23] := by kernel_rfl
      rw [e] at h
      obtain ⟨p, rfl, h1⟩ := PA1 h
      obtain ⟨l, rfl, hll, hl⟩ := PT_bytes (n := 2) (by kernel_rfl) (e := 5) (by kernel_rfl) (by kernel_rfl) h1.1 h1.2
      exact law21decodes_fn l hll hl) noTabs

theorem manifestDecodes_holds : Rows.ManifestDecodesSaid :=
  OpenClaim.holds_of_wide 4 Try.f4 rfl rfl rfl rfl rfl rfl rfl ⟨rfl, rfl, rfl, rfl, rfl⟩ rfl rfl rfl rfl rfl (by kernel_rfl) Try.func4 (by kernel_rfl)
    (of_decide_eq_true (by kernel_rfl)) (by unfold Func.isWrapper; first | (rw [if_pos (by decide +kernel)]; kernel_rfl) | (rw [if_neg (by decide +kernel)]; exact ⟨rfl, rfl⟩))
    (fun os started H enc _ => manifestDecodes_lifted os started H enc)
#print axioms manifestDecodes_holds
end Go.Proofs.Ythjibccogjggbaa
