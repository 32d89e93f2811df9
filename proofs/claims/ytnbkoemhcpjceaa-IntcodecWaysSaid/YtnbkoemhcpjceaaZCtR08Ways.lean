/- What is proved: the law IntcodecWays returns true for every input and leaves its arguments as they were. Conditions: those of the given row alone. -/
import Derived.Test.YtnbkoemhcpjceaaKp
import Derived.Test.YtnbkoemhcpjceaaZCtRp
set_option linter.all false
set_option linter.unusedVariables false
namespace Go.Proofs.Ytnbkoemhcpjceaa
open Go Go.Ck Go.RowKit Go.ChangeShapes Go.WideShapes Go.ChangeAt

set_option maxRecDepth 100000 in
theorem intcodecWays_lifted (os : Os) (started : os.Started) (H : Type) (enc : TypeId × Value → H) :
    ReturnsInHanded {} Try.checked os 3 .any (Rows.intcodecWaysSpec.pre6 enc Try.prog Try.f3 [] false) (Rows.intcodecWaysSpec.post enc Try.prog Try.f3 false true false false) :=
  law_plain (C := Try.checked) (N := 4) (tb := 4) own started (by kernel_rfl) Try.func3
    (ChangeSpec.witness6 (enc := enc) (C := Try.checked) false ⟨#[], #[.slice none 0 0, .int .i64 0], []⟩ 8 (by kernel_rfl) (by kernel_rfl) (by kernel_rfl) (by kernel_rfl))
    laidOut mapsR (by kernel_rfl) rfl (fun ds h => by
      have h2 : ds.length = 2 := h
      match ds, h2 with
      | [a, b], _ => rfl) rfl (by kernel_rfl) (fun pl h => by
      have e : Try.f3.params.toList = [22, 3] := by kernel_rfl
      rw [e] at h
      obtain ⟨p, q, rfl, h1, h2⟩ := PA2 h
      obtain ⟨xs, rfl, _, hxs⟩ := PT_i64s (n := 2) (by kernel_rfl) (e := 3) (by kernel_rfl) (by kernel_rfl) h1.1 h1.2
      obtain ⟨n, rfl, hn⟩ := PT_i64 (n := 3) (by kernel_rfl) h2.1 h2.2
      exact law08ways_fn xs n hxs) noTabs

theorem intcodecWays_holds : Rows.IntcodecWaysSaid :=
  OpenClaim.holds_of_wide 3 Try.f3 rfl rfl rfl rfl rfl rfl rfl ⟨rfl, rfl, rfl, rfl, rfl⟩ rfl rfl rfl rfl rfl (by kernel_rfl) Try.func3 (by kernel_rfl)
    (of_decide_eq_true (by kernel_rfl)) (by unfold Func.isWrapper; first | (rw [if_pos (by decide +kernel)]; kernel_rfl) | (rw [if_neg (by decide +kernel)]; exact ⟨rfl, rfl⟩))
    (fun os started H enc _ => intcodecWays_lifted os started H enc)
#print axioms intcodecWays_holds
end Go.Proofs.Ytnbkoemhcpjceaa
