/- What is proved: the law ManifestTenants returns true for every input and leaves its arguments as they were. Conditions: those of the given row alone. -/
import Derived.Test.YthjibccogjggbaaKy
import Derived.Test.YthjibccogjggbaaKx
import Derived.Test.YthjibccogjggbaaZCtRp
set_option linter.all false
set_option linter.unusedVariables false
namespace Go.Proofs.Ythjibccogjggbaa
open Go Go.Ck Go.RowKit Go.ChangeShapes Go.WideShapes Go.ChangeAt

set_option maxRecDepth 100000 in
theorem manifestTenants_lifted (os : Os) (started : os.Started) (H : Type) (enc : TypeId × Value → H) :
    ReturnsInHanded {} Try.checked os 6 .any (Rows.manifestTenantsSpec.pre6 enc Try.prog Try.f6 [] false) (Rows.manifestTenantsSpec.post enc Try.prog Try.f6 false true false false) :=
  law_plain (C := Try.checked) (N := 4) (tb := 4) own started (by kernel_rfl) Try.func6
    (ChangeSpec.witness6 (enc := enc) (C := Try.checked) false ⟨#[], #[.agg #[.int .u64 0, .slice none 0 0, .slice none 0 0, .slice none 0 0]], []⟩ 8 (by kernel_rfl) (by kernel_rfl) (by kernel_rfl) (by kernel_rfl))
    laidOut mapsR (by kernel_rfl) rfl (fun ds h => by
      have h2 : ds.length = 1 := h
      match ds, h2 with
      | [a], _ => rfl) rfl (by kernel_rfl) (fun pl h => by
      have e : Try.f6.params.toList = [26] := by kernel_rfl
      rw [e] at h
      obtain ⟨p, rfl, h1⟩ := PA1 h
      obtain ⟨m, rfl, hmv, hme, hmp, hmr, hmpb, hmrb⟩ := PT_man (n := 0) (u := 22) (b := 23) (l := 24) (e := 5) (s := 9) (i := 3) (by kernel_rfl) (by kernel_rfl) (by kernel_rfl) (by kernel_rfl) (by kernel_rfl) (by kernel_rfl) (en := 38) (by kernel_rfl) (by kernel_rfl) (by kernel_rfl) (by kernel_rfl) (by kernel_rfl) h1.1 h1.2
      exact law21tenants_fn m hmv (by simp only [maxLen] at hme; omega) hmpb hmrb) noTabs

theorem manifestTenants_holds : Rows.ManifestTenantsSaid :=
  OpenClaim.holds_of_wide 6 Try.f6 rfl rfl rfl rfl rfl rfl rfl ⟨rfl, rfl, rfl, rfl, rfl⟩ rfl rfl rfl rfl rfl (by kernel_rfl) Try.func6 (by kernel_rfl)
    (of_decide_eq_true (by kernel_rfl)) (by unfold Func.isWrapper; first | (rw [if_pos (by decide +kernel)]; kernel_rfl) | (rw [if_neg (by decide +kernel)]; exact ⟨rfl, rfl⟩))
    (fun os started H enc _ => manifestTenants_lifted os started H enc)
#print axioms manifestTenants_holds
end Go.Proofs.Ythjibccogjggbaa
