/- What is proved: the law ManifestSigns returns true for every input and leaves its arguments as they were. Conditions: those of the given row alone. -/
import Derived.Test.YthjibccogjggbaaGreatKza
import Derived.Test.YthjibccogjggbaaGreatZCtRp
set_option linter.all false
set_option linter.unusedVariables false
namespace Go.Proofs.YthjibccogjggbaaGreat
open Go Go.Ck Go.RowKit Go.ChangeShapes Go.WideShapes Go.ChangeAt

set_option maxRecDepth 100000 in
theorem manifestSigns_lifted (os : Os) (started : os.Started) (H : Type) (enc : TypeId × Value → H) :
    ReturnsInHanded {} Tryz.checked os 3 .any (Rows.manifestSignsSpec.pre6 enc Tryz.prog Tryz.f3 [] false) (Rows.manifestSignsSpec.post enc Tryz.prog Tryz.f3 false true false false) :=
  law_plain (C := Tryz.checked) (N := 4) (tb := 4) own started (by kernel_rfl) Tryz.func3
    (ChangeSpec.witness6 (enc := enc) (C := Tryz.checked) false ⟨#[], #[.slice none 0 0, .agg #[.int .u64 0, .slice none 0 0, .slice none 0 0, .slice none 0 0], .slice none 0 0], []⟩ 8 (by kernel_rfl) (by kernel_rfl) (by kernel_rfl) (by kernel_rfl))
    laidOut mapsR (by kernel_rfl) rfl (fun ds h => by
      have h2 : ds.length = 3 := h
      match ds, h2 with
      | [a, b, c], _ => rfl) rfl (by kernel_rfl) (fun pl h => by
      have e : Tryz.f3.params.toList = [22, 26, 22] := by kernel_rfl
      rw [e] at h
      obtain ⟨p, q, r, rfl, h1, h2, h3⟩ := PA3 h
      obtain ⟨k, rfl, hkl, hk⟩ := PT_bytes (n := 2) (by kernel_rfl) (e := 5) (by kernel_rfl) (by kernel_rfl) h1.1 h1.2
      obtain ⟨m, rfl, hmv, hme, hmp, hmr, hmpb, hmrb⟩ := PT_man (n := 0) (u := 23) (b := 22) (l := 24) (e := 5) (s := 9) (i := 3) (by kernel_rfl) (by kernel_rfl) (by kernel_rfl) (by kernel_rfl) (by kernel_rfl) (by kernel_rfl) (en := 40) (by kernel_rfl) (by kernel_rfl) (by kernel_rfl) (by kernel_rfl) (by kernel_rfl) h2.1 h2.2
      obtain ⟨l, rfl, hll, hl⟩ := PT_bytes (n := 2) (by kernel_rfl) (e := 5) (by kernel_rfl) (by kernel_rfl) h3.1 h3.2
      exact law21signs_fn k m l hkl hk hmv (by simp only [maxLen] at hme; omega) hll hl) noTabs

theorem manifestSigns_holds : Rows.ManifestSignsSaid :=
  OpenClaim.holds_of_wide 3 Tryz.f3 rfl rfl rfl rfl rfl rfl rfl ⟨rfl, rfl, rfl, rfl, rfl⟩ rfl rfl rfl rfl rfl (by kernel_rfl) Tryz.func3 (by kernel_rfl)
    (of_decide_eq_true (by kernel_rfl)) (by unfold Func.isWrapper; first | (rw [if_pos (by decide +kernel)]; kernel_rfl) | (rw [if_neg (by decide +kernel)]; exact ⟨rfl, rfl⟩))
    (fun os started H enc _ => manifestSigns_lifted os started H enc)
#print axioms manifestSigns_holds
end Go.Proofs.YthjibccogjggbaaGreat
