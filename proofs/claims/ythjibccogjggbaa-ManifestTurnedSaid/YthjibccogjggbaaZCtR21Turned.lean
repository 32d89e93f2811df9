/- What is proved: the law ManifestTurned returns true for every input and leaves its arguments as they were. Conditions: those of the given row alone. -/
import Derived.Test.YthjibccogjggbaaKy
import Derived.Test.YthjibccogjggbaaZCtRp
set_option linter.all false
set_option linter.unusedVariables false
namespace Go.Proofs.Ythjibccogjggbaa
open Go Go.Ck Go.RowKit Go.ChangeShapes Go.WideShapes Go.ChangeAt

set_option maxRecDepth 100000 in
theorem manifestTurned_lifted (os : Os) (started : os.Started) (H : Type) (enc : TypeId × Value → H) :
    ReturnsInHanded {} Try.checked os 8 .any (Rows.manifestTurnedSpec.pre6 enc Try.prog Try.f8 [] false) (Rows.manifestTurnedSpec.post enc Try.prog Try.f8 false true false false) :=
  law_plain (C := Try.checked) (N := 4) (tb := 4) own started (by kernel_rfl) Try.func8
    (ChangeSpec.witness6 (enc := enc) (C := Try.checked) false ⟨#[], #[.slice none 0 0, .agg #[.int .u64 0, .slice none 0 0, .slice none 0 0, .slice none 0 0], .int .i64 0, .int .u8 0], []⟩ 8 (by kernel_rfl) (by kernel_rfl) (by kernel_rfl) (by kernel_rfl))
    laidOut mapsR (by kernel_rfl) rfl (fun ds h => by
      have h2 : ds.length = 4 := h
      match ds, h2 with
      | [a, b, c, d], _ => rfl) rfl (by kernel_rfl) (fun pl h => by
      have e : Try.f8.params.toList = [23, 26, 3, 5] := by kernel_rfl
      rw [e] at h
      obtain ⟨p, q, r, u, rfl, h1, h2, h3, h4⟩ := PA4 h
      obtain ⟨k, rfl, hkl, hk⟩ := PT_bytes (n := 2) (by kernel_rfl) (e := 5) (by kernel_rfl) (by kernel_rfl) h1.1 h1.2
      obtain ⟨m, rfl, hmv, hme, hmp, hmr, hmpb, hmrb⟩ := PT_man (n := 0) (u := 22) (b := 23) (l := 24) (e := 5) (s := 9) (i := 3) (by kernel_rfl) (by kernel_rfl) (by kernel_rfl) (by kernel_rfl) (by kernel_rfl) (by kernel_rfl) (en := 38) (by kernel_rfl) (by kernel_rfl) (by kernel_rfl) (by kernel_rfl) (by kernel_rfl) h2.1 h2.2
      obtain ⟨n, rfl, hn⟩ := PT_i64 (n := 3) (by kernel_rfl) h3.1 h3.2
      obtain ⟨y, rfl, hy⟩ := PT_u8 (n := 3) (by kernel_rfl) h4.1 h4.2
      exact law21turned_fn k m n y hy hkl hk hmv (by simp only [maxLen] at hme; omega) hmpb hmrb) noTabs

theorem manifestTurned_holds : Rows.ManifestTurnedSaid :=
  OpenClaim.holds_of_wide 8 Try.f8 rfl rfl rfl rfl rfl rfl rfl ⟨rfl, rfl, rfl, rfl, rfl⟩ rfl rfl rfl rfl rfl (by kernel_rfl) Try.func8 (by kernel_rfl)
    (of_decide_eq_true (by kernel_rfl)) (by unfold Func.isWrapper; first | (rw [if_pos (by decide +kernel)]; kernel_rfl) | (rw [if_neg (by decide +kernel)]; exact ⟨rfl, rfl⟩))
    (fun os started H enc _ => manifestTurned_lifted os started H enc)
#print axioms manifestTurned_holds
end Go.Proofs.Ythjibccogjggbaa
