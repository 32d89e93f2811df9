/- What is proved: the law ChunkTenants returns true for every input and leaves its arguments as they were. Conditions: those of the given row and card alone (the table of package math/bits is laid as the program's text lays it). -/
import Derived.Test.YtnbkoemhcpjceaaDoorKr
import Derived.Test.YtnbkoemhcpjceaaDoorZCtRa
set_option linter.all false
set_option linter.unusedVariables false
namespace Go.Proofs.YtnbkoemhcpjceaaDoor
open Go Go.Ck Go.RowKit Go.ChangeShapes Go.WideShapes Go.ChangeAt

set_option maxRecDepth 100000 in
theorem chunkTenants_lifted (os : Os) (started : os.Started) (H : Type) (enc : TypeId × Value → H) :
    ReturnsInHanded {} Tryd.checked os 12 .any (fun w args => (Rows.chunkTenantsSpec.pre enc Tryd.prog Tryd.f12 [] false w args ∧ laidMetH Tryd.prog laidL w) ∧ sizedMet enc Tryd.prog Tryd.f12 (OpenSpec.ofChange Rows.chunkTenantsSpec) false w args)
      (Rows.chunkTenantsSpec.post enc Tryd.prog Tryd.f12 false true false false) :=
  law_lifted (C := Tryd.checked) (N := 4) (tb := 4) own started (by kernel_rfl) Tryd.func12
    (ChangeSpec.witness_shaped (enc := enc) (C := Tryd.checked) (os := os) (X := fun w _ => laidMetH Tryd.prog laidL w) false (World.doorLaid Tryd.prog 400 os) #[.agg #[.string ⟨#[]⟩, .slice none 0 0], .string ⟨#[]⟩] 8 rfl (World.shaped_of_RefB (by kernel_rfl) (by kernel_rfl)) (by kernel_rfl) (by kernel_rfl) (by kernel_rfl) (door_met os _))
    laidOut mapsR (by kernel_rfl) rfl (fun ds h => by
      have h2 : ds.length = 2 := h
      match ds, h2 with
      | [a, b], _ => rfl) rfl (by kernel_rfl) (fun pl h => by
      have e : Tryd.f12.params.toList = [42, 9] := by kernel_rfl
      rw [e] at h
      obtain ⟨p, q, rfl, h1, h2⟩ := PA2 h
      obtain ⟨t, xs, rfl, ht, hx⟩ := PT_chunk (n := 0) (s := 9) (l := 40) (e := 55) (a := 3) (b := 38) (by kernel_rfl) (by kernel_rfl) (by kernel_rfl) (by kernel_rfl) (by kernel_rfl) (by kernel_rfl) (by kernel_rfl) h1.1 h1.2
      obtain ⟨u, rfl, hu⟩ := PT_str (n := 3) (by kernel_rfl) h2.1 h2.2
      exact law12tenants_fn t u xs ht hu hx) gok

theorem chunkTenants_row : Rows.ChunkTenantsSaid :=
  OpenClaim.holds_of_wide 12 Tryd.f12 rfl rfl rfl rfl rfl rfl rfl ⟨rfl, rfl, rfl, rfl, rfl⟩ rfl rfl rfl rfl rfl (by kernel_rfl) Tryd.func12 (by kernel_rfl)
    (of_decide_eq_true (by kernel_rfl)) (by unfold Func.isWrapper; first | (rw [if_pos (by decide +kernel)]; kernel_rfl) | (rw [if_neg (by decide +kernel)]; exact ⟨rfl, rfl⟩))
    (fun os started H enc _ => chunkTenants_lifted os started H enc)
theorem chunkTenants_holds : Rows.ChunkTenantsCardSaid :=
  Claim7.holds_tied_plain_at .later [] [.data] true (true, "d9c5dc142aa56fca31cc4f17b9b180540adf02212ab99a297039fbbc86a0dc87") true
    chunkTenants_row (fun _ h => by cases h) (by kernel_rfl) (fun _ h => by cases h) chunkTenants_row_tie rfl ⟨rfl, rfl⟩ (by kernel_rfl) rfl
    (fun f fn hf hfn => by
      obtain rfl : f = 12 := Option.some.inj ((show Tryd.prog.funcNamed "casket/casketlaw12.ChunkTenants" = some 12 by kernel_rfl).symm.trans hf) |>.symm
      obtain rfl : fn = Tryd.f12 := (Option.some.inj (Tryd.func12.symm.trans hfn)).symm
      exact ⟨by kernel_rfl, fun j t ht => by
        have hall : (Tryd.f12.params.toList.all fun u => !Tryd.prog.wantsStandIn u) = true := by kernel_rfl
        have hm : t ∈ Tryd.f12.params.toList := by simpa using Array.mem_of_getElem? ht
        exact (show Tryd.prog.wantsStandIn t = false by simpa using List.all_eq_true.1 hall t hm)⟩)
    (by kernel_rfl)
#print axioms chunkTenants_holds
end Go.Proofs.YtnbkoemhcpjceaaDoor
