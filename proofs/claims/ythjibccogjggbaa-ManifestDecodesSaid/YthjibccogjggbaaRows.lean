/-
  No cell of these rows narrows 'for every input' (looked for: loops, veiled, ifaces, maps, wideKeys, modest, calm, conditions, laid).
  DERIVED. THE GIVEN ROWS OF THIS SEAT. 6 by the template 'for every input the law returns true; each argument reads behind the call as it read before'; 0 by the template 'total and deterministic' (their statements: YthjibccogjggbaaTotals.lean).
  GIVEN WITH THE SEED: the statements are not yours to turn. If you find one false, say at which input.
  Laid BY PROGRAM, IN A SANDBOX (cutbox-rows.mjs): the forced cells as the released guide's own fill.sh prints them over the translation 171b13a5c48f2313… (all of the seat's roots in one cut). By AI agents, Wed Nov 11 2026. No macro, syntax, notation, axiom, sorry.
-/
import Derived.Test.YthjibccogjggbaaChecked
import GoSem.Claim
import GoSem.ClaimJoined
import GoSem.ClaimMapViews
import Derived.JoinedTies
import Derived.KernelRfl
namespace Go.Proofs.Ythjibccogjggbaa
/- THE CELL 'sum', in the pinned program and in every row, IS THE sha256 OF THE DUMP (.gsa) THAT YthjibccogjggbaaProg.lean LOADS. Nothing in Lean hashes anything: it is a label: what it is worth is what the hold of that sum in a sandbox is worth. -/
noncomputable def Try.pinned : Pinned := { name := "ythjibccogjggbaa", sum := "171b13a5c48f23130fc72a1b9d0a097c3b9d78420fd10980a3cd346d99731bb3", checked := Try.checked }
namespace Rows
def none {H : Type} : Left H := { results := [], args := [] }

/-- 'casketlaw21.ManifestEncodes': WHATEVER THE INPUT: true; the input reads as it did. -/
def manifestEncodesSpec : ChangeSpec := { name := "manifestEncodes", fn := fun _ => fun
  | [d] => { results := [.lit (.bool true)], args := [d] }
  | _ => none }
def manifestEncodesRow : OpenClaim := { program := "ythjibccogjggbaa", sum := "171b13a5c48f23130fc72a1b9d0a097c3b9d78420fd10980a3cd346d99731bb3", func := "casket/casketlaw21.ManifestEncodes", spec := "manifestEncodes", unfollowed := true, recurses := true, apart := false }
def ManifestEncodesSaid : Prop := manifestEncodesRow.holds Try.pinned (OpenSpec.ofChange manifestEncodesSpec)

/-- ITS FALSE NEIGHBOUR: 'it returns false'. Refute it at one input. -/
def manifestEncodesWrong : ChangeSpec := { name := "manifestEncodes", fn := fun _ => fun
  | [d] => { results := [.lit (.bool false)], args := [d] }
  | _ => none }
def ManifestEncodesWrongFalsely : Prop := manifestEncodesRow.holds Try.pinned (OpenSpec.ofChange manifestEncodesWrong)

/-- 'casketlaw21.ManifestDecodes': WHATEVER THE INPUT: true; the input reads as it did. -/
def manifestDecodesSpec : ChangeSpec := { name := "manifestDecodes", fn := fun _ => fun
  | [d] => { results := [.lit (.bool true)], args := [d] }
  | _ => none }
def manifestDecodesRow : OpenClaim := { program := "ythjibccogjggbaa", sum := "171b13a5c48f23130fc72a1b9d0a097c3b9d78420fd10980a3cd346d99731bb3", func := "casket/casketlaw21.ManifestDecodes", spec := "manifestDecodes", unfollowed := true, recurses := true, apart := false }
def ManifestDecodesSaid : Prop := manifestDecodesRow.holds Try.pinned (OpenSpec.ofChange manifestDecodesSpec)

/-- ITS FALSE NEIGHBOUR: 'it returns false'. Refute it at one input. -/
def manifestDecodesWrong : ChangeSpec := { name := "manifestDecodes", fn := fun _ => fun
  | [d] => { results := [.lit (.bool false)], args := [d] }
  | _ => none }
def ManifestDecodesWrongFalsely : Prop := manifestDecodesRow.holds Try.pinned (OpenSpec.ofChange manifestDecodesWrong)

/-- 'casketlaw21.ManifestOnly': WHATEVER THE INPUT: true; the input reads as it did. -/
def manifestOnlySpec : ChangeSpec := { name := "manifestOnly", fn := fun _ => fun
  | [d] => { results := [.lit (.bool true)], args := [d] }
  | _ => none }
def manifestOnlyRow : OpenClaim := { program := "ythjibccogjggbaa", sum := "171b13a5c48f23130fc72a1b9d0a097c3b9d78420fd10980a3cd346d99731bb3", func := "casket/casketlaw21.ManifestOnly", spec := "manifestOnly", unfollowed := true, recurses := true, apart := false }
def ManifestOnlySaid : Prop := manifestOnlyRow.holds Try.pinned (OpenSpec.ofChange manifestOnlySpec)

/-- ITS FALSE NEIGHBOUR: 'it returns false'. Refute it at one input. -/
def manifestOnlyWrong : ChangeSpec := { name := "manifestOnly", fn := fun _ => fun
  | [d] => { results := [.lit (.bool false)], args := [d] }
  | _ => none }
def ManifestOnlyWrongFalsely : Prop := manifestOnlyRow.holds Try.pinned (OpenSpec.ofChange manifestOnlyWrong)

/-- 'casketlaw21.ManifestTenants': WHATEVER THE INPUT: true; the input reads as it did. -/
def manifestTenantsSpec : ChangeSpec := { name := "manifestTenants", fn := fun _ => fun
  | [d] => { results := [.lit (.bool true)], args := [d] }
  | _ => none }
def manifestTenantsRow : OpenClaim := { program := "ythjibccogjggbaa", sum := "171b13a5c48f23130fc72a1b9d0a097c3b9d78420fd10980a3cd346d99731bb3", func := "casket/casketlaw21.ManifestTenants", spec := "manifestTenants", unfollowed := true, recurses := true, apart := false }
def ManifestTenantsSaid : Prop := manifestTenantsRow.holds Try.pinned (OpenSpec.ofChange manifestTenantsSpec)

/-- ITS FALSE NEIGHBOUR: 'it returns false'. Refute it at one input. -/
def manifestTenantsWrong : ChangeSpec := { name := "manifestTenants", fn := fun _ => fun
  | [d] => { results := [.lit (.bool false)], args := [d] }
  | _ => none }
def ManifestTenantsWrongFalsely : Prop := manifestTenantsRow.holds Try.pinned (OpenSpec.ofChange manifestTenantsWrong)

/-- 'casketlaw21.ManifestBack': WHATEVER THE INPUT: true; the input reads as it did. -/
def manifestBackSpec : ChangeSpec := { name := "manifestBack", fn := fun _ => fun
  | [d1, d2, d3] => { results := [.lit (.bool true)], args := [d1, d2, d3] }
  | _ => none }
def manifestBackRow : OpenClaim := { program := "ythjibccogjggbaa", sum := "171b13a5c48f23130fc72a1b9d0a097c3b9d78420fd10980a3cd346d99731bb3", func := "casket/casketlaw21.ManifestBack", spec := "manifestBack", unfollowed := true, recurses := true, apart := false }
def ManifestBackSaid : Prop := manifestBackRow.holds Try.pinned (OpenSpec.ofChange manifestBackSpec)

/-- ITS FALSE NEIGHBOUR: 'it returns false'. Refute it at one input. -/
def manifestBackWrong : ChangeSpec := { name := "manifestBack", fn := fun _ => fun
  | [d1, d2, d3] => { results := [.lit (.bool false)], args := [d1, d2, d3] }
  | _ => none }
def ManifestBackWrongFalsely : Prop := manifestBackRow.holds Try.pinned (OpenSpec.ofChange manifestBackWrong)

/-- 'casketlaw21.ManifestTurned': WHATEVER THE INPUT: true; the input reads as it did. -/
def manifestTurnedSpec : ChangeSpec := { name := "manifestTurned", fn := fun _ => fun
  | [d1, d2, d3, d4] => { results := [.lit (.bool true)], args := [d1, d2, d3, d4] }
  | _ => none }
def manifestTurnedRow : OpenClaim := { program := "ythjibccogjggbaa", sum := "171b13a5c48f23130fc72a1b9d0a097c3b9d78420fd10980a3cd346d99731bb3", func := "casket/casketlaw21.ManifestTurned", spec := "manifestTurned", unfollowed := true, recurses := true, apart := false }
def ManifestTurnedSaid : Prop := manifestTurnedRow.holds Try.pinned (OpenSpec.ofChange manifestTurnedSpec)

/-- ITS FALSE NEIGHBOUR: 'it returns false'. Refute it at one input. -/
def manifestTurnedWrong : ChangeSpec := { name := "manifestTurned", fn := fun _ => fun
  | [d1, d2, d3, d4] => { results := [.lit (.bool false)], args := [d1, d2, d3, d4] }
  | _ => none }
def ManifestTurnedWrongFalsely : Prop := manifestTurnedRow.holds Try.pinned (OpenSpec.ofChange manifestTurnedWrong)

/- THE SECOND FORM. 'bulk': how many values and letters a reading holds, each counted each time it is reached (what is shared counts as often as it is met; a slice's spare places count too). A statement '..UptoSaid' is the law's where the arguments, and the package variables that the reading takes, are together of bulk at most 1048576: NARROWER than '..Said'. Prove '..Said' where nothing that the law and all that it calls make is longer than what came in: it says more and counts as full. Else prove '..UptoSaid'. A law counts once. -/
mutual
def uptoBulk {H : Type} : DataW H → Nat
  | .lit (.string bytes) => bytes.length + 1
  | .lit _ => 1
  | .nil => 1
  | .ptr d => uptoBulk d + 1
  | .slice elems spare => uptoBulkAll elems + uptoBulkAll spare + 1
  | .agg parts => uptoBulkAll parts + 1
  | .iface _ d => uptoBulk d + 1
  | .map entries => uptoBulkEntries entries + 1
  | .held _ => 1
def uptoBulkAll {H : Type} : List (DataW H) → Nat
  | [] => 0
  | d :: r => uptoBulk d + uptoBulkAll r
def uptoBulkEntries {H : Type} : List (Lit × DataW H) → Nat
  | [] => 0
  | x :: r => uptoBulkEntry x + uptoBulkEntries r
def uptoBulkEntry {H : Type} : Lit × DataW H → Nat
  | (.string bytes, d) => bytes.length + uptoBulk d + 1
  | (_, d) => uptoBulk d + 1
 end
def uptoSmall : (H : Type) → List (DataW H) → Bool := fun _ ds => decide (uptoBulkAll ds ≤ 1048576)
def OpenSpec.upto (s : _root_.Go.ChangeSpec) : _root_.Go.OpenSpec := { _root_.Go.OpenSpec.ofChange s with cond := some uptoSmall }

/-- 'casketlaw21.ManifestEncodes', WHERE WHAT IT READS IS OF BULK AT MOST 1048576: true; the input reads as it did. -/
def manifestEncodesUptoRow : OpenClaim := { program := "ythjibccogjggbaa", sum := "171b13a5c48f23130fc72a1b9d0a097c3b9d78420fd10980a3cd346d99731bb3", func := "casket/casketlaw21.ManifestEncodes", spec := "manifestEncodes", unfollowed := true, recurses := true, apart := false, narrowed := true }
def ManifestEncodesUptoSaid : Prop := manifestEncodesUptoRow.holds Try.pinned (OpenSpec.upto manifestEncodesSpec)

/-- 'casketlaw21.ManifestDecodes', WHERE WHAT IT READS IS OF BULK AT MOST 1048576: true; the input reads as it did. -/
def manifestDecodesUptoRow : OpenClaim := { program := "ythjibccogjggbaa", sum := "171b13a5c48f23130fc72a1b9d0a097c3b9d78420fd10980a3cd346d99731bb3", func := "casket/casketlaw21.ManifestDecodes", spec := "manifestDecodes", unfollowed := true, recurses := true, apart := false, narrowed := true }
def ManifestDecodesUptoSaid : Prop := manifestDecodesUptoRow.holds Try.pinned (OpenSpec.upto manifestDecodesSpec)

/-- 'casketlaw21.ManifestOnly', WHERE WHAT IT READS IS OF BULK AT MOST 1048576: true; the input reads as it did. -/
def manifestOnlyUptoRow : OpenClaim := { program := "ythjibccogjggbaa", sum := "171b13a5c48f23130fc72a1b9d0a097c3b9d78420fd10980a3cd346d99731bb3", func := "casket/casketlaw21.ManifestOnly", spec := "manifestOnly", unfollowed := true, recurses := true, apart := false, narrowed := true }
def ManifestOnlyUptoSaid : Prop := manifestOnlyUptoRow.holds Try.pinned (OpenSpec.upto manifestOnlySpec)

/-- 'casketlaw21.ManifestTenants', WHERE WHAT IT READS IS OF BULK AT MOST 1048576: true; the input reads as it did. -/
def manifestTenantsUptoRow : OpenClaim := { program := "ythjibccogjggbaa", sum := "171b13a5c48f23130fc72a1b9d0a097c3b9d78420fd10980a3cd346d99731bb3", func := "casket/casketlaw21.ManifestTenants", spec := "manifestTenants", unfollowed := true, recurses := true, apart := false, narrowed := true }
def ManifestTenantsUptoSaid : Prop := manifestTenantsUptoRow.holds Try.pinned (OpenSpec.upto manifestTenantsSpec)

/-- 'casketlaw21.ManifestBack', WHERE WHAT IT READS IS OF BULK AT MOST 1048576: true; the input reads as it did. -/
def manifestBackUptoRow : OpenClaim := { program := "ythjibccogjggbaa", sum := "171b13a5c48f23130fc72a1b9d0a097c3b9d78420fd10980a3cd346d99731bb3", func := "casket/casketlaw21.ManifestBack", spec := "manifestBack", unfollowed := true, recurses := true, apart := false, narrowed := true }
def ManifestBackUptoSaid : Prop := manifestBackUptoRow.holds Try.pinned (OpenSpec.upto manifestBackSpec)

/-- 'casketlaw21.ManifestTurned', WHERE WHAT IT READS IS OF BULK AT MOST 1048576: true; the input reads as it did. -/
def manifestTurnedUptoRow : OpenClaim := { program := "ythjibccogjggbaa", sum := "171b13a5c48f23130fc72a1b9d0a097c3b9d78420fd10980a3cd346d99731bb3", func := "casket/casketlaw21.ManifestTurned", spec := "manifestTurned", unfollowed := true, recurses := true, apart := false, narrowed := true }
def ManifestTurnedUptoSaid : Prop := manifestTurnedUptoRow.holds Try.pinned (OpenSpec.upto manifestTurnedSpec)

end Rows
end Go.Proofs.Ythjibccogjggbaa
