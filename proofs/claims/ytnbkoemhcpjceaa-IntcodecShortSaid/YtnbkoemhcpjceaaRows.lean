/-
  No cell of these rows narrows 'for every input' (looked for: loops, veiled, ifaces, maps, wideKeys, modest, calm, conditions, laid).
  DERIVED. THE GIVEN ROWS OF THIS SEAT. 7 by the template 'for every input the law returns true; each argument reads behind the call as it read before'; 0 by the template 'total and deterministic' (their statements: YtnbkoemhcpjceaaTotals.lean).
  GIVEN WITH THE SEED: the statements are not yours to turn. If you find one false, say at which input.
  Laid BY PROGRAM, IN A SANDBOX (cutbox-rows.mjs): the forced cells as the released guide's own fill.sh prints them over the translation 26cd3010744d729e… (all of the seat's roots in one cut). By AI agents, Wed Nov 11 2026. No macro, syntax, notation, axiom, sorry.
-/
import Derived.Test.YtnbkoemhcpjceaaChecked
import GoSem.Claim
import GoSem.ClaimJoined
import GoSem.ClaimMapViews
import Derived.JoinedTies
import Derived.KernelRfl
namespace Go.Proofs.Ytnbkoemhcpjceaa
/- THE CELL 'sum', in the pinned program and in every row, IS THE sha256 OF THE DUMP (.gsa) THAT YtnbkoemhcpjceaaProg.lean LOADS. Nothing in Lean hashes anything: it is a label: what it is worth is what the hold of that sum in a sandbox is worth. -/
noncomputable def Try.pinned : Pinned := { name := "ytnbkoemhcpjceaa", sum := "26cd3010744d729ef87ec0e2db21df3d1b3cbe1f2b13c4f170dd8c5f5b73b9e3", checked := Try.checked }
namespace Rows
def none {H : Type} : Left H := { results := [], args := [] }

/-- 'casketlaw08.IntcodecWays': WHATEVER THE INPUT: true; the input reads as it did. -/
def intcodecWaysSpec : ChangeSpec := { name := "intcodecWays", fn := fun _ => fun
  | [d1, d2] => { results := [.lit (.bool true)], args := [d1, d2] }
  | _ => none }
def intcodecWaysRow : OpenClaim := { program := "ytnbkoemhcpjceaa", sum := "26cd3010744d729ef87ec0e2db21df3d1b3cbe1f2b13c4f170dd8c5f5b73b9e3", func := "casket/casketlaw08.IntcodecWays", spec := "intcodecWays", unfollowed := true, recurses := true, apart := false }
def IntcodecWaysSaid : Prop := intcodecWaysRow.holds Try.pinned (OpenSpec.ofChange intcodecWaysSpec)

/-- ITS FALSE NEIGHBOUR: 'it returns false'. Refute it at one input. -/
def intcodecWaysWrong : ChangeSpec := { name := "intcodecWays", fn := fun _ => fun
  | [d1, d2] => { results := [.lit (.bool false)], args := [d1, d2] }
  | _ => none }
def IntcodecWaysWrongFalsely : Prop := intcodecWaysRow.holds Try.pinned (OpenSpec.ofChange intcodecWaysWrong)

/-- 'casketlaw08.IntcodecEncodes': WHATEVER THE INPUT: true; the input reads as it did. -/
def intcodecEncodesSpec : ChangeSpec := { name := "intcodecEncodes", fn := fun _ => fun
  | [d] => { results := [.lit (.bool true)], args := [d] }
  | _ => none }
def intcodecEncodesRow : OpenClaim := { program := "ytnbkoemhcpjceaa", sum := "26cd3010744d729ef87ec0e2db21df3d1b3cbe1f2b13c4f170dd8c5f5b73b9e3", func := "casket/casketlaw08.IntcodecEncodes", spec := "intcodecEncodes", unfollowed := true, recurses := true, apart := false }
def IntcodecEncodesSaid : Prop := intcodecEncodesRow.holds Try.pinned (OpenSpec.ofChange intcodecEncodesSpec)

/-- ITS FALSE NEIGHBOUR: 'it returns false'. Refute it at one input. -/
def intcodecEncodesWrong : ChangeSpec := { name := "intcodecEncodes", fn := fun _ => fun
  | [d] => { results := [.lit (.bool false)], args := [d] }
  | _ => none }
def IntcodecEncodesWrongFalsely : Prop := intcodecEncodesRow.holds Try.pinned (OpenSpec.ofChange intcodecEncodesWrong)

/-- 'casketlaw08.IntcodecDecodes': WHATEVER THE INPUT: true; the input reads as it did. -/
def intcodecDecodesSpec : ChangeSpec := { name := "intcodecDecodes", fn := fun _ => fun
  | [d1, d2] => { results := [.lit (.bool true)], args := [d1, d2] }
  | _ => none }
def intcodecDecodesRow : OpenClaim := { program := "ytnbkoemhcpjceaa", sum := "26cd3010744d729ef87ec0e2db21df3d1b3cbe1f2b13c4f170dd8c5f5b73b9e3", func := "casket/casketlaw08.IntcodecDecodes", spec := "intcodecDecodes", unfollowed := true, recurses := true, apart := false }
def IntcodecDecodesSaid : Prop := intcodecDecodesRow.holds Try.pinned (OpenSpec.ofChange intcodecDecodesSpec)

/-- ITS FALSE NEIGHBOUR: 'it returns false'. Refute it at one input. -/
def intcodecDecodesWrong : ChangeSpec := { name := "intcodecDecodes", fn := fun _ => fun
  | [d1, d2] => { results := [.lit (.bool false)], args := [d1, d2] }
  | _ => none }
def IntcodecDecodesWrongFalsely : Prop := intcodecDecodesRow.holds Try.pinned (OpenSpec.ofChange intcodecDecodesWrong)

/-- 'casketlaw08.IntcodecBack': WHATEVER THE INPUT: true; the input reads as it did. -/
def intcodecBackSpec : ChangeSpec := { name := "intcodecBack", fn := fun _ => fun
  | [d1, d2, d3] => { results := [.lit (.bool true)], args := [d1, d2, d3] }
  | _ => none }
def intcodecBackRow : OpenClaim := { program := "ytnbkoemhcpjceaa", sum := "26cd3010744d729ef87ec0e2db21df3d1b3cbe1f2b13c4f170dd8c5f5b73b9e3", func := "casket/casketlaw08.IntcodecBack", spec := "intcodecBack", unfollowed := true, recurses := true, apart := false }
def IntcodecBackSaid : Prop := intcodecBackRow.holds Try.pinned (OpenSpec.ofChange intcodecBackSpec)

/-- ITS FALSE NEIGHBOUR: 'it returns false'. Refute it at one input. -/
def intcodecBackWrong : ChangeSpec := { name := "intcodecBack", fn := fun _ => fun
  | [d1, d2, d3] => { results := [.lit (.bool false)], args := [d1, d2, d3] }
  | _ => none }
def IntcodecBackWrongFalsely : Prop := intcodecBackRow.holds Try.pinned (OpenSpec.ofChange intcodecBackWrong)

/-- 'casketlaw08.IntcodecOnly': WHATEVER THE INPUT: true; the input reads as it did. -/
def intcodecOnlySpec : ChangeSpec := { name := "intcodecOnly", fn := fun _ => fun
  | [d1, d2, d3] => { results := [.lit (.bool true)], args := [d1, d2, d3] }
  | _ => none }
def intcodecOnlyRow : OpenClaim := { program := "ytnbkoemhcpjceaa", sum := "26cd3010744d729ef87ec0e2db21df3d1b3cbe1f2b13c4f170dd8c5f5b73b9e3", func := "casket/casketlaw08.IntcodecOnly", spec := "intcodecOnly", unfollowed := true, recurses := true, apart := false }
def IntcodecOnlySaid : Prop := intcodecOnlyRow.holds Try.pinned (OpenSpec.ofChange intcodecOnlySpec)

/-- ITS FALSE NEIGHBOUR: 'it returns false'. Refute it at one input. -/
def intcodecOnlyWrong : ChangeSpec := { name := "intcodecOnly", fn := fun _ => fun
  | [d1, d2, d3] => { results := [.lit (.bool false)], args := [d1, d2, d3] }
  | _ => none }
def IntcodecOnlyWrongFalsely : Prop := intcodecOnlyRow.holds Try.pinned (OpenSpec.ofChange intcodecOnlyWrong)

/-- 'casketlaw08.IntcodecEven': WHATEVER THE INPUT: true; the input reads as it did. -/
def intcodecEvenSpec : ChangeSpec := { name := "intcodecEven", fn := fun _ => fun
  | [d1, d2, d3] => { results := [.lit (.bool true)], args := [d1, d2, d3] }
  | _ => none }
def intcodecEvenRow : OpenClaim := { program := "ytnbkoemhcpjceaa", sum := "26cd3010744d729ef87ec0e2db21df3d1b3cbe1f2b13c4f170dd8c5f5b73b9e3", func := "casket/casketlaw08.IntcodecEven", spec := "intcodecEven", unfollowed := true, recurses := true, apart := false }
def IntcodecEvenSaid : Prop := intcodecEvenRow.holds Try.pinned (OpenSpec.ofChange intcodecEvenSpec)

/-- ITS FALSE NEIGHBOUR: 'it returns false'. Refute it at one input. -/
def intcodecEvenWrong : ChangeSpec := { name := "intcodecEven", fn := fun _ => fun
  | [d1, d2, d3] => { results := [.lit (.bool false)], args := [d1, d2, d3] }
  | _ => none }
def IntcodecEvenWrongFalsely : Prop := intcodecEvenRow.holds Try.pinned (OpenSpec.ofChange intcodecEvenWrong)

/-- 'casketlaw08.IntcodecShort': WHATEVER THE INPUT: true; the input reads as it did. -/
def intcodecShortSpec : ChangeSpec := { name := "intcodecShort", fn := fun _ => fun
  | [d1, d2] => { results := [.lit (.bool true)], args := [d1, d2] }
  | _ => none }
def intcodecShortRow : OpenClaim := { program := "ytnbkoemhcpjceaa", sum := "26cd3010744d729ef87ec0e2db21df3d1b3cbe1f2b13c4f170dd8c5f5b73b9e3", func := "casket/casketlaw08.IntcodecShort", spec := "intcodecShort", unfollowed := true, recurses := true, apart := false }
def IntcodecShortSaid : Prop := intcodecShortRow.holds Try.pinned (OpenSpec.ofChange intcodecShortSpec)

/-- ITS FALSE NEIGHBOUR: 'it returns false'. Refute it at one input. -/
def intcodecShortWrong : ChangeSpec := { name := "intcodecShort", fn := fun _ => fun
  | [d1, d2] => { results := [.lit (.bool false)], args := [d1, d2] }
  | _ => none }
def IntcodecShortWrongFalsely : Prop := intcodecShortRow.holds Try.pinned (OpenSpec.ofChange intcodecShortWrong)

/- THE SECOND FORM. 'bulk': how many values and letters a reading holds, each counted each time it is reached (what is shared counts as often as it is met; a slice's spare places count too). A statement '..UptoSaid' is the law's where the arguments, and the package variables that the reading takes, are together of bulk at most 1048576: NARROWER than '..Said'. Prove '..Said' where nothing that the law and all that it calls make is longer than what came in: it says more and counts as full. Else prove '..UptoSaid'. A law counts once. -/
mutual
def uptoBulk {H : Type} : DataW H → Nat
  | .lit (.string bytes) => bytes.length + 1
  | .lit _ => 1
  | .nil => 1
  | .ptr d => uptoBulk d + 1
  | .slice elems spare => uptoBulkAll elems + uptoBulkAll spare + 1
  | .agg parts => uptoBulkAll parts + 1
  | .iface _ d => uptoBulk d + 1
  | .map entries => uptoBulkEntries entries + 1
  | .held _ => 1
def uptoBulkAll {H : Type} : List (DataW H) → Nat
  | [] => 0
  | d :: r => uptoBulk d + uptoBulkAll r
def uptoBulkEntries {H : Type} : List (Lit × DataW H) → Nat
  | [] => 0
  | x :: r => uptoBulkEntry x + uptoBulkEntries r
def uptoBulkEntry {H : Type} : Lit × DataW H → Nat
  | (.string bytes, d) => bytes.length + uptoBulk d + 1
  | (_, d) => uptoBulk d + 1
 end
def uptoSmall : (H : Type) → List (DataW H) → Bool := fun _ ds => decide (uptoBulkAll ds ≤ 1048576)
def OpenSpec.upto (s : _root_.Go.ChangeSpec) : _root_.Go.OpenSpec := { _root_.Go.OpenSpec.ofChange s with cond := some uptoSmall }

/-- 'casketlaw08.IntcodecWays', WHERE WHAT IT READS IS OF BULK AT MOST 1048576: true; the input reads as it did. -/
def intcodecWaysUptoRow : OpenClaim := { program := "ytnbkoemhcpjceaa", sum := "26cd3010744d729ef87ec0e2db21df3d1b3cbe1f2b13c4f170dd8c5f5b73b9e3", func := "casket/casketlaw08.IntcodecWays", spec := "intcodecWays", unfollowed := true, recurses := true, apart := false, narrowed := true }
def IntcodecWaysUptoSaid : Prop := intcodecWaysUptoRow.holds Try.pinned (OpenSpec.upto intcodecWaysSpec)

/-- 'casketlaw08.IntcodecEncodes', WHERE WHAT IT READS IS OF BULK AT MOST 1048576: true; the input reads as it did. -/
def intcodecEncodesUptoRow : OpenClaim := { program := "ytnbkoemhcpjceaa", sum := "26cd3010744d729ef87ec0e2db21df3d1b3cbe1f2b13c4f170dd8c5f5b73b9e3", func := "casket/casketlaw08.IntcodecEncodes", spec := "intcodecEncodes", unfollowed := true, recurses := true, apart := false, narrowed := true }
def IntcodecEncodesUptoSaid : Prop := intcodecEncodesUptoRow.holds Try.pinned (OpenSpec.upto intcodecEncodesSpec)

/-- 'casketlaw08.IntcodecDecodes', WHERE WHAT IT READS IS OF BULK AT MOST 1048576: true; the input reads as it did. -/
def intcodecDecodesUptoRow : OpenClaim := { program := "ytnbkoemhcpjceaa", sum := "26cd3010744d729ef87ec0e2db21df3d1b3cbe1f2b13c4f170dd8c5f5b73b9e3", func := "casket/casketlaw08.IntcodecDecodes", spec := "intcodecDecodes", unfollowed := true, recurses := true, apart := false, narrowed := true }
def IntcodecDecodesUptoSaid : Prop := intcodecDecodesUptoRow.holds Try.pinned (OpenSpec.upto intcodecDecodesSpec)

/-- 'casketlaw08.IntcodecBack', WHERE WHAT IT READS IS OF BULK AT MOST 1048576: true; the input reads as it did. -/
def intcodecBackUptoRow : OpenClaim := { program := "ytnbkoemhcpjceaa", sum := "26cd3010744d729ef87ec0e2db21df3d1b3cbe1f2b13c4f170dd8c5f5b73b9e3", func := "casket/casketlaw08.IntcodecBack", spec := "intcodecBack", unfollowed := true, recurses := true, apart := false, narrowed := true }
def IntcodecBackUptoSaid : Prop := intcodecBackUptoRow.holds Try.pinned (OpenSpec.upto intcodecBackSpec)

/-- 'casketlaw08.IntcodecOnly', WHERE WHAT IT READS IS OF BULK AT MOST 1048576: true; the input reads as it did. -/
def intcodecOnlyUptoRow : OpenClaim := { program := "ytnbkoemhcpjceaa", sum := "26cd3010744d729ef87ec0e2db21df3d1b3cbe1f2b13c4f170dd8c5f5b73b9e3", func := "casket/casketlaw08.IntcodecOnly", spec := "intcodecOnly", unfollowed := true, recurses := true, apart := false, narrowed := true }
def IntcodecOnlyUptoSaid : Prop := intcodecOnlyUptoRow.holds Try.pinned (OpenSpec.upto intcodecOnlySpec)

/-- 'casketlaw08.IntcodecEven', WHERE WHAT IT READS IS OF BULK AT MOST 1048576: true; the input reads as it did. -/
def intcodecEvenUptoRow : OpenClaim := { program := "ytnbkoemhcpjceaa", sum := "26cd3010744d729ef87ec0e2db21df3d1b3cbe1f2b13c4f170dd8c5f5b73b9e3", func := "casket/casketlaw08.IntcodecEven", spec := "intcodecEven", unfollowed := true, recurses := true, apart := false, narrowed := true }
def IntcodecEvenUptoSaid : Prop := intcodecEvenUptoRow.holds Try.pinned (OpenSpec.upto intcodecEvenSpec)

/-- 'casketlaw08.IntcodecShort', WHERE WHAT IT READS IS OF BULK AT MOST 1048576: true; the input reads as it did. -/
def intcodecShortUptoRow : OpenClaim := { program := "ytnbkoemhcpjceaa", sum := "26cd3010744d729ef87ec0e2db21df3d1b3cbe1f2b13c4f170dd8c5f5b73b9e3", func := "casket/casketlaw08.IntcodecShort", spec := "intcodecShort", unfollowed := true, recurses := true, apart := false, narrowed := true }
def IntcodecShortUptoSaid : Prop := intcodecShortUptoRow.holds Try.pinned (OpenSpec.upto intcodecShortSpec)

end Rows
end Go.Proofs.Ytnbkoemhcpjceaa
