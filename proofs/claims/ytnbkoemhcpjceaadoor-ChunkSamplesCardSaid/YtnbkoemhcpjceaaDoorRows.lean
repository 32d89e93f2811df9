/-
  NARROWER THAN 'FOR EVERY INPUT', by the rows' own cells (each row's printed sentence says how): ValcodecWays: laid · ValcodecEncodes: laid · ValcodecDecodes: laid · ValcodecBack: laid · ValcodecOnly: laid · ValcodecSame: laid · ChunkBack: laid · ChunkOnly: laid · ChunkSize: laid · ChunkTenants: laid · ChunkSamples: laid.
  DERIVED. THE GIVEN ROWS OF THIS SEAT. 11 by the template 'for every input the law returns true; each argument reads behind the call as it read before'; 0 by the template 'total and deterministic' (their statements: YtnbkoemhcpjceaaDoorTotals.lean).
  GIVEN WITH THE SEED: the statements are not yours to turn. If you find one false, say at which input.
  Laid BY PROGRAM, IN A SANDBOX (cutbox-rows.mjs): the forced cells as the released guide's own fill.sh prints them over the translation 6888d51654b6bfe2… (all of the seat's roots in one cut). By AI agents, Wed Nov 11 2026. No macro, syntax, notation, axiom, sorry.
-/
import Derived.Test.YtnbkoemhcpjceaaDoorChecked
import GoSem.Claim
import GoSem.ClaimJoined
import GoSem.ClaimMapViews
import Derived.JoinedTies
import Derived.KernelRfl
namespace Go.Proofs.YtnbkoemhcpjceaaDoor
/- THE CELL 'sum', in the pinned program and in every row, IS THE sha256 OF THE DUMP (.gsa) THAT YtnbkoemhcpjceaaDoorProg.lean LOADS. Nothing in Lean hashes anything: it is a label: what it is worth is what the hold of that sum in a sandbox is worth. -/
noncomputable def Tryd.pinned : Pinned := { name := "ytnbkoemhcpjceaadoor", sum := "6888d51654b6bfe29207cd28279c01812983a4af05fcb349397944ffa0e33780", checked := Tryd.checked }
namespace Rows
def none {H : Type} : Left H := { results := [], args := [] }

/- WHAT THE LISTED PACKAGE-LEVEL VARIABLES READ AS WHEN THE CALL BEGINS. Each datum BY PROGRAM (the guide's laid-datum.mjs) off the statement by which the dump's own 'gosem.cut.vars' lays the variable. In a bare row this is a premise. The card (YtnbkoemhcpjceaaDoorCards.lean) ties it to the program's text. -/
def laid_math_bits_deBruijn64tab {H : Type} : DataW H := .agg [.lit (.int .u8 0), .lit (.int .u8 1), .lit (.int .u8 56), .lit (.int .u8 2), .lit (.int .u8 57), .lit (.int .u8 49), .lit (.int .u8 28), .lit (.int .u8 3), .lit (.int .u8 61), .lit (.int .u8 58), .lit (.int .u8 42), .lit (.int .u8 50), .lit (.int .u8 38), .lit (.int .u8 29), .lit (.int .u8 17), .lit (.int .u8 4), .lit (.int .u8 62), .lit (.int .u8 47), .lit (.int .u8 59), .lit (.int .u8 36), .lit (.int .u8 45), .lit (.int .u8 43), .lit (.int .u8 51), .lit (.int .u8 22), .lit (.int .u8 53), .lit (.int .u8 39), .lit (.int .u8 33), .lit (.int .u8 30), .lit (.int .u8 24), .lit (.int .u8 18), .lit (.int .u8 12), .lit (.int .u8 5), .lit (.int .u8 63), .lit (.int .u8 55), .lit (.int .u8 48), .lit (.int .u8 27), .lit (.int .u8 60), .lit (.int .u8 41), .lit (.int .u8 37), .lit (.int .u8 16), .lit (.int .u8 46), .lit (.int .u8 35), .lit (.int .u8 44), .lit (.int .u8 21), .lit (.int .u8 52), .lit (.int .u8 32), .lit (.int .u8 23), .lit (.int .u8 11), .lit (.int .u8 54), .lit (.int .u8 26), .lit (.int .u8 40), .lit (.int .u8 15), .lit (.int .u8 34), .lit (.int .u8 20), .lit (.int .u8 31), .lit (.int .u8 10), .lit (.int .u8 25), .lit (.int .u8 14), .lit (.int .u8 19), .lit (.int .u8 9), .lit (.int .u8 13), .lit (.int .u8 8), .lit (.int .u8 7), .lit (.int .u8 6)]

/-- 'casketlaw11.ValcodecWays': WHATEVER THE INPUT: true; the input reads as it did. -/
def valcodecWaysSpec : ChangeSpec := { name := "valcodecWays", fn := fun _ => fun
  | [d1, d2] => { results := [.lit (.bool true)], args := [d1, d2] }
  | _ => none }
def valcodecWaysRow : OpenClaim := { program := "ytnbkoemhcpjceaadoor", sum := "6888d51654b6bfe29207cd28279c01812983a4af05fcb349397944ffa0e33780", func := "casket/casketlaw11.ValcodecWays", spec := "valcodecWays", unfollowed := true, recurses := true, named := ["math/bits.deBruijn64tab"], apart := false, laid := [("math/bits.deBruijn64tab", laid_math_bits_deBruijn64tab)] }
def ValcodecWaysSaid : Prop := valcodecWaysRow.holds Tryd.pinned (OpenSpec.ofChange valcodecWaysSpec)

/-- ITS FALSE NEIGHBOUR: 'it returns false'. Refute it at one input. -/
def valcodecWaysWrong : ChangeSpec := { name := "valcodecWays", fn := fun _ => fun
  | [d1, d2] => { results := [.lit (.bool false)], args := [d1, d2] }
  | _ => none }
def ValcodecWaysWrongFalsely : Prop := valcodecWaysRow.holds Tryd.pinned (OpenSpec.ofChange valcodecWaysWrong)

/-- 'casketlaw11.ValcodecEncodes': WHATEVER THE INPUT: true; the input reads as it did. -/
def valcodecEncodesSpec : ChangeSpec := { name := "valcodecEncodes", fn := fun _ => fun
  | [d] => { results := [.lit (.bool true)], args := [d] }
  | _ => none }
def valcodecEncodesRow : OpenClaim := { program := "ytnbkoemhcpjceaadoor", sum := "6888d51654b6bfe29207cd28279c01812983a4af05fcb349397944ffa0e33780", func := "casket/casketlaw11.ValcodecEncodes", spec := "valcodecEncodes", unfollowed := true, recurses := true, named := ["math/bits.deBruijn64tab"], apart := false, laid := [("math/bits.deBruijn64tab", laid_math_bits_deBruijn64tab)] }
def ValcodecEncodesSaid : Prop := valcodecEncodesRow.holds Tryd.pinned (OpenSpec.ofChange valcodecEncodesSpec)

/-- ITS FALSE NEIGHBOUR: 'it returns false'. Refute it at one input. -/
def valcodecEncodesWrong : ChangeSpec := { name := "valcodecEncodes", fn := fun _ => fun
  | [d] => { results := [.lit (.bool false)], args := [d] }
  | _ => none }
def ValcodecEncodesWrongFalsely : Prop := valcodecEncodesRow.holds Tryd.pinned (OpenSpec.ofChange valcodecEncodesWrong)

/-- 'casketlaw11.ValcodecDecodes': WHATEVER THE INPUT: true; the input reads as it did. -/
def valcodecDecodesSpec : ChangeSpec := { name := "valcodecDecodes", fn := fun _ => fun
  | [d1, d2] => { results := [.lit (.bool true)], args := [d1, d2] }
  | _ => none }
def valcodecDecodesRow : OpenClaim := { program := "ytnbkoemhcpjceaadoor", sum := "6888d51654b6bfe29207cd28279c01812983a4af05fcb349397944ffa0e33780", func := "casket/casketlaw11.ValcodecDecodes", spec := "valcodecDecodes", unfollowed := true, recurses := true, named := ["math/bits.deBruijn64tab"], apart := false, laid := [("math/bits.deBruijn64tab", laid_math_bits_deBruijn64tab)] }
def ValcodecDecodesSaid : Prop := valcodecDecodesRow.holds Tryd.pinned (OpenSpec.ofChange valcodecDecodesSpec)

/-- ITS FALSE NEIGHBOUR: 'it returns false'. Refute it at one input. -/
def valcodecDecodesWrong : ChangeSpec := { name := "valcodecDecodes", fn := fun _ => fun
  | [d1, d2] => { results := [.lit (.bool false)], args := [d1, d2] }
  | _ => none }
def ValcodecDecodesWrongFalsely : Prop := valcodecDecodesRow.holds Tryd.pinned (OpenSpec.ofChange valcodecDecodesWrong)

/-- 'casketlaw11.ValcodecBack': WHATEVER THE INPUT: true; the input reads as it did. -/
def valcodecBackSpec : ChangeSpec := { name := "valcodecBack", fn := fun _ => fun
  | [d1, d2, d3] => { results := [.lit (.bool true)], args := [d1, d2, d3] }
  | _ => none }
def valcodecBackRow : OpenClaim := { program := "ytnbkoemhcpjceaadoor", sum := "6888d51654b6bfe29207cd28279c01812983a4af05fcb349397944ffa0e33780", func := "casket/casketlaw11.ValcodecBack", spec := "valcodecBack", unfollowed := true, recurses := true, named := ["math/bits.deBruijn64tab"], apart := false, laid := [("math/bits.deBruijn64tab", laid_math_bits_deBruijn64tab)] }
def ValcodecBackSaid : Prop := valcodecBackRow.holds Tryd.pinned (OpenSpec.ofChange valcodecBackSpec)

/-- ITS FALSE NEIGHBOUR: 'it returns false'. Refute it at one input. -/
def valcodecBackWrong : ChangeSpec := { name := "valcodecBack", fn := fun _ => fun
  | [d1, d2, d3] => { results := [.lit (.bool false)], args := [d1, d2, d3] }
  | _ => none }
def ValcodecBackWrongFalsely : Prop := valcodecBackRow.holds Tryd.pinned (OpenSpec.ofChange valcodecBackWrong)

/-- 'casketlaw11.ValcodecOnly': WHATEVER THE INPUT: true; the input reads as it did. -/
def valcodecOnlySpec : ChangeSpec := { name := "valcodecOnly", fn := fun _ => fun
  | [d1, d2, d3] => { results := [.lit (.bool true)], args := [d1, d2, d3] }
  | _ => none }
def valcodecOnlyRow : OpenClaim := { program := "ytnbkoemhcpjceaadoor", sum := "6888d51654b6bfe29207cd28279c01812983a4af05fcb349397944ffa0e33780", func := "casket/casketlaw11.ValcodecOnly", spec := "valcodecOnly", unfollowed := true, recurses := true, named := ["math/bits.deBruijn64tab"], apart := false, laid := [("math/bits.deBruijn64tab", laid_math_bits_deBruijn64tab)] }
def ValcodecOnlySaid : Prop := valcodecOnlyRow.holds Tryd.pinned (OpenSpec.ofChange valcodecOnlySpec)

/-- ITS FALSE NEIGHBOUR: 'it returns false'. Refute it at one input. -/
def valcodecOnlyWrong : ChangeSpec := { name := "valcodecOnly", fn := fun _ => fun
  | [d1, d2, d3] => { results := [.lit (.bool false)], args := [d1, d2, d3] }
  | _ => none }
def ValcodecOnlyWrongFalsely : Prop := valcodecOnlyRow.holds Tryd.pinned (OpenSpec.ofChange valcodecOnlyWrong)

/-- 'casketlaw11.ValcodecSame': WHATEVER THE INPUT: true; the input reads as it did. -/
def valcodecSameSpec : ChangeSpec := { name := "valcodecSame", fn := fun _ => fun
  | [d1, d2, d3] => { results := [.lit (.bool true)], args := [d1, d2, d3] }
  | _ => none }
def valcodecSameRow : OpenClaim := { program := "ytnbkoemhcpjceaadoor", sum := "6888d51654b6bfe29207cd28279c01812983a4af05fcb349397944ffa0e33780", func := "casket/casketlaw11.ValcodecSame", spec := "valcodecSame", unfollowed := true, recurses := true, named := ["math/bits.deBruijn64tab"], apart := false, laid := [("math/bits.deBruijn64tab", laid_math_bits_deBruijn64tab)] }
def ValcodecSameSaid : Prop := valcodecSameRow.holds Tryd.pinned (OpenSpec.ofChange valcodecSameSpec)

/-- ITS FALSE NEIGHBOUR: 'it returns false'. Refute it at one input. -/
def valcodecSameWrong : ChangeSpec := { name := "valcodecSame", fn := fun _ => fun
  | [d1, d2, d3] => { results := [.lit (.bool false)], args := [d1, d2, d3] }
  | _ => none }
def ValcodecSameWrongFalsely : Prop := valcodecSameRow.holds Tryd.pinned (OpenSpec.ofChange valcodecSameWrong)

/-- 'casketlaw12.ChunkBack': WHATEVER THE INPUT: true; the input reads as it did. -/
def chunkBackSpec : ChangeSpec := { name := "chunkBack", fn := fun _ => fun
  | [d1, d2, d3] => { results := [.lit (.bool true)], args := [d1, d2, d3] }
  | _ => none }
def chunkBackRow : OpenClaim := { program := "ytnbkoemhcpjceaadoor", sum := "6888d51654b6bfe29207cd28279c01812983a4af05fcb349397944ffa0e33780", func := "casket/casketlaw12.ChunkBack", spec := "chunkBack", unfollowed := true, recurses := true, named := ["math/bits.deBruijn64tab"], apart := false, laid := [("math/bits.deBruijn64tab", laid_math_bits_deBruijn64tab)] }
def ChunkBackSaid : Prop := chunkBackRow.holds Tryd.pinned (OpenSpec.ofChange chunkBackSpec)

/-- ITS FALSE NEIGHBOUR: 'it returns false'. Refute it at one input. -/
def chunkBackWrong : ChangeSpec := { name := "chunkBack", fn := fun _ => fun
  | [d1, d2, d3] => { results := [.lit (.bool false)], args := [d1, d2, d3] }
  | _ => none }
def ChunkBackWrongFalsely : Prop := chunkBackRow.holds Tryd.pinned (OpenSpec.ofChange chunkBackWrong)

/-- 'casketlaw12.ChunkOnly': WHATEVER THE INPUT: true; the input reads as it did. -/
def chunkOnlySpec : ChangeSpec := { name := "chunkOnly", fn := fun _ => fun
  | [d] => { results := [.lit (.bool true)], args := [d] }
  | _ => none }
def chunkOnlyRow : OpenClaim := { program := "ytnbkoemhcpjceaadoor", sum := "6888d51654b6bfe29207cd28279c01812983a4af05fcb349397944ffa0e33780", func := "casket/casketlaw12.ChunkOnly", spec := "chunkOnly", unfollowed := true, recurses := true, named := ["math/bits.deBruijn64tab"], apart := false, laid := [("math/bits.deBruijn64tab", laid_math_bits_deBruijn64tab)] }
def ChunkOnlySaid : Prop := chunkOnlyRow.holds Tryd.pinned (OpenSpec.ofChange chunkOnlySpec)

/-- ITS FALSE NEIGHBOUR: 'it returns false'. Refute it at one input. -/
def chunkOnlyWrong : ChangeSpec := { name := "chunkOnly", fn := fun _ => fun
  | [d] => { results := [.lit (.bool false)], args := [d] }
  | _ => none }
def ChunkOnlyWrongFalsely : Prop := chunkOnlyRow.holds Tryd.pinned (OpenSpec.ofChange chunkOnlyWrong)

/-- 'casketlaw12.ChunkSize': WHATEVER THE INPUT: true; the input reads as it did. -/
def chunkSizeSpec : ChangeSpec := { name := "chunkSize", fn := fun _ => fun
  | [d] => { results := [.lit (.bool true)], args := [d] }
  | _ => none }
def chunkSizeRow : OpenClaim := { program := "ytnbkoemhcpjceaadoor", sum := "6888d51654b6bfe29207cd28279c01812983a4af05fcb349397944ffa0e33780", func := "casket/casketlaw12.ChunkSize", spec := "chunkSize", unfollowed := true, recurses := true, named := ["math/bits.deBruijn64tab"], apart := false, laid := [("math/bits.deBruijn64tab", laid_math_bits_deBruijn64tab)] }
def ChunkSizeSaid : Prop := chunkSizeRow.holds Tryd.pinned (OpenSpec.ofChange chunkSizeSpec)

/-- ITS FALSE NEIGHBOUR: 'it returns false'. Refute it at one input. -/
def chunkSizeWrong : ChangeSpec := { name := "chunkSize", fn := fun _ => fun
  | [d] => { results := [.lit (.bool false)], args := [d] }
  | _ => none }
def ChunkSizeWrongFalsely : Prop := chunkSizeRow.holds Tryd.pinned (OpenSpec.ofChange chunkSizeWrong)

/-- 'casketlaw12.ChunkTenants': WHATEVER THE INPUT: true; the input reads as it did. -/
def chunkTenantsSpec : ChangeSpec := { name := "chunkTenants", fn := fun _ => fun
  | [d1, d2] => { results := [.lit (.bool true)], args := [d1, d2] }
  | _ => none }
def chunkTenantsRow : OpenClaim := { program := "ytnbkoemhcpjceaadoor", sum := "6888d51654b6bfe29207cd28279c01812983a4af05fcb349397944ffa0e33780", func := "casket/casketlaw12.ChunkTenants", spec := "chunkTenants", unfollowed := true, recurses := true, named := ["math/bits.deBruijn64tab"], apart := false, laid := [("math/bits.deBruijn64tab", laid_math_bits_deBruijn64tab)] }
def ChunkTenantsSaid : Prop := chunkTenantsRow.holds Tryd.pinned (OpenSpec.ofChange chunkTenantsSpec)

/-- ITS FALSE NEIGHBOUR: 'it returns false'. Refute it at one input. -/
def chunkTenantsWrong : ChangeSpec := { name := "chunkTenants", fn := fun _ => fun
  | [d1, d2] => { results := [.lit (.bool false)], args := [d1, d2] }
  | _ => none }
def ChunkTenantsWrongFalsely : Prop := chunkTenantsRow.holds Tryd.pinned (OpenSpec.ofChange chunkTenantsWrong)

/-- 'casketlaw12.ChunkSamples': WHATEVER THE INPUT: true; the input reads as it did. -/
def chunkSamplesSpec : ChangeSpec := { name := "chunkSamples", fn := fun _ => fun
  | [d] => { results := [.lit (.bool true)], args := [d] }
  | _ => none }
def chunkSamplesRow : OpenClaim := { program := "ytnbkoemhcpjceaadoor", sum := "6888d51654b6bfe29207cd28279c01812983a4af05fcb349397944ffa0e33780", func := "casket/casketlaw12.ChunkSamples", spec := "chunkSamples", unfollowed := true, recurses := true, named := ["math/bits.deBruijn64tab"], apart := false, laid := [("math/bits.deBruijn64tab", laid_math_bits_deBruijn64tab)] }
def ChunkSamplesSaid : Prop := chunkSamplesRow.holds Tryd.pinned (OpenSpec.ofChange chunkSamplesSpec)

/-- ITS FALSE NEIGHBOUR: 'it returns false'. Refute it at one input. -/
def chunkSamplesWrong : ChangeSpec := { name := "chunkSamples", fn := fun _ => fun
  | [d] => { results := [.lit (.bool false)], args := [d] }
  | _ => none }
def ChunkSamplesWrongFalsely : Prop := chunkSamplesRow.holds Tryd.pinned (OpenSpec.ofChange chunkSamplesWrong)

/- THE SECOND FORM. 'bulk': how many values and letters a reading holds, each counted each time it is reached (what is shared counts as often as it is met; a slice's spare places count too). A statement '..UptoSaid' is the law's where the arguments, and the package variables that the reading takes, are together of bulk at most 1048576: NARROWER than '..Said'. Prove '..Said' where nothing that the law and all that it calls make is longer than what came in: it says more and counts as full. Else prove '..UptoSaid'. A law counts once. -/
mutual
def uptoBulk {H : Type} : DataW H → Nat
  | .lit (.string bytes) => bytes.length + 1
  | .lit _ => 1
  | .nil => 1
  | .ptr d => uptoBulk d + 1
  | .slice elems spare => uptoBulkAll elems + uptoBulkAll spare + 1
  | .agg parts => uptoBulkAll parts + 1
  | .iface _ d => uptoBulk d + 1
  | .map entries => uptoBulkEntries entries + 1
  | .held _ => 1
def uptoBulkAll {H : Type} : List (DataW H) → Nat
  | [] => 0
  | d :: r => uptoBulk d + uptoBulkAll r
def uptoBulkEntries {H : Type} : List (Lit × DataW H) → Nat
  | [] => 0
  | x :: r => uptoBulkEntry x + uptoBulkEntries r
def uptoBulkEntry {H : Type} : Lit × DataW H → Nat
  | (.string bytes, d) => bytes.length + uptoBulk d + 1
  | (_, d) => uptoBulk d + 1
 end
def uptoSmall : (H : Type) → List (DataW H) → Bool := fun _ ds => decide (uptoBulkAll ds ≤ 1048576)
def OpenSpec.upto (s : _root_.Go.ChangeSpec) : _root_.Go.OpenSpec := { _root_.Go.OpenSpec.ofChange s with cond := some uptoSmall }

/-- 'casketlaw11.ValcodecWays', WHERE WHAT IT READS IS OF BULK AT MOST 1048576: true; the input reads as it did. -/
def valcodecWaysUptoRow : OpenClaim := { program := "ytnbkoemhcpjceaadoor", sum := "6888d51654b6bfe29207cd28279c01812983a4af05fcb349397944ffa0e33780", func := "casket/casketlaw11.ValcodecWays", spec := "valcodecWays", unfollowed := true, recurses := true, named := ["math/bits.deBruijn64tab"], apart := false, laid := [("math/bits.deBruijn64tab", laid_math_bits_deBruijn64tab)], narrowed := true }
def ValcodecWaysUptoSaid : Prop := valcodecWaysUptoRow.holds Tryd.pinned (OpenSpec.upto valcodecWaysSpec)

/-- 'casketlaw11.ValcodecEncodes', WHERE WHAT IT READS IS OF BULK AT MOST 1048576: true; the input reads as it did. -/
def valcodecEncodesUptoRow : OpenClaim := { program := "ytnbkoemhcpjceaadoor", sum := "6888d51654b6bfe29207cd28279c01812983a4af05fcb349397944ffa0e33780", func := "casket/casketlaw11.ValcodecEncodes", spec := "valcodecEncodes", unfollowed := true, recurses := true, named := ["math/bits.deBruijn64tab"], apart := false, laid := [("math/bits.deBruijn64tab", laid_math_bits_deBruijn64tab)], narrowed := true }
def ValcodecEncodesUptoSaid : Prop := valcodecEncodesUptoRow.holds Tryd.pinned (OpenSpec.upto valcodecEncodesSpec)

/-- 'casketlaw11.ValcodecDecodes', WHERE WHAT IT READS IS OF BULK AT MOST 1048576: true; the input reads as it did. -/
def valcodecDecodesUptoRow : OpenClaim := { program := "ytnbkoemhcpjceaadoor", sum := "6888d51654b6bfe29207cd28279c01812983a4af05fcb349397944ffa0e33780", func := "casket/casketlaw11.ValcodecDecodes", spec := "valcodecDecodes", unfollowed := true, recurses := true, named := ["math/bits.deBruijn64tab"], apart := false, laid := [("math/bits.deBruijn64tab", laid_math_bits_deBruijn64tab)], narrowed := true }
def ValcodecDecodesUptoSaid : Prop := valcodecDecodesUptoRow.holds Tryd.pinned (OpenSpec.upto valcodecDecodesSpec)

/-- 'casketlaw11.ValcodecBack', WHERE WHAT IT READS IS OF BULK AT MOST 1048576: true; the input reads as it did. -/
def valcodecBackUptoRow : OpenClaim := { program := "ytnbkoemhcpjceaadoor", sum := "6888d51654b6bfe29207cd28279c01812983a4af05fcb349397944ffa0e33780", func := "casket/casketlaw11.ValcodecBack", spec := "valcodecBack", unfollowed := true, recurses := true, named := ["math/bits.deBruijn64tab"], apart := false, laid := [("math/bits.deBruijn64tab", laid_math_bits_deBruijn64tab)], narrowed := true }
def ValcodecBackUptoSaid : Prop := valcodecBackUptoRow.holds Tryd.pinned (OpenSpec.upto valcodecBackSpec)

/-- 'casketlaw11.ValcodecOnly', WHERE WHAT IT READS IS OF BULK AT MOST 1048576: true; the input reads as it did. -/
def valcodecOnlyUptoRow : OpenClaim := { program := "ytnbkoemhcpjceaadoor", sum := "6888d51654b6bfe29207cd28279c01812983a4af05fcb349397944ffa0e33780", func := "casket/casketlaw11.ValcodecOnly", spec := "valcodecOnly", unfollowed := true, recurses := true, named := ["math/bits.deBruijn64tab"], apart := false, laid := [("math/bits.deBruijn64tab", laid_math_bits_deBruijn64tab)], narrowed := true }
def ValcodecOnlyUptoSaid : Prop := valcodecOnlyUptoRow.holds Tryd.pinned (OpenSpec.upto valcodecOnlySpec)

/-- 'casketlaw11.ValcodecSame', WHERE WHAT IT READS IS OF BULK AT MOST 1048576: true; the input reads as it did. -/
def valcodecSameUptoRow : OpenClaim := { program := "ytnbkoemhcpjceaadoor", sum := "6888d51654b6bfe29207cd28279c01812983a4af05fcb349397944ffa0e33780", func := "casket/casketlaw11.ValcodecSame", spec := "valcodecSame", unfollowed := true, recurses := true, named := ["math/bits.deBruijn64tab"], apart := false, laid := [("math/bits.deBruijn64tab", laid_math_bits_deBruijn64tab)], narrowed := true }
def ValcodecSameUptoSaid : Prop := valcodecSameUptoRow.holds Tryd.pinned (OpenSpec.upto valcodecSameSpec)

/-- 'casketlaw12.ChunkBack', WHERE WHAT IT READS IS OF BULK AT MOST 1048576: true; the input reads as it did. -/
def chunkBackUptoRow : OpenClaim := { program := "ytnbkoemhcpjceaadoor", sum := "6888d51654b6bfe29207cd28279c01812983a4af05fcb349397944ffa0e33780", func := "casket/casketlaw12.ChunkBack", spec := "chunkBack", unfollowed := true, recurses := true, named := ["math/bits.deBruijn64tab"], apart := false, laid := [("math/bits.deBruijn64tab", laid_math_bits_deBruijn64tab)], narrowed := true }
def ChunkBackUptoSaid : Prop := chunkBackUptoRow.holds Tryd.pinned (OpenSpec.upto chunkBackSpec)

/-- 'casketlaw12.ChunkOnly', WHERE WHAT IT READS IS OF BULK AT MOST 1048576: true; the input reads as it did. -/
def chunkOnlyUptoRow : OpenClaim := { program := "ytnbkoemhcpjceaadoor", sum := "6888d51654b6bfe29207cd28279c01812983a4af05fcb349397944ffa0e33780", func := "casket/casketlaw12.ChunkOnly", spec := "chunkOnly", unfollowed := true, recurses := true, named := ["math/bits.deBruijn64tab"], apart := false, laid := [("math/bits.deBruijn64tab", laid_math_bits_deBruijn64tab)], narrowed := true }
def ChunkOnlyUptoSaid : Prop := chunkOnlyUptoRow.holds Tryd.pinned (OpenSpec.upto chunkOnlySpec)

/-- 'casketlaw12.ChunkSize', WHERE WHAT IT READS IS OF BULK AT MOST 1048576: true; the input reads as it did. -/
def chunkSizeUptoRow : OpenClaim := { program := "ytnbkoemhcpjceaadoor", sum := "6888d51654b6bfe29207cd28279c01812983a4af05fcb349397944ffa0e33780", func := "casket/casketlaw12.ChunkSize", spec := "chunkSize", unfollowed := true, recurses := true, named := ["math/bits.deBruijn64tab"], apart := false, laid := [("math/bits.deBruijn64tab", laid_math_bits_deBruijn64tab)], narrowed := true }
def ChunkSizeUptoSaid : Prop := chunkSizeUptoRow.holds Tryd.pinned (OpenSpec.upto chunkSizeSpec)

/-- 'casketlaw12.ChunkTenants', WHERE WHAT IT READS IS OF BULK AT MOST 1048576: true; the input reads as it did. -/
def chunkTenantsUptoRow : OpenClaim := { program := "ytnbkoemhcpjceaadoor", sum := "6888d51654b6bfe29207cd28279c01812983a4af05fcb349397944ffa0e33780", func := "casket/casketlaw12.ChunkTenants", spec := "chunkTenants", unfollowed := true, recurses := true, named := ["math/bits.deBruijn64tab"], apart := false, laid := [("math/bits.deBruijn64tab", laid_math_bits_deBruijn64tab)], narrowed := true }
def ChunkTenantsUptoSaid : Prop := chunkTenantsUptoRow.holds Tryd.pinned (OpenSpec.upto chunkTenantsSpec)

/-- 'casketlaw12.ChunkSamples', WHERE WHAT IT READS IS OF BULK AT MOST 1048576: true; the input reads as it did. -/
def chunkSamplesUptoRow : OpenClaim := { program := "ytnbkoemhcpjceaadoor", sum := "6888d51654b6bfe29207cd28279c01812983a4af05fcb349397944ffa0e33780", func := "casket/casketlaw12.ChunkSamples", spec := "chunkSamples", unfollowed := true, recurses := true, named := ["math/bits.deBruijn64tab"], apart := false, laid := [("math/bits.deBruijn64tab", laid_math_bits_deBruijn64tab)], narrowed := true }
def ChunkSamplesUptoSaid : Prop := chunkSamplesUptoRow.holds Tryd.pinned (OpenSpec.upto chunkSamplesSpec)

end Rows
end Go.Proofs.YtnbkoemhcpjceaaDoor
