/-
  DERIVED. GIVEN WITH THE SEED: THE CARDS: each row of YtnbkoemhcpjceaaDoorRows.lean that lists a variable, with what it lists TIED to the program's text (the seventh form; the later family's looks); each row that meets fmt, with fmt's text TOLD by the authors' own Lean function (tested against real Go, not proved from fmt's source: count such statements apart). THE CARD IS WHAT COUNTS. Prove the row's statement (the work); the ties are given (YtnbkoemhcpjceaaDoorTie.lean); close each card by the builder's one call (the guide's Derived/Test/ToyasCard.lean, 'card_holds'). Laid BY PROGRAM, IN A SANDBOX (cutbox-door.mjs). By AI agents, Wed Nov 11 2026. No macro, syntax, notation, axiom, sorry.
-/
import Derived.Test.YtnbkoemhcpjceaaDoorRows
import GoSem.ClaimSeven
namespace Go.Proofs.YtnbkoemhcpjceaaDoor
namespace Rows

/-- THE TIED CARD OF 'casketlaw11.ValcodecWays'. -/
def valcodecWaysCard : Claim7 := { stood := { row := valcodecWaysRow, standIns := [], harness := (true, "d9c5dc142aa56fca31cc4f17b9b180540adf02212ab99a297039fbbc86a0dc87"), looks := true }, kinds := [], alts := [], laidByText := true, laidKinds := [.data], laidTests := true, laidLooks := .later }
def ValcodecWaysCardSaid : Prop := Claim7.holds Tryd.pinned (.plain (OpenSpec.ofChange valcodecWaysSpec)) valcodecWaysCard

/-- THE TIED CARD OF 'casketlaw11.ValcodecEncodes'. -/
def valcodecEncodesCard : Claim7 := { stood := { row := valcodecEncodesRow, standIns := [], harness := (true, "d9c5dc142aa56fca31cc4f17b9b180540adf02212ab99a297039fbbc86a0dc87"), looks := true }, kinds := [], alts := [], laidByText := true, laidKinds := [.data], laidTests := true, laidLooks := .later }
def ValcodecEncodesCardSaid : Prop := Claim7.holds Tryd.pinned (.plain (OpenSpec.ofChange valcodecEncodesSpec)) valcodecEncodesCard

/-- THE TIED CARD OF 'casketlaw11.ValcodecDecodes'. -/
def valcodecDecodesCard : Claim7 := { stood := { row := valcodecDecodesRow, standIns := [], harness := (true, "d9c5dc142aa56fca31cc4f17b9b180540adf02212ab99a297039fbbc86a0dc87"), looks := true }, kinds := [], alts := [], laidByText := true, laidKinds := [.data], laidTests := true, laidLooks := .later }
def ValcodecDecodesCardSaid : Prop := Claim7.holds Tryd.pinned (.plain (OpenSpec.ofChange valcodecDecodesSpec)) valcodecDecodesCard

/-- THE TIED CARD OF 'casketlaw11.ValcodecBack'. -/
def valcodecBackCard : Claim7 := { stood := { row := valcodecBackRow, standIns := [], harness := (true, "d9c5dc142aa56fca31cc4f17b9b180540adf02212ab99a297039fbbc86a0dc87"), looks := true }, kinds := [], alts := [], laidByText := true, laidKinds := [.data], laidTests := true, laidLooks := .later }
def ValcodecBackCardSaid : Prop := Claim7.holds Tryd.pinned (.plain (OpenSpec.ofChange valcodecBackSpec)) valcodecBackCard

/-- THE TIED CARD OF 'casketlaw11.ValcodecOnly'. -/
def valcodecOnlyCard : Claim7 := { stood := { row := valcodecOnlyRow, standIns := [], harness := (true, "d9c5dc142aa56fca31cc4f17b9b180540adf02212ab99a297039fbbc86a0dc87"), looks := true }, kinds := [], alts := [], laidByText := true, laidKinds := [.data], laidTests := true, laidLooks := .later }
def ValcodecOnlyCardSaid : Prop := Claim7.holds Tryd.pinned (.plain (OpenSpec.ofChange valcodecOnlySpec)) valcodecOnlyCard

/-- THE TIED CARD OF 'casketlaw11.ValcodecSame'. -/
def valcodecSameCard : Claim7 := { stood := { row := valcodecSameRow, standIns := [], harness := (true, "d9c5dc142aa56fca31cc4f17b9b180540adf02212ab99a297039fbbc86a0dc87"), looks := true }, kinds := [], alts := [], laidByText := true, laidKinds := [.data], laidTests := true, laidLooks := .later }
def ValcodecSameCardSaid : Prop := Claim7.holds Tryd.pinned (.plain (OpenSpec.ofChange valcodecSameSpec)) valcodecSameCard

/-- THE TIED CARD OF 'casketlaw12.ChunkBack'. -/
def chunkBackCard : Claim7 := { stood := { row := chunkBackRow, standIns := [], harness := (true, "d9c5dc142aa56fca31cc4f17b9b180540adf02212ab99a297039fbbc86a0dc87"), looks := true }, kinds := [], alts := [], laidByText := true, laidKinds := [.data], laidTests := true, laidLooks := .later }
def ChunkBackCardSaid : Prop := Claim7.holds Tryd.pinned (.plain (OpenSpec.ofChange chunkBackSpec)) chunkBackCard

/-- THE TIED CARD OF 'casketlaw12.ChunkOnly'. -/
def chunkOnlyCard : Claim7 := { stood := { row := chunkOnlyRow, standIns := [], harness := (true, "d9c5dc142aa56fca31cc4f17b9b180540adf02212ab99a297039fbbc86a0dc87"), looks := true }, kinds := [], alts := [], laidByText := true, laidKinds := [.data], laidTests := true, laidLooks := .later }
def ChunkOnlyCardSaid : Prop := Claim7.holds Tryd.pinned (.plain (OpenSpec.ofChange chunkOnlySpec)) chunkOnlyCard

/-- THE TIED CARD OF 'casketlaw12.ChunkSize'. -/
def chunkSizeCard : Claim7 := { stood := { row := chunkSizeRow, standIns := [], harness := (true, "d9c5dc142aa56fca31cc4f17b9b180540adf02212ab99a297039fbbc86a0dc87"), looks := true }, kinds := [], alts := [], laidByText := true, laidKinds := [.data], laidTests := true, laidLooks := .later }
def ChunkSizeCardSaid : Prop := Claim7.holds Tryd.pinned (.plain (OpenSpec.ofChange chunkSizeSpec)) chunkSizeCard

/-- THE TIED CARD OF 'casketlaw12.ChunkTenants'. -/
def chunkTenantsCard : Claim7 := { stood := { row := chunkTenantsRow, standIns := [], harness := (true, "d9c5dc142aa56fca31cc4f17b9b180540adf02212ab99a297039fbbc86a0dc87"), looks := true }, kinds := [], alts := [], laidByText := true, laidKinds := [.data], laidTests := true, laidLooks := .later }
def ChunkTenantsCardSaid : Prop := Claim7.holds Tryd.pinned (.plain (OpenSpec.ofChange chunkTenantsSpec)) chunkTenantsCard

/-- THE TIED CARD OF 'casketlaw12.ChunkSamples'. -/
def chunkSamplesCard : Claim7 := { stood := { row := chunkSamplesRow, standIns := [], harness := (true, "d9c5dc142aa56fca31cc4f17b9b180540adf02212ab99a297039fbbc86a0dc87"), looks := true }, kinds := [], alts := [], laidByText := true, laidKinds := [.data], laidTests := true, laidLooks := .later }
def ChunkSamplesCardSaid : Prop := Claim7.holds Tryd.pinned (.plain (OpenSpec.ofChange chunkSamplesSpec)) chunkSamplesCard

/-- THE SECOND FORM's CARD OF 'casketlaw11.ValcodecWays'. -/
def valcodecWaysUptoCard : Claim7 := { stood := { row := valcodecWaysUptoRow, standIns := [], harness := (true, "d9c5dc142aa56fca31cc4f17b9b180540adf02212ab99a297039fbbc86a0dc87"), looks := true }, kinds := [], alts := [], laidByText := true, laidKinds := [.data], laidTests := true, laidLooks := .later }
def ValcodecWaysUptoCardSaid : Prop := Claim7.holds Tryd.pinned (.plain (OpenSpec.upto valcodecWaysSpec)) valcodecWaysUptoCard

/-- THE SECOND FORM's CARD OF 'casketlaw11.ValcodecEncodes'. -/
def valcodecEncodesUptoCard : Claim7 := { stood := { row := valcodecEncodesUptoRow, standIns := [], harness := (true, "d9c5dc142aa56fca31cc4f17b9b180540adf02212ab99a297039fbbc86a0dc87"), looks := true }, kinds := [], alts := [], laidByText := true, laidKinds := [.data], laidTests := true, laidLooks := .later }
def ValcodecEncodesUptoCardSaid : Prop := Claim7.holds Tryd.pinned (.plain (OpenSpec.upto valcodecEncodesSpec)) valcodecEncodesUptoCard

/-- THE SECOND FORM's CARD OF 'casketlaw11.ValcodecDecodes'. -/
def valcodecDecodesUptoCard : Claim7 := { stood := { row := valcodecDecodesUptoRow, standIns := [], harness := (true, "d9c5dc142aa56fca31cc4f17b9b180540adf02212ab99a297039fbbc86a0dc87"), looks := true }, kinds := [], alts := [], laidByText := true, laidKinds := [.data], laidTests := true, laidLooks := .later }
def ValcodecDecodesUptoCardSaid : Prop := Claim7.holds Tryd.pinned (.plain (OpenSpec.upto valcodecDecodesSpec)) valcodecDecodesUptoCard

/-- THE SECOND FORM's CARD OF 'casketlaw11.ValcodecBack'. -/
def valcodecBackUptoCard : Claim7 := { stood := { row := valcodecBackUptoRow, standIns := [], harness := (true, "d9c5dc142aa56fca31cc4f17b9b180540adf02212ab99a297039fbbc86a0dc87"), looks := true }, kinds := [], alts := [], laidByText := true, laidKinds := [.data], laidTests := true, laidLooks := .later }
def ValcodecBackUptoCardSaid : Prop := Claim7.holds Tryd.pinned (.plain (OpenSpec.upto valcodecBackSpec)) valcodecBackUptoCard

/-- THE SECOND FORM's CARD OF 'casketlaw11.ValcodecOnly'. -/
def valcodecOnlyUptoCard : Claim7 := { stood := { row := valcodecOnlyUptoRow, standIns := [], harness := (true, "d9c5dc142aa56fca31cc4f17b9b180540adf02212ab99a297039fbbc86a0dc87"), looks := true }, kinds := [], alts := [], laidByText := true, laidKinds := [.data], laidTests := true, laidLooks := .later }
def ValcodecOnlyUptoCardSaid : Prop := Claim7.holds Tryd.pinned (.plain (OpenSpec.upto valcodecOnlySpec)) valcodecOnlyUptoCard

/-- THE SECOND FORM's CARD OF 'casketlaw11.ValcodecSame'. -/
def valcodecSameUptoCard : Claim7 := { stood := { row := valcodecSameUptoRow, standIns := [], harness := (true, "d9c5dc142aa56fca31cc4f17b9b180540adf02212ab99a297039fbbc86a0dc87"), looks := true }, kinds := [], alts := [], laidByText := true, laidKinds := [.data], laidTests := true, laidLooks := .later }
def ValcodecSameUptoCardSaid : Prop := Claim7.holds Tryd.pinned (.plain (OpenSpec.upto valcodecSameSpec)) valcodecSameUptoCard

/-- THE SECOND FORM's CARD OF 'casketlaw12.ChunkBack'. -/
def chunkBackUptoCard : Claim7 := { stood := { row := chunkBackUptoRow, standIns := [], harness := (true, "d9c5dc142aa56fca31cc4f17b9b180540adf02212ab99a297039fbbc86a0dc87"), looks := true }, kinds := [], alts := [], laidByText := true, laidKinds := [.data], laidTests := true, laidLooks := .later }
def ChunkBackUptoCardSaid : Prop := Claim7.holds Tryd.pinned (.plain (OpenSpec.upto chunkBackSpec)) chunkBackUptoCard

/-- THE SECOND FORM's CARD OF 'casketlaw12.ChunkOnly'. -/
def chunkOnlyUptoCard : Claim7 := { stood := { row := chunkOnlyUptoRow, standIns := [], harness := (true, "d9c5dc142aa56fca31cc4f17b9b180540adf02212ab99a297039fbbc86a0dc87"), looks := true }, kinds := [], alts := [], laidByText := true, laidKinds := [.data], laidTests := true, laidLooks := .later }
def ChunkOnlyUptoCardSaid : Prop := Claim7.holds Tryd.pinned (.plain (OpenSpec.upto chunkOnlySpec)) chunkOnlyUptoCard

/-- THE SECOND FORM's CARD OF 'casketlaw12.ChunkSize'. -/
def chunkSizeUptoCard : Claim7 := { stood := { row := chunkSizeUptoRow, standIns := [], harness := (true, "d9c5dc142aa56fca31cc4f17b9b180540adf02212ab99a297039fbbc86a0dc87"), looks := true }, kinds := [], alts := [], laidByText := true, laidKinds := [.data], laidTests := true, laidLooks := .later }
def ChunkSizeUptoCardSaid : Prop := Claim7.holds Tryd.pinned (.plain (OpenSpec.upto chunkSizeSpec)) chunkSizeUptoCard

/-- THE SECOND FORM's CARD OF 'casketlaw12.ChunkTenants'. -/
def chunkTenantsUptoCard : Claim7 := { stood := { row := chunkTenantsUptoRow, standIns := [], harness := (true, "d9c5dc142aa56fca31cc4f17b9b180540adf02212ab99a297039fbbc86a0dc87"), looks := true }, kinds := [], alts := [], laidByText := true, laidKinds := [.data], laidTests := true, laidLooks := .later }
def ChunkTenantsUptoCardSaid : Prop := Claim7.holds Tryd.pinned (.plain (OpenSpec.upto chunkTenantsSpec)) chunkTenantsUptoCard

/-- THE SECOND FORM's CARD OF 'casketlaw12.ChunkSamples'. -/
def chunkSamplesUptoCard : Claim7 := { stood := { row := chunkSamplesUptoRow, standIns := [], harness := (true, "d9c5dc142aa56fca31cc4f17b9b180540adf02212ab99a297039fbbc86a0dc87"), looks := true }, kinds := [], alts := [], laidByText := true, laidKinds := [.data], laidTests := true, laidLooks := .later }
def ChunkSamplesUptoCardSaid : Prop := Claim7.holds Tryd.pinned (.plain (OpenSpec.upto chunkSamplesSpec)) chunkSamplesUptoCard
end Rows
end Go.Proofs.YtnbkoemhcpjceaaDoor
