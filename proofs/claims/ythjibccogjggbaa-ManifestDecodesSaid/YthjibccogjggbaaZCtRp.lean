import Derived.Test.YthjibccogjggbaaKm
import Derived.Test.YthjibccogjggbaaKn
import Derived.Test.YthjibccogjggbaaRows
set_option linter.all false
set_option linter.unusedVariables false
namespace Go.Proofs.Ythjibccogjggbaa
open Go Go.Ck Go.RowKit Go.ChangeShapes Go.WideShapes Go.ChangeAt

theorem own : ownKnob Try.prog.godebug = none := by kernel_rfl
theorem laidOut : laidOutB Try.prog = true := by kernel_rfl
theorem mapsR : mapsRowed Try.prog = true := by kernel_rfl
theorem noTabs : gtabs Try.prog = [] := by kernel_rfl
end Go.Proofs.Ythjibccogjggbaa
