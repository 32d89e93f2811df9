import Derived.Test.YthjibccogjggbaaGreatKm
import Derived.Test.YthjibccogjggbaaGreatKn
import Derived.Test.YthjibccogjggbaaGreatRows
set_option linter.all false
set_option linter.unusedVariables false
namespace Go.Proofs.YthjibccogjggbaaGreat
open Go Go.Ck Go.RowKit Go.ChangeShapes Go.WideShapes Go.ChangeAt

theorem own : ownKnob Tryz.prog.godebug = none := by kernel_rfl
theorem laidOut : laidOutB Tryz.prog = true := by kernel_rfl
theorem mapsR : mapsRowed Tryz.prog = true := by kernel_rfl
theorem noTabs : gtabs Tryz.prog = [] := by kernel_rfl
end Go.Proofs.YthjibccogjggbaaGreat
