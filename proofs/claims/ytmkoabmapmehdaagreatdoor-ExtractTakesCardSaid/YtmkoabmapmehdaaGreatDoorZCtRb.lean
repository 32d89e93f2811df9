import Derived.Test.YtmkoabmapmehdaaGreatDoorKm
import Derived.Test.YtmkoabmapmehdaaGreatDoorKn
import Derived.Test.YtmkoabmapmehdaaGreatDoorCards
import Derived.Test.YtmkoabmapmehdaaGreatDoorTie
import Derived.SevenTiedAt
set_option linter.all false
namespace Go.Proofs.YtmkoabmapmehdaaGreatDoor
open Go Go.Ck Go.RowKit Go.ChangeShapes Go.WideShapes Go.ChangeAt
theorem own:ownKnob Tryz.prog.godebug=none:=by kernel_rfl
theorem apy:laidOutB Tryz.prog=true:=by kernel_rfl
theorem aHc:mapsRowed Tryz.prog=true:=by kernel_rfl
abbrev Yt:List (String×DataW Unit):=[("math/bits.deBruijn32tab",Rows.laid_math_bits_deBruijn32tab),("math/bits.deBruijn64tab",Rows.laid_math_bits_deBruijn64tab)]
theorem aJy:(Tryz.prog.globalNamed "math/bits.deBruijn64tab").isSome=true:=by kernel_rfl
set_option maxRecDepth 100000 in
theorem ajo(os:Os)(args:Array Value):laidMetH Tryz.prog Yt ((World.doorLaid Tryz.prog 400 os).forCall (fun _ _=>0) ⟨#[],args,[]⟩).memory:=
 laidMetH_of_parts3 (fuel:=8) (laidMet_of_run' 8 (by kernel_rfl) (by kernel_rfl)) (by kernel_rfl) (by kernel_rfl)
theorem gok(w:World)(h:laidMetH Tryz.prog Yt w):Gj Tryz.prog Lf w:=
 adq (g:=1) (t:=158) (e:=5) rfl (.tail _ (.head _)) (by kernel_rfl) (by kernel_rfl) (by kernel_rfl) (by kernel_rfl) (by kernel_rfl) (by kernel_rfl) h
end Go.Proofs.YtmkoabmapmehdaaGreatDoor
