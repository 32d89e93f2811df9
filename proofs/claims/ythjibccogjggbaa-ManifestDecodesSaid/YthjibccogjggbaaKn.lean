/- What is proved here: parts of the proofs of this seat's statements (a verified evaluator for calls over pure values, its laws, and contracts of functions). No condition. -/
import Derived.Test.YthjibccogjggbaaKm
import Derived.Test.YthjibccogjggbaaProg
import Derived.KernelRfl
set_option linter.all false
-- type facts, printed by mkfacts.py
set_option linter.unusedVariables false
namespace Go.Ck
open Go.Proofs
theorem tk_1 : tk Try.prog 1 = .fn := by kernel_rfl
theorem tk_2 : tk Try.prog 2 = .int .i64 := by kernel_rfl
theorem tsh_2 : tsh Try.prog 2 = some (1, false) := by kernel_rfl
theorem co_2 : Program.cellsOf Try.prog 2 = 1 := by kernel_rfl
theorem zcs_2 : zcs Try.prog 2 = some [.pv (.int .i64 0)] := by kernel_rfl
theorem ze_2 : zeroElem Try.prog 2 = some (.int .i64 0) := by kernel_rfl
theorem zok_2 : zok Try.prog 2 = true := by kernel_rfl
theorem tk_3 : tk Try.prog 3 = .int .i64 := by kernel_rfl
theorem tsh_3 : tsh Try.prog 3 = some (1, false) := by kernel_rfl
theorem co_3 : Program.cellsOf Try.prog 3 = 1 := by kernel_rfl
theorem zcs_3 : zcs Try.prog 3 = some [.pv (.int .i64 0)] := by kernel_rfl
theorem ze_3 : zeroElem Try.prog 3 = some (.int .i64 0) := by kernel_rfl
theorem zok_3 : zok Try.prog 3 = true := by kernel_rfl
theorem tk_4 : tk Try.prog 4 = .bool := by kernel_rfl
theorem tsh_4 : tsh Try.prog 4 = some (1, false) := by kernel_rfl
theorem co_4 : Program.cellsOf Try.prog 4 = 1 := by kernel_rfl
theorem zcs_4 : zcs Try.prog 4 = some [.pv (.bool false)] := by kernel_rfl
theorem ze_4 : zeroElem Try.prog 4 = some (.bool false) := by kernel_rfl
theorem zok_4 : zok Try.prog 4 = true := by kernel_rfl
theorem tk_5 : tk Try.prog 5 = .int .u8 := by kernel_rfl
theorem tsh_5 : tsh Try.prog 5 = some (1, false) := by kernel_rfl
theorem co_5 : Program.cellsOf Try.prog 5 = 1 := by kernel_rfl
theorem zcs_5 : zcs Try.prog 5 = some [.pv (.int .u8 0)] := by kernel_rfl
theorem ze_5 : zeroElem Try.prog 5 = some (.int .u8 0) := by kernel_rfl
theorem zok_5 : zok Try.prog 5 = true := by kernel_rfl
theorem tk_6 : tk Try.prog 6 = .int .u8 := by kernel_rfl
theorem tsh_6 : tsh Try.prog 6 = some (1, false) := by kernel_rfl
theorem co_6 : Program.cellsOf Try.prog 6 = 1 := by kernel_rfl
theorem zcs_6 : zcs Try.prog 6 = some [.pv (.int .u8 0)] := by kernel_rfl
theorem ze_6 : zeroElem Try.prog 6 = some (.int .u8 0) := by kernel_rfl
theorem zok_6 : zok Try.prog 6 = true := by kernel_rfl
theorem tk_7 : tk Try.prog 7 = .st [(0, 1, false), (1, 1, false), (2, 1, false), (3, 1, false)] := by kernel_rfl
theorem tsh_7 : tsh Try.prog 7 = some (4, true) := by kernel_rfl
theorem co_7 : Program.cellsOf Try.prog 7 = 4 := by kernel_rfl
theorem zcs_7 : zcs Try.prog 7 = some [.pv (.int .i64 0), .pv (.int .i64 0), .pv (.bool false), .pv (.int .u8 0)] := by kernel_rfl
theorem ze_7 : zeroElem Try.prog 7 = some (.agg [(.int .i64 0), (.int .i64 0), (.bool false), (.int .u8 0)]) := by kernel_rfl
theorem zok_7 : zok Try.prog 7 = true := by kernel_rfl
theorem tk_8 : tk Try.prog 8 = .st [(0, 1, false), (1, 1, false), (2, 1, false), (3, 1, false)] := by kernel_rfl
theorem tsh_8 : tsh Try.prog 8 = some (4, true) := by kernel_rfl
theorem co_8 : Program.cellsOf Try.prog 8 = 4 := by kernel_rfl
theorem zcs_8 : zcs Try.prog 8 = some [.pv (.int .i64 0), .pv (.int .i64 0), .pv (.bool false), .pv (.int .u8 0)] := by kernel_rfl
theorem ze_8 : zeroElem Try.prog 8 = some (.agg [(.int .i64 0), (.int .i64 0), (.bool false), (.int .u8 0)]) := by kernel_rfl
theorem zok_8 : zok Try.prog 8 = true := by kernel_rfl
theorem tk_9 : tk Try.prog 9 = .str := by kernel_rfl
theorem tsh_9 : tsh Try.prog 9 = some (1, false) := by kernel_rfl
theorem co_9 : Program.cellsOf Try.prog 9 = 1 := by kernel_rfl
theorem zcs_9 : zcs Try.prog 9 = some [.pv (.str [])] := by kernel_rfl
theorem ze_9 : zeroElem Try.prog 9 = some (.str []) := by kernel_rfl
theorem zok_9 : zok Try.prog 9 = true := by kernel_rfl
theorem tk_10 : tk Try.prog 10 = .str := by kernel_rfl
theorem tsh_10 : tsh Try.prog 10 = some (1, false) := by kernel_rfl
theorem co_10 : Program.cellsOf Try.prog 10 = 1 := by kernel_rfl
theorem zcs_10 : zcs Try.prog 10 = some [.pv (.str [])] := by kernel_rfl
theorem ze_10 : zeroElem Try.prog 10 = some (.str []) := by kernel_rfl
theorem zok_10 : zok Try.prog 10 = true := by kernel_rfl
theorem tk_11 : tk Try.prog 11 = .str := by kernel_rfl
theorem tsh_11 : tsh Try.prog 11 = some (1, false) := by kernel_rfl
theorem co_11 : Program.cellsOf Try.prog 11 = 1 := by kernel_rfl
theorem zcs_11 : zcs Try.prog 11 = some [.pv (.str [])] := by kernel_rfl
theorem ze_11 : zeroElem Try.prog 11 = some (.str []) := by kernel_rfl
theorem zok_11 : zok Try.prog 11 = true := by kernel_rfl
theorem tk_12 : tk Try.prog 12 = .int .u64 := by kernel_rfl
theorem tsh_12 : tsh Try.prog 12 = some (1, false) := by kernel_rfl
theorem co_12 : Program.cellsOf Try.prog 12 = 1 := by kernel_rfl
theorem zcs_12 : zcs Try.prog 12 = some [.pv (.int .u64 0)] := by kernel_rfl
theorem ze_12 : zeroElem Try.prog 12 = some (.int .u64 0) := by kernel_rfl
theorem zok_12 : zok Try.prog 12 = true := by kernel_rfl
theorem tk_13 : tk Try.prog 13 = .st [(0, 1, false), (1, 1, false)] := by kernel_rfl
theorem tsh_13 : tsh Try.prog 13 = some (2, true) := by kernel_rfl
theorem co_13 : Program.cellsOf Try.prog 13 = 2 := by kernel_rfl
theorem zcs_13 : zcs Try.prog 13 = some [.pv (.str []), .pv (.int .u64 0)] := by kernel_rfl
theorem ze_13 : zeroElem Try.prog 13 = some (.agg [(.str []), (.int .u64 0)]) := by kernel_rfl
theorem zok_13 : zok Try.prog 13 = true := by kernel_rfl
theorem tk_14 : tk Try.prog 14 = .st [(0, 1, false), (1, 1, false)] := by kernel_rfl
theorem tsh_14 : tsh Try.prog 14 = some (2, true) := by kernel_rfl
theorem co_14 : Program.cellsOf Try.prog 14 = 2 := by kernel_rfl
theorem zcs_14 : zcs Try.prog 14 = some [.pv (.str []), .pv (.int .u64 0)] := by kernel_rfl
theorem ze_14 : zeroElem Try.prog 14 = some (.agg [(.str []), (.int .u64 0)]) := by kernel_rfl
theorem zok_14 : zok Try.prog 14 = true := by kernel_rfl
theorem tk_15 : tk Try.prog 15 = .ptr 157 := by kernel_rfl
theorem tsh_15 : tsh Try.prog 15 = some (1, false) := by kernel_rfl
theorem co_15 : Program.cellsOf Try.prog 15 = 1 := by kernel_rfl
theorem zcs_15 : zcs Try.prog 15 = some [.pv .nilp] := by kernel_rfl
theorem ze_15 : zeroElem Try.prog 15 = some .nilp := by kernel_rfl
theorem zok_15 : zok Try.prog 15 = true := by kernel_rfl
theorem tk_16 : tk Try.prog 16 = .ptr 160 := by kernel_rfl
theorem tsh_16 : tsh Try.prog 16 = some (1, false) := by kernel_rfl
theorem co_16 : Program.cellsOf Try.prog 16 = 1 := by kernel_rfl
theorem zcs_16 : zcs Try.prog 16 = some [.pv .nilp] := by kernel_rfl
theorem ze_16 : zeroElem Try.prog 16 = some .nilp := by kernel_rfl
theorem zok_16 : zok Try.prog 16 = true := by kernel_rfl
theorem tk_17 : tk Try.prog 17 = .ptr 168 := by kernel_rfl
theorem tsh_17 : tsh Try.prog 17 = some (1, false) := by kernel_rfl
theorem co_17 : Program.cellsOf Try.prog 17 = 1 := by kernel_rfl
theorem zcs_17 : zcs Try.prog 17 = some [.pv .nilp] := by kernel_rfl
theorem ze_17 : zeroElem Try.prog 17 = some .nilp := by kernel_rfl
theorem zok_17 : zok Try.prog 17 = true := by kernel_rfl
theorem tk_18 : tk Try.prog 18 = .st [(0, 1, false)] := by kernel_rfl
theorem tsh_18 : tsh Try.prog 18 = some (1, true) := by kernel_rfl
theorem co_18 : Program.cellsOf Try.prog 18 = 1 := by kernel_rfl
theorem zcs_18 : zcs Try.prog 18 = some [.pv .nilp] := by kernel_rfl
theorem ze_18 : zeroElem Try.prog 18 = some (.agg [.nilp]) := by kernel_rfl
theorem zok_18 : zok Try.prog 18 = true := by kernel_rfl
theorem tk_19 : tk Try.prog 19 = .st [(0, 1, false)] := by kernel_rfl
theorem tsh_19 : tsh Try.prog 19 = some (1, true) := by kernel_rfl
theorem co_19 : Program.cellsOf Try.prog 19 = 1 := by kernel_rfl
theorem zcs_19 : zcs Try.prog 19 = some [.pv .nilp] := by kernel_rfl
theorem ze_19 : zeroElem Try.prog 19 = some (.agg [.nilp]) := by kernel_rfl
theorem zok_19 : zok Try.prog 19 = true := by kernel_rfl
theorem tk_20 : tk Try.prog 20 = .iface := by kernel_rfl
theorem tk_21 : tk Try.prog 21 = .int .i32 := by kernel_rfl
theorem tsh_21 : tsh Try.prog 21 = some (1, false) := by kernel_rfl
theorem co_21 : Program.cellsOf Try.prog 21 = 1 := by kernel_rfl
theorem zcs_21 : zcs Try.prog 21 = some [.pv (.int .i32 0)] := by kernel_rfl
theorem ze_21 : zeroElem Try.prog 21 = some (.int .i32 0) := by kernel_rfl
theorem zok_21 : zok Try.prog 21 = true := by kernel_rfl
theorem tk_22 : tk Try.prog 22 = .int .u64 := by kernel_rfl
theorem tsh_22 : tsh Try.prog 22 = some (1, false) := by kernel_rfl
theorem co_22 : Program.cellsOf Try.prog 22 = 1 := by kernel_rfl
theorem zcs_22 : zcs Try.prog 22 = some [.pv (.int .u64 0)] := by kernel_rfl
theorem ze_22 : zeroElem Try.prog 22 = some (.int .u64 0) := by kernel_rfl
theorem zok_22 : zok Try.prog 22 = true := by kernel_rfl
theorem tk_23 : tk Try.prog 23 = .sl 5 1 1 false := by kernel_rfl
theorem tsh_23 : tsh Try.prog 23 = some (1, false) := by kernel_rfl
theorem co_23 : Program.cellsOf Try.prog 23 = 1 := by kernel_rfl
theorem zcs_23 : zcs Try.prog 23 = some [.nils] := by kernel_rfl
theorem ze_23 : zeroElem Try.prog 23 = some (.sl 1 []) := by kernel_rfl
theorem zok_23 : zok Try.prog 23 = true := by kernel_rfl
theorem tk_24 : tk Try.prog 24 = .sl 38 2 24 true := by kernel_rfl
theorem tsh_24 : tsh Try.prog 24 = some (1, false) := by kernel_rfl
theorem co_24 : Program.cellsOf Try.prog 24 = 1 := by kernel_rfl
theorem zcs_24 : zcs Try.prog 24 = some [.nils] := by kernel_rfl
theorem ze_24 : zeroElem Try.prog 24 = some (.sl 1 []) := by kernel_rfl
theorem zok_24 : zok Try.prog 24 = true := by kernel_rfl
theorem tk_25 : tk Try.prog 25 = .st [(0, 1, false), (1, 1, false), (2, 1, false), (3, 1, false)] := by kernel_rfl
theorem tsh_25 : tsh Try.prog 25 = some (4, true) := by kernel_rfl
theorem co_25 : Program.cellsOf Try.prog 25 = 4 := by kernel_rfl
theorem zcs_25 : zcs Try.prog 25 = some [.pv (.int .u64 0), .nils, .nils, .nils] := by kernel_rfl
theorem ze_25 : zeroElem Try.prog 25 = some (.agg [(.int .u64 0), (.sl 1 []), (.sl 1 []), (.sl 1 [])]) := by kernel_rfl
theorem zok_25 : zok Try.prog 25 = true := by kernel_rfl
theorem tk_26 : tk Try.prog 26 = .st [(0, 1, false), (1, 1, false), (2, 1, false), (3, 1, false)] := by kernel_rfl
theorem tsh_26 : tsh Try.prog 26 = some (4, true) := by kernel_rfl
theorem co_26 : Program.cellsOf Try.prog 26 = 4 := by kernel_rfl
theorem zcs_26 : zcs Try.prog 26 = some [.pv (.int .u64 0), .nils, .nils, .nils] := by kernel_rfl
theorem ze_26 : zeroElem Try.prog 26 = some (.agg [(.int .u64 0), (.sl 1 []), (.sl 1 []), (.sl 1 [])]) := by kernel_rfl
theorem zok_26 : zok Try.prog 26 = true := by kernel_rfl
theorem tk_27 : tk Try.prog 27 = .fn := by kernel_rfl
theorem tk_28 : tk Try.prog 28 = .fn := by kernel_rfl
theorem tk_29 : tk Try.prog 29 = .int .i64 := by kernel_rfl
theorem tsh_29 : tsh Try.prog 29 = some (1, false) := by kernel_rfl
theorem co_29 : Program.cellsOf Try.prog 29 = 1 := by kernel_rfl
theorem zcs_29 : zcs Try.prog 29 = some [.pv (.int .i64 0)] := by kernel_rfl
theorem ze_29 : zeroElem Try.prog 29 = some (.int .i64 0) := by kernel_rfl
theorem zok_29 : zok Try.prog 29 = true := by kernel_rfl
theorem tk_31 : tk Try.prog 31 = .fn := by kernel_rfl
theorem tk_32 : tk Try.prog 32 = .fn := by kernel_rfl
theorem tk_34 : tk Try.prog 34 = .fn := by kernel_rfl
theorem tk_35 : tk Try.prog 35 = .fn := by kernel_rfl
theorem tk_36 : tk Try.prog 36 = .fn := by kernel_rfl
theorem tk_37 : tk Try.prog 37 = .st [(0, 1, false), (1, 1, false)] := by kernel_rfl
theorem tsh_37 : tsh Try.prog 37 = some (2, true) := by kernel_rfl
theorem co_37 : Program.cellsOf Try.prog 37 = 2 := by kernel_rfl
theorem zcs_37 : zcs Try.prog 37 = some [.pv (.str []), .pv (.int .i64 0)] := by kernel_rfl
theorem ze_37 : zeroElem Try.prog 37 = some (.agg [(.str []), (.int .i64 0)]) := by kernel_rfl
theorem zok_37 : zok Try.prog 37 = true := by kernel_rfl
theorem tk_38 : tk Try.prog 38 = .st [(0, 1, false), (1, 1, false)] := by kernel_rfl
theorem tsh_38 : tsh Try.prog 38 = some (2, true) := by kernel_rfl
theorem co_38 : Program.cellsOf Try.prog 38 = 2 := by kernel_rfl
theorem zcs_38 : zcs Try.prog 38 = some [.pv (.str []), .pv (.int .i64 0)] := by kernel_rfl
theorem ze_38 : zeroElem Try.prog 38 = some (.agg [(.str []), (.int .i64 0)]) := by kernel_rfl
theorem zok_38 : zok Try.prog 38 = true := by kernel_rfl
theorem tk_39 : tk Try.prog 39 = .fn := by kernel_rfl
theorem tk_40 : tk Try.prog 40 = .fn := by kernel_rfl
theorem tk_41 : tk Try.prog 41 = .fn := by kernel_rfl
theorem tk_42 : tk Try.prog 42 = .fn := by kernel_rfl
theorem tk_43 : tk Try.prog 43 = .fn := by kernel_rfl
theorem tk_44 : tk Try.prog 44 = .fn := by kernel_rfl
theorem tk_45 : tk Try.prog 45 = .fn := by kernel_rfl
theorem tk_46 : tk Try.prog 46 = .sl 9 1 16 false := by kernel_rfl
theorem tsh_46 : tsh Try.prog 46 = some (1, false) := by kernel_rfl
theorem co_46 : Program.cellsOf Try.prog 46 = 1 := by kernel_rfl
theorem zcs_46 : zcs Try.prog 46 = some [.nils] := by kernel_rfl
theorem ze_46 : zeroElem Try.prog 46 = some (.sl 1 []) := by kernel_rfl
theorem zok_46 : zok Try.prog 46 = true := by kernel_rfl
theorem tk_47 : tk Try.prog 47 = .map 9 3 := by kernel_rfl
theorem tsh_47 : tsh Try.prog 47 = some (1, false) := by kernel_rfl
theorem co_47 : Program.cellsOf Try.prog 47 = 1 := by kernel_rfl
theorem tk_49 : tk Try.prog 49 = .fn := by kernel_rfl
theorem tk_50 : tk Try.prog 50 = .fn := by kernel_rfl
theorem tk_51 : tk Try.prog 51 = .fn := by kernel_rfl
theorem tk_52 : tk Try.prog 52 = .fn := by kernel_rfl
theorem tk_53 : tk Try.prog 53 = .fn := by kernel_rfl
theorem tk_54 : tk Try.prog 54 = .fn := by kernel_rfl
theorem tk_55 : tk Try.prog 55 = .st [(0, 1, false)] := by kernel_rfl
theorem tsh_55 : tsh Try.prog 55 = some (1, true) := by kernel_rfl
theorem co_55 : Program.cellsOf Try.prog 55 = 1 := by kernel_rfl
theorem zcs_55 : zcs Try.prog 55 = some [.pv (.int .i64 0)] := by kernel_rfl
theorem ze_55 : zeroElem Try.prog 55 = some (.agg [(.int .i64 0)]) := by kernel_rfl
theorem zok_55 : zok Try.prog 55 = true := by kernel_rfl
theorem tk_56 : tk Try.prog 56 = .st [(0, 1, false)] := by kernel_rfl
theorem tsh_56 : tsh Try.prog 56 = some (1, true) := by kernel_rfl
theorem co_56 : Program.cellsOf Try.prog 56 = 1 := by kernel_rfl
theorem zcs_56 : zcs Try.prog 56 = some [.pv (.int .i64 0)] := by kernel_rfl
theorem ze_56 : zeroElem Try.prog 56 = some (.agg [(.int .i64 0)]) := by kernel_rfl
theorem zok_56 : zok Try.prog 56 = true := by kernel_rfl
theorem tk_57 : tk Try.prog 57 = .ptr 87 := by kernel_rfl
theorem tsh_57 : tsh Try.prog 57 = some (1, false) := by kernel_rfl
theorem co_57 : Program.cellsOf Try.prog 57 = 1 := by kernel_rfl
theorem zcs_57 : zcs Try.prog 57 = some [.pv .nilp] := by kernel_rfl
theorem ze_57 : zeroElem Try.prog 57 = some .nilp := by kernel_rfl
theorem zok_57 : zok Try.prog 57 = true := by kernel_rfl
theorem tk_58 : tk Try.prog 58 = .fn := by kernel_rfl
theorem tk_59 : tk Try.prog 59 = .fn := by kernel_rfl
theorem tk_60 : tk Try.prog 60 = .fn := by kernel_rfl
theorem tk_61 : tk Try.prog 61 = .fn := by kernel_rfl
theorem tk_63 : tk Try.prog 63 = .fn := by kernel_rfl
theorem tk_64 : tk Try.prog 64 = .fn := by kernel_rfl
theorem tk_65 : tk Try.prog 65 = .fn := by kernel_rfl
theorem tk_66 : tk Try.prog 66 = .fn := by kernel_rfl
theorem tk_67 : tk Try.prog 67 = .fn := by kernel_rfl
theorem tk_68 : tk Try.prog 68 = .ptr 70 := by kernel_rfl
theorem tsh_68 : tsh Try.prog 68 = some (1, false) := by kernel_rfl
theorem co_68 : Program.cellsOf Try.prog 68 = 1 := by kernel_rfl
theorem zcs_68 : zcs Try.prog 68 = some [.pv .nilp] := by kernel_rfl
theorem ze_68 : zeroElem Try.prog 68 = some .nilp := by kernel_rfl
theorem zok_68 : zok Try.prog 68 = true := by kernel_rfl
theorem tk_69 : tk Try.prog 69 = .st [(0, 1, false), (1, 1, false)] := by kernel_rfl
theorem tsh_69 : tsh Try.prog 69 = some (2, true) := by kernel_rfl
theorem co_69 : Program.cellsOf Try.prog 69 = 2 := by kernel_rfl
theorem zcs_69 : zcs Try.prog 69 = some [.nils, .pv (.int .i64 0)] := by kernel_rfl
theorem ze_69 : zeroElem Try.prog 69 = some (.agg [(.sl 1 []), (.int .i64 0)]) := by kernel_rfl
theorem zok_69 : zok Try.prog 69 = true := by kernel_rfl
theorem tk_70 : tk Try.prog 70 = .st [(0, 1, false), (1, 1, false)] := by kernel_rfl
theorem tsh_70 : tsh Try.prog 70 = some (2, true) := by kernel_rfl
theorem co_70 : Program.cellsOf Try.prog 70 = 2 := by kernel_rfl
theorem zcs_70 : zcs Try.prog 70 = some [.nils, .pv (.int .i64 0)] := by kernel_rfl
theorem ze_70 : zeroElem Try.prog 70 = some (.agg [(.sl 1 []), (.int .i64 0)]) := by kernel_rfl
theorem zok_70 : zok Try.prog 70 = true := by kernel_rfl
theorem tk_71 : tk Try.prog 71 = .fn := by kernel_rfl
theorem tk_72 : tk Try.prog 72 = .fn := by kernel_rfl
theorem tk_73 : tk Try.prog 73 = .fn := by kernel_rfl
theorem tk_74 : tk Try.prog 74 = .sl 4 1 1 false := by kernel_rfl
theorem tsh_74 : tsh Try.prog 74 = some (1, false) := by kernel_rfl
theorem co_74 : Program.cellsOf Try.prog 74 = 1 := by kernel_rfl
theorem zcs_74 : zcs Try.prog 74 = some [.nils] := by kernel_rfl
theorem ze_74 : zeroElem Try.prog 74 = some (.sl 1 []) := by kernel_rfl
theorem zok_74 : zok Try.prog 74 = true := by kernel_rfl
theorem tk_75 : tk Try.prog 75 = .fn := by kernel_rfl
theorem tk_76 : tk Try.prog 76 = .fn := by kernel_rfl
theorem tk_77 : tk Try.prog 77 = .fn := by kernel_rfl
theorem tk_78 : tk Try.prog 78 = .fn := by kernel_rfl
theorem tk_79 : tk Try.prog 79 = .fn := by kernel_rfl
theorem tk_81 : tk Try.prog 81 = .fn := by kernel_rfl
theorem tk_82 : tk Try.prog 82 = .int .u64 := by kernel_rfl
theorem tsh_82 : tsh Try.prog 82 = some (1, false) := by kernel_rfl
theorem co_82 : Program.cellsOf Try.prog 82 = 1 := by kernel_rfl
theorem zcs_82 : zcs Try.prog 82 = some [.pv (.int .u64 0)] := by kernel_rfl
theorem ze_82 : zeroElem Try.prog 82 = some (.int .u64 0) := by kernel_rfl
theorem zok_82 : zok Try.prog 82 = true := by kernel_rfl
theorem tk_83 : tk Try.prog 83 = .fn := by kernel_rfl
theorem tk_84 : tk Try.prog 84 = .st [(0, 1, false)] := by kernel_rfl
theorem tsh_84 : tsh Try.prog 84 = some (1, true) := by kernel_rfl
theorem co_84 : Program.cellsOf Try.prog 84 = 1 := by kernel_rfl
theorem zcs_84 : zcs Try.prog 84 = some [.nils] := by kernel_rfl
theorem ze_84 : zeroElem Try.prog 84 = some (.agg [(.sl 1 [])]) := by kernel_rfl
theorem zok_84 : zok Try.prog 84 = true := by kernel_rfl
theorem tk_85 : tk Try.prog 85 = .st [(0, 1, false)] := by kernel_rfl
theorem tsh_85 : tsh Try.prog 85 = some (1, true) := by kernel_rfl
theorem co_85 : Program.cellsOf Try.prog 85 = 1 := by kernel_rfl
theorem zcs_85 : zcs Try.prog 85 = some [.nils] := by kernel_rfl
theorem ze_85 : zeroElem Try.prog 85 = some (.agg [(.sl 1 [])]) := by kernel_rfl
theorem zok_85 : zok Try.prog 85 = true := by kernel_rfl
theorem tk_86 : tk Try.prog 86 = .st [(0, 1, true)] := by kernel_rfl
theorem tsh_86 : tsh Try.prog 86 = some (1, true) := by kernel_rfl
theorem co_86 : Program.cellsOf Try.prog 86 = 1 := by kernel_rfl
theorem zcs_86 : zcs Try.prog 86 = some [.nils] := by kernel_rfl
theorem ze_86 : zeroElem Try.prog 86 = some (.agg [(.sl 1 [])]) := by kernel_rfl
theorem zok_86 : zok Try.prog 86 = true := by kernel_rfl
theorem tk_87 : tk Try.prog 87 = .st [(0, 1, true)] := by kernel_rfl
theorem tsh_87 : tsh Try.prog 87 = some (1, true) := by kernel_rfl
theorem co_87 : Program.cellsOf Try.prog 87 = 1 := by kernel_rfl
theorem zcs_87 : zcs Try.prog 87 = some [.nils] := by kernel_rfl
theorem ze_87 : zeroElem Try.prog 87 = some (.agg [(.sl 1 [])]) := by kernel_rfl
theorem zok_87 : zok Try.prog 87 = true := by kernel_rfl
theorem tk_88 : tk Try.prog 88 = .fn := by kernel_rfl
theorem tk_89 : tk Try.prog 89 = .fn := by kernel_rfl
theorem tk_90 : tk Try.prog 90 = .fn := by kernel_rfl
theorem tk_91 : tk Try.prog 91 = .fn := by kernel_rfl
theorem tk_92 : tk Try.prog 92 = .fn := by kernel_rfl
theorem tk_94 : tk Try.prog 94 = .fn := by kernel_rfl
theorem tk_96 : tk Try.prog 96 = .fn := by kernel_rfl
theorem tk_97 : tk Try.prog 97 = .fn := by kernel_rfl
theorem tk_98 : tk Try.prog 98 = .fn := by kernel_rfl
theorem tk_99 : tk Try.prog 99 = .fn := by kernel_rfl
theorem tk_100 : tk Try.prog 100 = .fn := by kernel_rfl
theorem tk_101 : tk Try.prog 101 = .fn := by kernel_rfl
theorem tsh_101 : tsh Try.prog 101 = some (1, false) := by kernel_rfl
theorem co_101 : Program.cellsOf Try.prog 101 = 1 := by kernel_rfl
theorem zcs_101 : zcs Try.prog 101 = some [.pv .nilf] := by kernel_rfl
theorem ze_101 : zeroElem Try.prog 101 = some .nilf := by kernel_rfl
theorem zok_101 : zok Try.prog 101 = true := by kernel_rfl
theorem tk_102 : tk Try.prog 102 = .fn := by kernel_rfl
theorem tk_103 : tk Try.prog 103 = .fn := by kernel_rfl
theorem tk_104 : tk Try.prog 104 = .fn := by kernel_rfl
theorem tk_105 : tk Try.prog 105 = .fn := by kernel_rfl
theorem tk_107 : tk Try.prog 107 = .fn := by kernel_rfl
theorem tk_108 : tk Try.prog 108 = .ptr 85 := by kernel_rfl
theorem tsh_108 : tsh Try.prog 108 = some (1, false) := by kernel_rfl
theorem co_108 : Program.cellsOf Try.prog 108 = 1 := by kernel_rfl
theorem zcs_108 : zcs Try.prog 108 = some [.pv .nilp] := by kernel_rfl
theorem ze_108 : zeroElem Try.prog 108 = some .nilp := by kernel_rfl
theorem zok_108 : zok Try.prog 108 = true := by kernel_rfl
theorem tk_109 : tk Try.prog 109 = .sl 23 1 24 false := by kernel_rfl
theorem tsh_109 : tsh Try.prog 109 = some (1, false) := by kernel_rfl
theorem co_109 : Program.cellsOf Try.prog 109 = 1 := by kernel_rfl
theorem zcs_109 : zcs Try.prog 109 = some [.nils] := by kernel_rfl
theorem ze_109 : zeroElem Try.prog 109 = some (.sl 1 []) := by kernel_rfl
theorem zok_109 : zok Try.prog 109 = true := by kernel_rfl
theorem tk_110 : tk Try.prog 110 = .arr 64 5 1 false := by kernel_rfl
theorem tsh_110 : tsh Try.prog 110 = some (64, true) := by kernel_rfl
theorem co_110 : Program.cellsOf Try.prog 110 = 64 := by kernel_rfl
theorem zcs_110 : zcs Try.prog 110 = some [.pv (.int .u8 0), .pv (.int .u8 0), .pv (.int .u8 0), .pv (.int .u8 0), .pv (.int .u8 0), .pv (.int .u8 0), .pv (.int .u8 0), .pv (.int .u8 0), .pv (.int .u8 0), .pv (.int .u8 0), .pv (.int .u8 0), .pv (.int .u8 0), .pv (.int .u8 0), .pv (.int .u8 0), .pv (.int .u8 0), .pv (.int .u8 0), .pv (.int .u8 0), .pv (.int .u8 0), .pv (.int .u8 0), .pv (.int .u8 0), .pv (.int .u8 0), .pv (.int .u8 0), .pv (.int .u8 0), .pv (.int .u8 0), .pv (.int .u8 0), .pv (.int .u8 0), .pv (.int .u8 0), .pv (.int .u8 0), .pv (.int .u8 0), .pv (.int .u8 0), .pv (.int .u8 0), .pv (.int .u8 0), .pv (.int .u8 0), .pv (.int .u8 0), .pv (.int .u8 0), .pv (.int .u8 0), .pv (.int .u8 0), .pv (.int .u8 0), .pv (.int .u8 0), .pv (.int .u8 0), .pv (.int .u8 0), .pv (.int .u8 0), .pv (.int .u8 0), .pv (.int .u8 0), .pv (.int .u8 0), .pv (.int .u8 0), .pv (.int .u8 0), .pv (.int .u8 0), .pv (.int .u8 0), .pv (.int .u8 0), .pv (.int .u8 0), .pv (.int .u8 0), .pv (.int .u8 0), .pv (.int .u8 0), .pv (.int .u8 0), .pv (.int .u8 0), .pv (.int .u8 0), .pv (.int .u8 0), .pv (.int .u8 0), .pv (.int .u8 0), .pv (.int .u8 0), .pv (.int .u8 0), .pv (.int .u8 0), .pv (.int .u8 0)] := by kernel_rfl
theorem ze_110 : zeroElem Try.prog 110 = some (.agg [(.int .u8 0), (.int .u8 0), (.int .u8 0), (.int .u8 0), (.int .u8 0), (.int .u8 0), (.int .u8 0), (.int .u8 0), (.int .u8 0), (.int .u8 0), (.int .u8 0), (.int .u8 0), (.int .u8 0), (.int .u8 0), (.int .u8 0), (.int .u8 0), (.int .u8 0), (.int .u8 0), (.int .u8 0), (.int .u8 0), (.int .u8 0), (.int .u8 0), (.int .u8 0), (.int .u8 0), (.int .u8 0), (.int .u8 0), (.int .u8 0), (.int .u8 0), (.int .u8 0), (.int .u8 0), (.int .u8 0), (.int .u8 0), (.int .u8 0), (.int .u8 0), (.int .u8 0), (.int .u8 0), (.int .u8 0), (.int .u8 0), (.int .u8 0), (.int .u8 0), (.int .u8 0), (.int .u8 0), (.int .u8 0), (.int .u8 0), (.int .u8 0), (.int .u8 0), (.int .u8 0), (.int .u8 0), (.int .u8 0), (.int .u8 0), (.int .u8 0), (.int .u8 0), (.int .u8 0), (.int .u8 0), (.int .u8 0), (.int .u8 0), (.int .u8 0), (.int .u8 0), (.int .u8 0), (.int .u8 0), (.int .u8 0), (.int .u8 0), (.int .u8 0), (.int .u8 0)]) := by kernel_rfl
theorem zok_110 : zok Try.prog 110 = true := by kernel_rfl
theorem tk_111 : tk Try.prog 111 = .fn := by kernel_rfl
theorem tk_112 : tk Try.prog 112 = .sl 116 1 4 false := by kernel_rfl
theorem tsh_112 : tsh Try.prog 112 = some (1, false) := by kernel_rfl
theorem co_112 : Program.cellsOf Try.prog 112 = 1 := by kernel_rfl
theorem zcs_112 : zcs Try.prog 112 = some [.nils] := by kernel_rfl
theorem ze_112 : zeroElem Try.prog 112 = some (.sl 1 []) := by kernel_rfl
theorem zok_112 : zok Try.prog 112 = true := by kernel_rfl
theorem tk_114 : tk Try.prog 114 = .fn := by kernel_rfl
theorem tk_115 : tk Try.prog 115 = .fn := by kernel_rfl
theorem tk_116 : tk Try.prog 116 = .int .u32 := by kernel_rfl
theorem tsh_116 : tsh Try.prog 116 = some (1, false) := by kernel_rfl
theorem co_116 : Program.cellsOf Try.prog 116 = 1 := by kernel_rfl
theorem zcs_116 : zcs Try.prog 116 = some [.pv (.int .u32 0)] := by kernel_rfl
theorem ze_116 : zeroElem Try.prog 116 = some (.int .u32 0) := by kernel_rfl
theorem zok_116 : zok Try.prog 116 = true := by kernel_rfl
theorem tk_117 : tk Try.prog 117 = .fn := by kernel_rfl
theorem tk_118 : tk Try.prog 118 = .fn := by kernel_rfl
theorem tk_119 : tk Try.prog 119 = .int .i64 := by kernel_rfl
theorem tsh_119 : tsh Try.prog 119 = some (1, false) := by kernel_rfl
theorem co_119 : Program.cellsOf Try.prog 119 = 1 := by kernel_rfl
theorem zcs_119 : zcs Try.prog 119 = some [.pv (.int .i64 0)] := by kernel_rfl
theorem ze_119 : zeroElem Try.prog 119 = some (.int .i64 0) := by kernel_rfl
theorem zok_119 : zok Try.prog 119 = true := by kernel_rfl
theorem tk_121 : tk Try.prog 121 = .fn := by kernel_rfl
theorem tk_122 : tk Try.prog 122 = .fn := by kernel_rfl
theorem tk_123 : tk Try.prog 123 = .fn := by kernel_rfl
theorem tk_124 : tk Try.prog 124 = .fn := by kernel_rfl
theorem tk_125 : tk Try.prog 125 = .fn := by kernel_rfl
theorem tk_126 : tk Try.prog 126 = .fn := by kernel_rfl
theorem tk_127 : tk Try.prog 127 = .fn := by kernel_rfl
theorem tk_128 : tk Try.prog 128 = .fn := by kernel_rfl
theorem tk_129 : tk Try.prog 129 = .fn := by kernel_rfl
theorem tsh_129 : tsh Try.prog 129 = some (1, false) := by kernel_rfl
theorem co_129 : Program.cellsOf Try.prog 129 = 1 := by kernel_rfl
theorem zcs_129 : zcs Try.prog 129 = some [.pv .nilf] := by kernel_rfl
theorem ze_129 : zeroElem Try.prog 129 = some .nilf := by kernel_rfl
theorem zok_129 : zok Try.prog 129 = true := by kernel_rfl
theorem tk_130 : tk Try.prog 130 = .fn := by kernel_rfl
theorem tk_131 : tk Try.prog 131 = .ptr 135 := by kernel_rfl
theorem tsh_131 : tsh Try.prog 131 = some (1, false) := by kernel_rfl
theorem co_131 : Program.cellsOf Try.prog 131 = 1 := by kernel_rfl
theorem zcs_131 : zcs Try.prog 131 = some [.pv .nilp] := by kernel_rfl
theorem ze_131 : zeroElem Try.prog 131 = some .nilp := by kernel_rfl
theorem zok_131 : zok Try.prog 131 = true := by kernel_rfl
theorem tk_132 : tk Try.prog 132 = .arr 8 116 1 false := by kernel_rfl
theorem tsh_132 : tsh Try.prog 132 = some (8, true) := by kernel_rfl
theorem co_132 : Program.cellsOf Try.prog 132 = 8 := by kernel_rfl
theorem zcs_132 : zcs Try.prog 132 = some [.pv (.int .u32 0), .pv (.int .u32 0), .pv (.int .u32 0), .pv (.int .u32 0), .pv (.int .u32 0), .pv (.int .u32 0), .pv (.int .u32 0), .pv (.int .u32 0)] := by kernel_rfl
theorem ze_132 : zeroElem Try.prog 132 = some (.agg [(.int .u32 0), (.int .u32 0), (.int .u32 0), (.int .u32 0), (.int .u32 0), (.int .u32 0), (.int .u32 0), (.int .u32 0)]) := by kernel_rfl
theorem zok_132 : zok Try.prog 132 = true := by kernel_rfl
theorem tk_133 : tk Try.prog 133 = .arr 8 116 1 false := by kernel_rfl
theorem tsh_133 : tsh Try.prog 133 = some (8, true) := by kernel_rfl
theorem co_133 : Program.cellsOf Try.prog 133 = 8 := by kernel_rfl
theorem zcs_133 : zcs Try.prog 133 = some [.pv (.int .u32 0), .pv (.int .u32 0), .pv (.int .u32 0), .pv (.int .u32 0), .pv (.int .u32 0), .pv (.int .u32 0), .pv (.int .u32 0), .pv (.int .u32 0)] := by kernel_rfl
theorem ze_133 : zeroElem Try.prog 133 = some (.agg [(.int .u32 0), (.int .u32 0), (.int .u32 0), (.int .u32 0), (.int .u32 0), (.int .u32 0), (.int .u32 0), (.int .u32 0)]) := by kernel_rfl
theorem zok_133 : zok Try.prog 133 = true := by kernel_rfl
theorem tk_134 : tk Try.prog 134 = .st [(0, 1, false), (1, 8, true), (9, 64, true), (73, 1, false)] := by kernel_rfl
theorem tsh_134 : tsh Try.prog 134 = some (74, true) := by kernel_rfl
theorem co_134 : Program.cellsOf Try.prog 134 = 74 := by kernel_rfl
theorem zcs_134 : zcs Try.prog 134 = some [.pv (.bool false), .pv (.int .u32 0), .pv (.int .u32 0), .pv (.int .u32 0), .pv (.int .u32 0), .pv (.int .u32 0), .pv (.int .u32 0), .pv (.int .u32 0), .pv (.int .u32 0), .pv (.int .u8 0), .pv (.int .u8 0), .pv (.int .u8 0), .pv (.int .u8 0), .pv (.int .u8 0), .pv (.int .u8 0), .pv (.int .u8 0), .pv (.int .u8 0), .pv (.int .u8 0), .pv (.int .u8 0), .pv (.int .u8 0), .pv (.int .u8 0), .pv (.int .u8 0), .pv (.int .u8 0), .pv (.int .u8 0), .pv (.int .u8 0), .pv (.int .u8 0), .pv (.int .u8 0), .pv (.int .u8 0), .pv (.int .u8 0), .pv (.int .u8 0), .pv (.int .u8 0), .pv (.int .u8 0), .pv (.int .u8 0), .pv (.int .u8 0), .pv (.int .u8 0), .pv (.int .u8 0), .pv (.int .u8 0), .pv (.int .u8 0), .pv (.int .u8 0), .pv (.int .u8 0), .pv (.int .u8 0), .pv (.int .u8 0), .pv (.int .u8 0), .pv (.int .u8 0), .pv (.int .u8 0), .pv (.int .u8 0), .pv (.int .u8 0), .pv (.int .u8 0), .pv (.int .u8 0), .pv (.int .u8 0), .pv (.int .u8 0), .pv (.int .u8 0), .pv (.int .u8 0), .pv (.int .u8 0), .pv (.int .u8 0), .pv (.int .u8 0), .pv (.int .u8 0), .pv (.int .u8 0), .pv (.int .u8 0), .pv (.int .u8 0), .pv (.int .u8 0), .pv (.int .u8 0), .pv (.int .u8 0), .pv (.int .u8 0), .pv (.int .u8 0), .pv (.int .u8 0), .pv (.int .u8 0), .pv (.int .u8 0), .pv (.int .u8 0), .pv (.int .u8 0), .pv (.int .u8 0), .pv (.int .u8 0), .pv (.int .u8 0), .pv (.int .i64 0)] := by kernel_rfl
theorem ze_134 : zeroElem Try.prog 134 = some (.agg [(.bool false), (.int .u32 0), (.int .u32 0), (.int .u32 0), (.int .u32 0), (.int .u32 0), (.int .u32 0), (.int .u32 0), (.int .u32 0), (.int .u8 0), (.int .u8 0), (.int .u8 0), (.int .u8 0), (.int .u8 0), (.int .u8 0), (.int .u8 0), (.int .u8 0), (.int .u8 0), (.int .u8 0), (.int .u8 0), (.int .u8 0), (.int .u8 0), (.int .u8 0), (.int .u8 0), (.int .u8 0), (.int .u8 0), (.int .u8 0), (.int .u8 0), (.int .u8 0), (.int .u8 0), (.int .u8 0), (.int .u8 0), (.int .u8 0), (.int .u8 0), (.int .u8 0), (.int .u8 0), (.int .u8 0), (.int .u8 0), (.int .u8 0), (.int .u8 0), (.int .u8 0), (.int .u8 0), (.int .u8 0), (.int .u8 0), (.int .u8 0), (.int .u8 0), (.int .u8 0), (.int .u8 0), (.int .u8 0), (.int .u8 0), (.int .u8 0), (.int .u8 0), (.int .u8 0), (.int .u8 0), (.int .u8 0), (.int .u8 0), (.int .u8 0), (.int .u8 0), (.int .u8 0), (.int .u8 0), (.int .u8 0), (.int .u8 0), (.int .u8 0), (.int .u8 0), (.int .u8 0), (.int .u8 0), (.int .u8 0), (.int .u8 0), (.int .u8 0), (.int .u8 0), (.int .u8 0), (.int .u8 0), (.int .u8 0), (.int .i64 0)]) := by kernel_rfl
theorem zok_134 : zok Try.prog 134 = true := by kernel_rfl
theorem tk_135 : tk Try.prog 135 = .st [(0, 1, false), (1, 8, true), (9, 64, true), (73, 1, false)] := by kernel_rfl
theorem tsh_135 : tsh Try.prog 135 = some (74, true) := by kernel_rfl
theorem co_135 : Program.cellsOf Try.prog 135 = 74 := by kernel_rfl
theorem zcs_135 : zcs Try.prog 135 = some [.pv (.bool false), .pv (.int .u32 0), .pv (.int .u32 0), .pv (.int .u32 0), .pv (.int .u32 0), .pv (.int .u32 0), .pv (.int .u32 0), .pv (.int .u32 0), .pv (.int .u32 0), .pv (.int .u8 0), .pv (.int .u8 0), .pv (.int .u8 0), .pv (.int .u8 0), .pv (.int .u8 0), .pv (.int .u8 0), .pv (.int .u8 0), .pv (.int .u8 0), .pv (.int .u8 0), .pv (.int .u8 0), .pv (.int .u8 0), .pv (.int .u8 0), .pv (.int .u8 0), .pv (.int .u8 0), .pv (.int .u8 0), .pv (.int .u8 0), .pv (.int .u8 0), .pv (.int .u8 0), .pv (.int .u8 0), .pv (.int .u8 0), .pv (.int .u8 0), .pv (.int .u8 0), .pv (.int .u8 0), .pv (.int .u8 0), .pv (.int .u8 0), .pv (.int .u8 0), .pv (.int .u8 0), .pv (.int .u8 0), .pv (.int .u8 0), .pv (.int .u8 0), .pv (.int .u8 0), .pv (.int .u8 0), .pv (.int .u8 0), .pv (.int .u8 0), .pv (.int .u8 0), .pv (.int .u8 0), .pv (.int .u8 0), .pv (.int .u8 0), .pv (.int .u8 0), .pv (.int .u8 0), .pv (.int .u8 0), .pv (.int .u8 0), .pv (.int .u8 0), .pv (.int .u8 0), .pv (.int .u8 0), .pv (.int .u8 0), .pv (.int .u8 0), .pv (.int .u8 0), .pv (.int .u8 0), .pv (.int .u8 0), .pv (.int .u8 0), .pv (.int .u8 0), .pv (.int .u8 0), .pv (.int .u8 0), .pv (.int .u8 0), .pv (.int .u8 0), .pv (.int .u8 0), .pv (.int .u8 0), .pv (.int .u8 0), .pv (.int .u8 0), .pv (.int .u8 0), .pv (.int .u8 0), .pv (.int .u8 0), .pv (.int .u8 0), .pv (.int .i64 0)] := by kernel_rfl
theorem ze_135 : zeroElem Try.prog 135 = some (.agg [(.bool false), (.int .u32 0), (.int .u32 0), (.int .u32 0), (.int .u32 0), (.int .u32 0), (.int .u32 0), (.int .u32 0), (.int .u32 0), (.int .u8 0), (.int .u8 0), (.int .u8 0), (.int .u8 0), (.int .u8 0), (.int .u8 0), (.int .u8 0), (.int .u8 0), (.int .u8 0), (.int .u8 0), (.int .u8 0), (.int .u8 0), (.int .u8 0), (.int .u8 0), (.int .u8 0), (.int .u8 0), (.int .u8 0), (.int .u8 0), (.int .u8 0), (.int .u8 0), (.int .u8 0), (.int .u8 0), (.int .u8 0), (.int .u8 0), (.int .u8 0), (.int .u8 0), (.int .u8 0), (.int .u8 0), (.int .u8 0), (.int .u8 0), (.int .u8 0), (.int .u8 0), (.int .u8 0), (.int .u8 0), (.int .u8 0), (.int .u8 0), (.int .u8 0), (.int .u8 0), (.int .u8 0), (.int .u8 0), (.int .u8 0), (.int .u8 0), (.int .u8 0), (.int .u8 0), (.int .u8 0), (.int .u8 0), (.int .u8 0), (.int .u8 0), (.int .u8 0), (.int .u8 0), (.int .u8 0), (.int .u8 0), (.int .u8 0), (.int .u8 0), (.int .u8 0), (.int .u8 0), (.int .u8 0), (.int .u8 0), (.int .u8 0), (.int .u8 0), (.int .u8 0), (.int .u8 0), (.int .u8 0), (.int .u8 0), (.int .i64 0)]) := by kernel_rfl
theorem zok_135 : zok Try.prog 135 = true := by kernel_rfl
theorem tk_136 : tk Try.prog 136 = .fn := by kernel_rfl
theorem tk_137 : tk Try.prog 137 = .fn := by kernel_rfl
theorem tk_138 : tk Try.prog 138 = .fn := by kernel_rfl
theorem tk_139 : tk Try.prog 139 = .fn := by kernel_rfl
theorem tk_140 : tk Try.prog 140 = .int .u64 := by kernel_rfl
theorem tsh_140 : tsh Try.prog 140 = some (1, false) := by kernel_rfl
theorem co_140 : Program.cellsOf Try.prog 140 = 1 := by kernel_rfl
theorem zcs_140 : zcs Try.prog 140 = some [.pv (.int .u64 0)] := by kernel_rfl
theorem ze_140 : zeroElem Try.prog 140 = some (.int .u64 0) := by kernel_rfl
theorem zok_140 : zok Try.prog 140 = true := by kernel_rfl
theorem tk_141 : tk Try.prog 141 = .fn := by kernel_rfl
theorem tk_142 : tk Try.prog 142 = .fn := by kernel_rfl
theorem tk_143 : tk Try.prog 143 = .ptr 3 := by kernel_rfl
theorem tsh_143 : tsh Try.prog 143 = some (1, false) := by kernel_rfl
theorem co_143 : Program.cellsOf Try.prog 143 = 1 := by kernel_rfl
theorem zcs_143 : zcs Try.prog 143 = some [.pv .nilp] := by kernel_rfl
theorem ze_143 : zeroElem Try.prog 143 = some .nilp := by kernel_rfl
theorem zok_143 : zok Try.prog 143 = true := by kernel_rfl
theorem tk_144 : tk Try.prog 144 = .fn := by kernel_rfl
theorem tk_145 : tk Try.prog 145 = .fn := by kernel_rfl
theorem tk_146 : tk Try.prog 146 = .fn := by kernel_rfl
theorem tk_147 : tk Try.prog 147 = .fn := by kernel_rfl
theorem tk_148 : tk Try.prog 148 = .ptr 140 := by kernel_rfl
theorem tsh_148 : tsh Try.prog 148 = some (1, false) := by kernel_rfl
theorem co_148 : Program.cellsOf Try.prog 148 = 1 := by kernel_rfl
theorem zcs_148 : zcs Try.prog 148 = some [.pv .nilp] := by kernel_rfl
theorem ze_148 : zeroElem Try.prog 148 = some .nilp := by kernel_rfl
theorem zok_148 : zok Try.prog 148 = true := by kernel_rfl
theorem tk_150 : tk Try.prog 150 = .fn := by kernel_rfl
theorem tk_151 : tk Try.prog 151 = .arr 64 116 1 false := by kernel_rfl
theorem tsh_151 : tsh Try.prog 151 = some (64, true) := by kernel_rfl
theorem co_151 : Program.cellsOf Try.prog 151 = 64 := by kernel_rfl
theorem zcs_151 : zcs Try.prog 151 = some [.pv (.int .u32 0), .pv (.int .u32 0), .pv (.int .u32 0), .pv (.int .u32 0), .pv (.int .u32 0), .pv (.int .u32 0), .pv (.int .u32 0), .pv (.int .u32 0), .pv (.int .u32 0), .pv (.int .u32 0), .pv (.int .u32 0), .pv (.int .u32 0), .pv (.int .u32 0), .pv (.int .u32 0), .pv (.int .u32 0), .pv (.int .u32 0), .pv (.int .u32 0), .pv (.int .u32 0), .pv (.int .u32 0), .pv (.int .u32 0), .pv (.int .u32 0), .pv (.int .u32 0), .pv (.int .u32 0), .pv (.int .u32 0), .pv (.int .u32 0), .pv (.int .u32 0), .pv (.int .u32 0), .pv (.int .u32 0), .pv (.int .u32 0), .pv (.int .u32 0), .pv (.int .u32 0), .pv (.int .u32 0), .pv (.int .u32 0), .pv (.int .u32 0), .pv (.int .u32 0), .pv (.int .u32 0), .pv (.int .u32 0), .pv (.int .u32 0), .pv (.int .u32 0), .pv (.int .u32 0), .pv (.int .u32 0), .pv (.int .u32 0), .pv (.int .u32 0), .pv (.int .u32 0), .pv (.int .u32 0), .pv (.int .u32 0), .pv (.int .u32 0), .pv (.int .u32 0), .pv (.int .u32 0), .pv (.int .u32 0), .pv (.int .u32 0), .pv (.int .u32 0), .pv (.int .u32 0), .pv (.int .u32 0), .pv (.int .u32 0), .pv (.int .u32 0), .pv (.int .u32 0), .pv (.int .u32 0), .pv (.int .u32 0), .pv (.int .u32 0), .pv (.int .u32 0), .pv (.int .u32 0), .pv (.int .u32 0), .pv (.int .u32 0)] := by kernel_rfl
theorem ze_151 : zeroElem Try.prog 151 = some (.agg [(.int .u32 0), (.int .u32 0), (.int .u32 0), (.int .u32 0), (.int .u32 0), (.int .u32 0), (.int .u32 0), (.int .u32 0), (.int .u32 0), (.int .u32 0), (.int .u32 0), (.int .u32 0), (.int .u32 0), (.int .u32 0), (.int .u32 0), (.int .u32 0), (.int .u32 0), (.int .u32 0), (.int .u32 0), (.int .u32 0), (.int .u32 0), (.int .u32 0), (.int .u32 0), (.int .u32 0), (.int .u32 0), (.int .u32 0), (.int .u32 0), (.int .u32 0), (.int .u32 0), (.int .u32 0), (.int .u32 0), (.int .u32 0), (.int .u32 0), (.int .u32 0), (.int .u32 0), (.int .u32 0), (.int .u32 0), (.int .u32 0), (.int .u32 0), (.int .u32 0), (.int .u32 0), (.int .u32 0), (.int .u32 0), (.int .u32 0), (.int .u32 0), (.int .u32 0), (.int .u32 0), (.int .u32 0), (.int .u32 0), (.int .u32 0), (.int .u32 0), (.int .u32 0), (.int .u32 0), (.int .u32 0), (.int .u32 0), (.int .u32 0), (.int .u32 0), (.int .u32 0), (.int .u32 0), (.int .u32 0), (.int .u32 0), (.int .u32 0), (.int .u32 0), (.int .u32 0)]) := by kernel_rfl
theorem zok_151 : zok Try.prog 151 = true := by kernel_rfl
theorem tk_152 : tk Try.prog 152 = .fn := by kernel_rfl
theorem tk_153 : tk Try.prog 153 = .fn := by kernel_rfl
theorem tk_154 : tk Try.prog 154 = .fn := by kernel_rfl
theorem tk_155 : tk Try.prog 155 = .fn := by kernel_rfl
theorem tk_156 : tk Try.prog 156 = .st [(0, 1, false), (1, 1, false), (2, 1, false), (3, 1, false)] := by kernel_rfl
theorem tsh_156 : tsh Try.prog 156 = some (4, true) := by kernel_rfl
theorem co_156 : Program.cellsOf Try.prog 156 = 4 := by kernel_rfl
theorem zcs_156 : zcs Try.prog 156 = some [.pv .nilp, .pv .nilp, .pv .nilp, .pv (.str [])] := by kernel_rfl
theorem ze_156 : zeroElem Try.prog 156 = some (.agg [.nilp, .nilp, .nilp, (.str [])]) := by kernel_rfl
theorem zok_156 : zok Try.prog 156 = true := by kernel_rfl
theorem tk_157 : tk Try.prog 157 = .st [(0, 1, false), (1, 1, false), (2, 1, false), (3, 1, false)] := by kernel_rfl
theorem tsh_157 : tsh Try.prog 157 = some (4, true) := by kernel_rfl
theorem co_157 : Program.cellsOf Try.prog 157 = 4 := by kernel_rfl
theorem zcs_157 : zcs Try.prog 157 = some [.pv .nilp, .pv .nilp, .pv .nilp, .pv (.str [])] := by kernel_rfl
theorem ze_157 : zeroElem Try.prog 157 = some (.agg [.nilp, .nilp, .nilp, (.str [])]) := by kernel_rfl
theorem zok_157 : zok Try.prog 157 = true := by kernel_rfl
theorem tk_158 : tk Try.prog 158 = .arr 0 16 1 false := by kernel_rfl
theorem tsh_158 : tsh Try.prog 158 = some (0, true) := by kernel_rfl
theorem co_158 : Program.cellsOf Try.prog 158 = 0 := by kernel_rfl
theorem zcs_158 : zcs Try.prog 158 = some [] := by kernel_rfl
theorem ze_158 : zeroElem Try.prog 158 = some (.agg []) := by kernel_rfl
theorem zok_158 : zok Try.prog 158 = true := by kernel_rfl
theorem tk_159 : tk Try.prog 159 = .st [(0, 0, true)] := by kernel_rfl
theorem tsh_159 : tsh Try.prog 159 = some (0, true) := by kernel_rfl
theorem co_159 : Program.cellsOf Try.prog 159 = 0 := by kernel_rfl
theorem zcs_159 : zcs Try.prog 159 = some [] := by kernel_rfl
theorem ze_159 : zeroElem Try.prog 159 = some (.agg []) := by kernel_rfl
theorem zok_159 : zok Try.prog 159 = true := by kernel_rfl
theorem tk_160 : tk Try.prog 160 = .st [(0, 0, true)] := by kernel_rfl
theorem tsh_160 : tsh Try.prog 160 = some (0, true) := by kernel_rfl
theorem co_160 : Program.cellsOf Try.prog 160 = 0 := by kernel_rfl
theorem zcs_160 : zcs Try.prog 160 = some [] := by kernel_rfl
theorem ze_160 : zeroElem Try.prog 160 = some (.agg []) := by kernel_rfl
theorem zok_160 : zok Try.prog 160 = true := by kernel_rfl
theorem tk_161 : tk Try.prog 161 = .int .u8 := by kernel_rfl
theorem tsh_161 : tsh Try.prog 161 = some (1, false) := by kernel_rfl
theorem co_161 : Program.cellsOf Try.prog 161 = 1 := by kernel_rfl
theorem zcs_161 : zcs Try.prog 161 = some [.pv (.int .u8 0)] := by kernel_rfl
theorem ze_161 : zeroElem Try.prog 161 = some (.int .u8 0) := by kernel_rfl
theorem zok_161 : zok Try.prog 161 = true := by kernel_rfl
theorem tk_162 : tk Try.prog 162 = .int .u8 := by kernel_rfl
theorem tsh_162 : tsh Try.prog 162 = some (1, false) := by kernel_rfl
theorem co_162 : Program.cellsOf Try.prog 162 = 1 := by kernel_rfl
theorem zcs_162 : zcs Try.prog 162 = some [.pv (.int .u8 0)] := by kernel_rfl
theorem ze_162 : zeroElem Try.prog 162 = some (.int .u8 0) := by kernel_rfl
theorem zok_162 : zok Try.prog 162 = true := by kernel_rfl
theorem tk_163 : tk Try.prog 163 = .fn := by kernel_rfl
theorem tk_164 : tk Try.prog 164 = .ptr 5 := by kernel_rfl
theorem tsh_164 : tsh Try.prog 164 = some (1, false) := by kernel_rfl
theorem co_164 : Program.cellsOf Try.prog 164 = 1 := by kernel_rfl
theorem zcs_164 : zcs Try.prog 164 = some [.pv .nilp] := by kernel_rfl
theorem ze_164 : zeroElem Try.prog 164 = some .nilp := by kernel_rfl
theorem zok_164 : zok Try.prog 164 = true := by kernel_rfl
theorem tk_165 : tk Try.prog 165 = .int .i32 := by kernel_rfl
theorem tsh_165 : tsh Try.prog 165 = some (1, false) := by kernel_rfl
theorem co_165 : Program.cellsOf Try.prog 165 = 1 := by kernel_rfl
theorem zcs_165 : zcs Try.prog 165 = some [.pv (.int .i32 0)] := by kernel_rfl
theorem ze_165 : zeroElem Try.prog 165 = some (.int .i32 0) := by kernel_rfl
theorem zok_165 : zok Try.prog 165 = true := by kernel_rfl
theorem tk_166 : tk Try.prog 166 = .int .i32 := by kernel_rfl
theorem tsh_166 : tsh Try.prog 166 = some (1, false) := by kernel_rfl
theorem co_166 : Program.cellsOf Try.prog 166 = 1 := by kernel_rfl
theorem zcs_166 : zcs Try.prog 166 = some [.pv (.int .i32 0)] := by kernel_rfl
theorem ze_166 : zeroElem Try.prog 166 = some (.int .i32 0) := by kernel_rfl
theorem zok_166 : zok Try.prog 166 = true := by kernel_rfl
theorem tk_167 : tk Try.prog 167 = .st [(0, 1, false), (1, 1, false), (2, 1, false), (3, 1, false), (4, 1, false), (5, 1, false), (6, 1, false), (7, 1, false), (8, 1, false), (9, 1, false), (10, 1, false)] := by kernel_rfl
theorem tsh_167 : tsh Try.prog 167 = some (11, true) := by kernel_rfl
theorem co_167 : Program.cellsOf Try.prog 167 = 11 := by kernel_rfl
theorem zcs_167 : zcs Try.prog 167 = some [.pv (.int .u64 0), .pv (.int .u64 0), .pv (.int .u32 0), .pv (.int .u8 0), .pv (.int .u8 0), .pv (.int .u8 0), .pv (.int .u8 0), .pv .nilf, .pv .nilp, .pv (.int .i32 0), .pv (.int .i32 0)] := by kernel_rfl
theorem ze_167 : zeroElem Try.prog 167 = some (.agg [(.int .u64 0), (.int .u64 0), (.int .u32 0), (.int .u8 0), (.int .u8 0), (.int .u8 0), (.int .u8 0), .nilf, .nilp, (.int .i32 0), (.int .i32 0)]) := by kernel_rfl
theorem zok_167 : zok Try.prog 167 = true := by kernel_rfl
theorem tk_168 : tk Try.prog 168 = .st [(0, 1, false), (1, 1, false), (2, 1, false), (3, 1, false), (4, 1, false), (5, 1, false), (6, 1, false), (7, 1, false), (8, 1, false), (9, 1, false), (10, 1, false)] := by kernel_rfl
theorem tsh_168 : tsh Try.prog 168 = some (11, true) := by kernel_rfl
theorem co_168 : Program.cellsOf Try.prog 168 = 11 := by kernel_rfl
theorem zcs_168 : zcs Try.prog 168 = some [.pv (.int .u64 0), .pv (.int .u64 0), .pv (.int .u32 0), .pv (.int .u8 0), .pv (.int .u8 0), .pv (.int .u8 0), .pv (.int .u8 0), .pv .nilf, .pv .nilp, .pv (.int .i32 0), .pv (.int .i32 0)] := by kernel_rfl
theorem ze_168 : zeroElem Try.prog 168 = some (.agg [(.int .u64 0), (.int .u64 0), (.int .u32 0), (.int .u8 0), (.int .u8 0), (.int .u8 0), (.int .u8 0), .nilf, .nilp, (.int .i32 0), (.int .i32 0)]) := by kernel_rfl
theorem zok_168 : zok Try.prog 168 = true := by kernel_rfl
theorem mixed : Try.prog.follows .mixedOrders = true := by kernel_rfl
attribute [go_sem] tk_1 tk_2 tsh_2 co_2 zcs_2 ze_2 zok_2 tk_3 tsh_3 co_3 zcs_3 ze_3 zok_3 tk_4 tsh_4 co_4 zcs_4 ze_4 zok_4 tk_5 tsh_5 co_5 zcs_5 ze_5 zok_5 tk_6 tsh_6 co_6 zcs_6 ze_6 zok_6 tk_7 tsh_7 co_7 zcs_7 ze_7 zok_7 tk_8 tsh_8 co_8 zcs_8 ze_8 zok_8 tk_9 tsh_9 co_9 zcs_9 ze_9 zok_9 tk_10 tsh_10 co_10 zcs_10 ze_10 zok_10 tk_11 tsh_11 co_11 zcs_11 ze_11 zok_11 tk_12 tsh_12 co_12 zcs_12 ze_12 zok_12 tk_13 tsh_13 co_13 zcs_13 ze_13 zok_13 tk_14 tsh_14 co_14 zcs_14 ze_14 zok_14 tk_15 tsh_15 co_15 zcs_15 ze_15 zok_15 tk_16 tsh_16 co_16 zcs_16 ze_16 zok_16 tk_17 tsh_17 co_17 zcs_17 ze_17 zok_17 tk_18 tsh_18 co_18 zcs_18 ze_18 zok_18 tk_19 tsh_19 co_19 zcs_19 ze_19 zok_19 tk_20 tk_21 tsh_21 co_21 zcs_21 ze_21 zok_21 tk_22 tsh_22 co_22 zcs_22 ze_22 zok_22 tk_23 tsh_23 co_23 zcs_23 ze_23 zok_23 tk_24 tsh_24 co_24 zcs_24 ze_24 zok_24 tk_25 tsh_25 co_25 zcs_25 ze_25 zok_25 tk_26 tsh_26 co_26 zcs_26 ze_26 zok_26 tk_27 tk_28 tk_29 tsh_29 co_29 zcs_29 ze_29 zok_29 tk_31 tk_32 tk_34 tk_35 tk_36 tk_37 tsh_37 co_37 zcs_37 ze_37 zok_37 tk_38 tsh_38 co_38 zcs_38 ze_38 zok_38 tk_39 tk_40 tk_41 tk_42 tk_43 tk_44 tk_45 tk_46 tsh_46 co_46 zcs_46 ze_46 zok_46 tk_47 tsh_47 co_47 tk_49 tk_50 tk_51 tk_52 tk_53 tk_54 tk_55 tsh_55 co_55 zcs_55 ze_55 zok_55 tk_56 tsh_56 co_56 zcs_56 ze_56 zok_56 tk_57 tsh_57 co_57 zcs_57 ze_57 zok_57 tk_58 tk_59 tk_60 tk_61 tk_63 tk_64 tk_65 tk_66 tk_67 tk_68 tsh_68 co_68 zcs_68 ze_68 zok_68 tk_69 tsh_69 co_69 zcs_69 ze_69 zok_69 tk_70 tsh_70 co_70 zcs_70 ze_70 zok_70 tk_71 tk_72 tk_73 tk_74 tsh_74 co_74 zcs_74 ze_74 zok_74 tk_75 tk_76 tk_77 tk_78 tk_79 tk_81 tk_82 tsh_82 co_82 zcs_82 ze_82 zok_82 tk_83 tk_84 tsh_84 co_84 zcs_84 ze_84 zok_84 tk_85 tsh_85 co_85 zcs_85 ze_85 zok_85 tk_86 tsh_86 co_86 zcs_86 ze_86 zok_86 tk_87 tsh_87 co_87 zcs_87 ze_87 zok_87 tk_88 tk_89 tk_90 tk_91 tk_92 tk_94 tk_96 tk_97 tk_98 tk_99 tk_100 tk_101 tsh_101 co_101 zcs_101 ze_101 zok_101 tk_102 tk_103 tk_104 tk_105 tk_107 tk_108 tsh_108 co_108 zcs_108 ze_108 zok_108 tk_109 tsh_109 co_109 zcs_109 ze_109 zok_109 tk_110 tsh_110 co_110 zcs_110 ze_110 zok_110 tk_111 tk_112 tsh_112 co_112 zcs_112 ze_112 zok_112 tk_114 tk_115 tk_116 tsh_116 co_116 zcs_116 ze_116 zok_116 tk_117 tk_118 tk_119 tsh_119 co_119 zcs_119 ze_119 zok_119 tk_121 tk_122 tk_123 tk_124 tk_125 tk_126 tk_127 tk_128 tk_129 tsh_129 co_129 zcs_129 ze_129 zok_129 tk_130 tk_131 tsh_131 co_131 zcs_131 ze_131 zok_131 tk_132 tsh_132 co_132 zcs_132 ze_132 zok_132 tk_133 tsh_133 co_133 zcs_133 ze_133 zok_133 tk_134 tsh_134 co_134 zcs_134 ze_134 zok_134 tk_135 tsh_135 co_135 zcs_135 ze_135 zok_135 tk_136 tk_137 tk_138 tk_139 tk_140 tsh_140 co_140 zcs_140 ze_140 zok_140 tk_141 tk_142 tk_143 tsh_143 co_143 zcs_143 ze_143 zok_143 tk_144 tk_145 tk_146 tk_147 tk_148 tsh_148 co_148 zcs_148 ze_148 zok_148 tk_150 tk_151 tsh_151 co_151 zcs_151 ze_151 zok_151 tk_152 tk_153 tk_154 tk_155 tk_156 tsh_156 co_156 zcs_156 ze_156 zok_156 tk_157 tsh_157 co_157 zcs_157 ze_157 zok_157 tk_158 tsh_158 co_158 zcs_158 ze_158 zok_158 tk_159 tsh_159 co_159 zcs_159 ze_159 zok_159 tk_160 tsh_160 co_160 zcs_160 ze_160 zok_160 tk_161 tsh_161 co_161 zcs_161 ze_161 zok_161 tk_162 tsh_162 co_162 zcs_162 ze_162 zok_162 tk_163 tk_164 tsh_164 co_164 zcs_164 ze_164 zok_164 tk_165 tsh_165 co_165 zcs_165 ze_165 zok_165 tk_166 tsh_166 co_166 zcs_166 ze_166 zok_166 tk_167 tsh_167 co_167 zcs_167 ze_167 zok_167 tk_168 tsh_168 co_168 zcs_168 ze_168 zok_168 mixed
end Go.Ck

set_option linter.unusedVariables false
set_option maxRecDepth 10000
namespace Go.Ck
open Go.Proofs
theorem clone_bytes (l : List Nat) (hl : l.length ≤ room) : Fn Try.prog 57 [] [.pv (.sl 1 (bytes l))] (fun rs H' => rs = [.own 5 (bytes l)] ∧ H' = []) := by
  refine Fn.of_body (fn := Try.f57) (n := 8) (res := [.tmp 2]) (by kernel_rfl) rfl rfl rfl rfl rfl (fun C => ?_)
  refine AW.go ?_
  refine AW.eqNil (.inl rfl) rfl rfl rfl tk_23 (by simp only [go_sem, ↓reduceIte] <;> rfl) rfl rfl rfl (fun b hb => ?_)
  refine AW.go ?_
  refine AW.cond (b := b) (by simp only [go_sem, ↓reduceIte] <;> rfl) (fun h1 => ?_) (fun h1 => ?_)
  · have hx : l = [] := by simpa [bytes] using hb h1
    subst hx
    refine AW.go ?_
    refine AW.finE (.move rfl .nil) rfl
  · refine AW.go ?_ (by simp only [go_sem, ↓reduceIte, hl] <;> rfl)
    refine AW.finE (.move rfl .nil) rfl

theorem with_fn (xs ys : List Nat) (hl : xs.length + ys.length ≤ room) : Fn Try.prog 58 [] [.own 5 (bytes xs), .pv (.sl 1 (bytes ys))] (fun rs H' => rs = [.own 5 (bytes (xs ++ ys))] ∧ H' = []) := by
  refine Fn.of_body (fn := Try.f58) (n := 8) (res := [.tmp 4]) (by kernel_rfl) rfl rfl rfl rfl rfl (fun C => ?_)
  refine AW.go ?_ (by simp only [go_sem, ↓reduceIte, hl] <;> rfl)
  refine AW.finE (.move rfl .nil) rfl
end Go.Ck

set_option linter.unusedVariables false
namespace Go.Ck
def leb (v : Nat) : List Nat := if v < 128 then [v] else (v % 128 + 128) :: leb (v / 128)
termination_by v
decreasing_by omega
theorem leb_lt {v : Nat} (h : v < 128) : leb v = [v] := by rw [leb, if_pos h]
theorem leb_ge {v : Nat} (h : ¬ v < 128) : leb v = (v % 128 + 128) :: leb (v / 128) := by rw [leb, if_neg h]
theorem leb_pos (v : Nat) : 0 < (leb v).length := by
  by_cases h : v < 128
  · rw [leb_lt h]; simp
  · rw [leb_ge h]; simp
theorem leb_len (n : Nat) : ∀ v, v < 128 ^ (n + 1) → (leb v).length ≤ n + 1 := by
  induction n with
  | zero => intro v h; rw [leb_lt (by omega)]; simp
  | succ n ih =>
    intro v h
    by_cases h1 : v < 128
    · rw [leb_lt h1]; simp
    · rw [leb_ge h1, List.length_cons]
      have := ih (v / 128) (by rw [Nat.div_lt_iff_lt_mul (by omega)]; rw [Nat.pow_succ] at h; omega)
      omega
theorem leb_len10 {v : Nat} (h : v < 2 ^ 64) : (leb v).length ≤ 10 := leb_len 9 v (by omega)
theorem or128 {x : Nat} (h : x < 256) : x ||| 128 = x % 128 + 128 := by
  have : ∀ x : Fin 256, x.val ||| 128 = x.val % 128 + 128 := by decide +kernel
  exact this ⟨x, h⟩
end Go.Ck
namespace Go.Ck
/-- A number out of bytes; how many bytes it took; why there is none. -/
def rdv : Nat → Nat → List Nat → Nat × Nat × Int
  | _, _, [] => (0, 0, 2)
  | k, acc, x :: r => if k = 9 ∧ 1 < x then (0, 0, 3) else if 128 ≤ x then rdv (k + 1) (acc + x % 128 * 128 ^ k) r else if x = 0 ∧ 0 < k then (0, 0, 3) else (acc + x * 128 ^ k, k + 1, 0)
def readV (b : List Nat) : Nat × Nat × Int := rdv 0 0 (b.take 10)

theorem rdv_bound : ∀ (l : List Nat) (k acc : Nat), (rdv k acc l).2.1 ≤ k + l.length ∧ ((rdv k acc l).2.2 ≠ 0 → (rdv k acc l).1 = 0 ∧ (rdv k acc l).2.1 = 0) ∧ (rdv k acc l).2.1 ≤ k + l.length
  | [], k, acc => by simp [rdv]
  | x :: r, k, acc => by
    simp only [rdv]
    split
    · simp
    · split
      · have := rdv_bound r (k + 1) (acc + x % 128 * 128 ^ k)
        simp only [List.length_cons]
        refine ⟨by omega, this.2.1, by omega⟩
      · split
        · simp
        · simp
theorem readV_le (b : List Nat) : (readV b).2.1 ≤ b.length := by
  have := (rdv_bound (b.take 10) 0 0).1
  simp at this
  unfold readV
  omega
theorem rdv_lt : ∀ (l : List Nat) (k acc : Nat), k + l.length ≤ 10 → (∀ x ∈ l, x < 256) → acc < 128 ^ k → (rdv k acc l).1 < 2 ^ 64
  | [], k, acc, _, _, _ => by simp [rdv]
  | x :: r, k, acc, hk, hx, ha => by
    have hx0 := hx x (by simp)
    simp only [List.length_cons] at hk
    have hp : 128 ^ (k + 1) = 128 ^ k * 128 := Nat.pow_succ ..
    simp only [rdv]
    split
    · simp
    · rename_i h9
      split
      · refine rdv_lt r (k + 1) _ (by omega) (fun y hy => hx y (by simp [hy])) ?_
        rw [hp]
        have h1 : x % 128 * 128 ^ k ≤ 127 * 128 ^ k := Nat.mul_le_mul_right _ (by omega)
        omega
      · split
        · simp
        · simp only
          by_cases hk9 : k = 9
          · subst hk9
            have : x ≤ 1 := by omega
            have h1 : x * 128 ^ 9 ≤ 1 * 128 ^ 9 := Nat.mul_le_mul_right _ this
            omega
          · have h2 : 128 ^ k ≤ 128 ^ 8 := Nat.pow_le_pow_right (by omega) (by omega)
            have h1 : x * 128 ^ k ≤ 127 * 128 ^ k := Nat.mul_le_mul_right _ (by omega)
            omega
theorem readV_lt {b : List Nat} (hb : ∀ x ∈ b, x < 256) : (readV b).1 < 2 ^ 64 := rdv_lt _ 0 0 (by simp; omega) (fun x hx => hb x (List.mem_of_mem_take hx)) (by simp)
theorem andNot128 {x : Nat} (h : x < 256) : ibits .andNot .u8 (x : Int) 128 = ((x % 128 : Nat) : Int) := by
  have : ∀ x : Fin 256, ibits .andNot .u8 ((x.val : Nat) : Int) 128 = ((x.val % 128 : Nat) : Int) := by decide +kernel
  exact this ⟨x, h⟩
theorem or_shift {a x k : Nat} (ha : a < 128 ^ k) (hx : x * 128 ^ k < 2 ^ 64) (ha2 : a < 2 ^ 64) (hk : 7 * k ≤ 64) : ibits .or .u64 (a : Int) (shlI .u64 (x : Int) ((7 * k : Nat) : Int)) = ((a + x * 128 ^ k : Nat) : Int) := by
  have hp : (2 : Nat) ^ (7 * k) = 128 ^ k := by rw [Nat.pow_mul]
  rw [shlI_nat64 _ _ hk, hp, Nat.mod_eq_of_lt hx, ibits_or64 ha2 hx]
  congr 1
  have := Nat.two_pow_add_eq_or_of_lt (i := 7 * k) (b := a) (by rw [hp]; exact ha) x
  rw [hp] at this
  rw [Nat.or_comm, Nat.mul_comm x, ← this, Nat.add_comm]
end Go.Ck

set_option linter.unusedVariables false
set_option maxRecDepth 10000
namespace Go.Ck
open Go.Proofs
theorem append_fn (b : List Nat) (v : Nat) (hv : v < 2 ^ 64) (hl : b.length + 10 ≤ room) : Fn Try.prog 24 [] [.pv (.sl 1 (bytes b)), .pv (.int .u64 v)] (fun rs H' => rs = [.own 5 (bytes (b ++ leb v))] ∧ H' = []) := by
  refine Fn.of_body (fn := Try.f24) (n := 23) (res := [.tmp 4]) (by kernel_rfl) rfl rfl rfl rfl rfl (fun C => ?_)
  refine AW.go ?_
  refine AW.callE (fun _ => 0) (clone_bytes b (by omega)) (.pv _ .nil) ?_
  refine AW.go ?_
  have hlen := leb_len10 hv
  refine AW.loopS (fun a : List Nat × Nat => ⟨23, [(5, .own 5 (bytes a.1)), (1, .pv (.int .u64 a.2))], []⟩) (fun a => a.1 ++ leb a.2 = b ++ leb v ∧ a.2 < 2 ^ 64) (fun a => a.2) [5, 1] [] (b, v) ⟨rfl, hv⟩ ?_
  rintro ⟨o, u⟩ ⟨ho, hu⟩ K hK
  simp only at ho hu
  have hol : o.length + (leb u).length = b.length + (leb v).length := by rw [← List.length_append, ho, List.length_append]
  have hup := leb_pos u
  refine AW.go ?_
  refine AW.cond rfl (fun hb => ?_) (fun hb => ?_)
  · have hge : ¬ u < 128 := by simp at hb; omega
    refine AW.go ?_
    have e1 : ibits .or .u8 (IntKind.u8.wrap (u : Int)) 128 = ((u % 128 + 128 : Nat) : Int) := by
      rw [wrap_u8]
      have := ibits_or8 (a := u % 256) (b := 128) (by omega) (by omega)
      rw [or128 (by omega)] at this
      refine this.trans ?_
      congr 2; omega
    rw [e1]
    refine AW.callE (fun _ => 0) (with_fn o [u % 128 + 128] (by simp; omega)) (.move rfl (.lend rfl co_5 .nil)) ?_
    refine AW.go ?_
    have e2 : shrI .u64 (u : Int) 7 = ((u / 128 : Nat) : Int) := shrI_nat .u64 u 7 (by decide)
    refine AW.again hK (o ++ [u % 128 + 128], u / 128) ⟨?_, by simp only; omega⟩ (by simp only; omega) (by simp only [go_sem, ↓reduceIte]) (by simp only [go_sem, ↓reduceIte, e2])
    simp only [List.append_assoc, List.singleton_append]
    rw [← leb_ge hge, ho]
  · have hlt : u < 128 := by simp at hb; omega
    refine AW.go ?_
    have e1 : IntKind.u8.wrap (u : Int) = ((u : Nat) : Int) := wrap_u8_lt (by omega)
    rw [e1]
    refine AW.callE (fun _ => 0) (with_fn o [u] (by simp; omega)) (.move rfl (.lend rfl co_5 .nil)) ?_
    refine AW.go ?_
    refine AW.finE (.move rfl .nil) ?_
    rw [← ho, leb_lt hlt]
end Go.Ck

set_option linter.unusedVariables false
set_option maxRecDepth 10000
namespace Go.Ck
open Go.Proofs
abbrev curO (l : List Nat) : List (Nat × HO) := [(1000, .cells 87 [.pv (.sl 1 (bytes l))])]

attribute [go_sem] curO
theorem curNew_fn (l : List Nat) (hl : l.length ≤ room) : Fn Try.prog 33 [] [.pv (.sl 1 (bytes l))] (fun rs H' => rs = [.ptr 7 0] ∧ H' = [(7, .cells 87 [.pv (.sl 1 (bytes l))])]) := by
  refine Fn.of_body (fn := Try.f33) (n := 8) (res := [.tmp 2]) (by kernel_rfl) rfl rfl rfl rfl rfl (fun C => ?_)
  refine AW.go ?_
  refine AW.callE (fun _ => 0) (clone_bytes l hl) (.pv _ .nil) ?_
  refine AW.go ?_
  refine AW.finE (.ptr rfl .nil) rfl

theorem left_fn (l : List Nat) : Fn Try.prog 64 (curO l) [.ptr 1000 0] (fun rs H' => rs = [.pv (.int .i64 l.length)] ∧ H' = curO l) := by
  refine Fn.of_body (fn := Try.f64) (n := 8) (res := [.tmp 2]) (by kernel_rfl) rfl rfl rfl rfl rfl (fun C => ?_)
  refine AW.go ?_
  refine AW.finE (.pv _ .nil) rfl

theorem take_fn (l : List Nat) (n : Nat) (hn : n ≤ l.length) (hl : l.length ≤ room) : Fn Try.prog 78 (curO l) [.ptr 1000 0, .pv (.int .i64 n)] (fun rs H' => rs = [.own 5 (bytes (l.take n))] ∧ H' = curO (l.drop n)) := by
  refine Fn.of_body (fn := Try.f78) (n := 23) (res := [.tmp 4]) (by kernel_rfl) rfl rfl rfl rfl rfl (fun C => ?_)
  refine AW.go ?_ (by simp only [go_sem, ↓reduceIte, hn] <;> rfl)
  refine AW.callE (fun _ => 0) (clone_bytes (l.take n) (by simp; omega)) (.pv _ .nil) ?_
  have e : (((l.length : Int) - (n : Int)).toNat) = l.length - n := by omega
  have e2 : (bytes (l.drop n)).take (l.length - n) = bytes (l.drop n) := List.take_of_length_le (by simp [bytes])
  refine AW.go ?_ (by simp only [go_sem, ↓reduceIte, hn, e]; rw [← bytes_take, e2] <;> rfl)
  refine AW.finE (.move rfl .nil) rfl
end Go.Ck

set_option linter.unusedVariables false
set_option maxRecDepth 10000
namespace Go.Ck
open Go.Proofs
theorem curEnd_fn (l : List Nat) : Fn Try.prog 41 (curO l) [.ptr 1000 0] (fun rs H' => rs = [.pv (.int .i64 (if l = [] then 0 else 3))] ∧ H' = curO l) := by
  refine Fn.of_body (fn := Try.f41) (n := 12) (res := [.tmp 2]) (by kernel_rfl) rfl rfl rfl rfl rfl (fun C => ?_)
  refine AW.go ?_
  refine AW.condF rfl ?_
  refine AW.go ?_
  refine AW.callE id (left_fn l) (.ptr rfl .nil) ?_
  refine AW.go ?_
  refine AW.cond rfl (fun hb => ?_) (fun hb => ?_)
  · refine AW.go ?_
    refine AW.finE (.pv _ .nil) ?_
    rw [if_neg (by rintro rfl; simp at hb)]
  · refine AW.go ?_
    refine AW.finE (.pv _ .nil) ?_
    rw [if_pos (by simpa using hb)]

theorem curBytes_fn (l : List Nat) (n : Nat) (hl : l.length ≤ room) : Fn Try.prog 60 (curO l) [.ptr 1000 0, .pv (.int .i64 n)]
    (fun rs H' => rs = [.own 5 (bytes (if n ≤ l.length then l.take n else [])), .pv (.int .i64 (if n ≤ l.length then 0 else 2))] ∧ H' = curO (if n ≤ l.length then l.drop n else l)) := by
  refine Fn.of_body (fn := Try.f60) (n := 25) (res := [.tmp 4, .tmp 5]) (by kernel_rfl) rfl rfl rfl rfl rfl (fun C => ?_)
  refine AW.gg ?_
  refine AW.condF rfl ?_
  refine AW.go ?_
  refine AW.callE id (left_fn l) (.ptr rfl .nil) ?_
  refine AW.go ?_
  refine AW.cond rfl (fun hb => ?_) (fun hb => ?_)
  · have hn : ¬ n ≤ l.length := by simp at hb; omega
    simp only [if_neg hn]
    refine AW.go ?_
    refine AW.finE (.move rfl (.pv _ .nil)) rfl
  · have hn : n ≤ l.length := by simp at hb; omega
    simp only [if_pos hn]
    refine AW.go ?_
    refine AW.callE id (take_fn l n hn hl) (.ptr rfl (.pv _ .nil)) ?_
    refine AW.go ?_
    refine AW.finE (.move rfl (.pv _ .nil)) rfl
end Go.Ck
