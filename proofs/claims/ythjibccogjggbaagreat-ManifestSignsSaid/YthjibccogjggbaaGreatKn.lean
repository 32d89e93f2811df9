/- What is proved here: parts of the proofs of this seat's statements (a verified evaluator for calls over pure values, its laws, and contracts of functions). No condition. -/
import Derived.Test.YthjibccogjggbaaGreatKm
import Derived.Test.YthjibccogjggbaaGreatProg
import Derived.KernelRfl
set_option linter.all false
-- type facts, printed by mkfacts.py
set_option linter.unusedVariables false
namespace Go.Ck
open Go.Proofs
theorem tk_1 : tk Tryz.prog 1 = .fn := by kernel_rfl
theorem tk_2 : tk Tryz.prog 2 = .int .i64 := by kernel_rfl
theorem tsh_2 : tsh Tryz.prog 2 = some (1, false) := by kernel_rfl
theorem co_2 : Program.cellsOf Tryz.prog 2 = 1 := by kernel_rfl
theorem zcs_2 : zcs Tryz.prog 2 = some [.pv (.int .i64 0)] := by kernel_rfl
theorem ze_2 : zeroElem Tryz.prog 2 = some (.int .i64 0) := by kernel_rfl
theorem zok_2 : zok Tryz.prog 2 = true := by kernel_rfl
theorem tk_3 : tk Tryz.prog 3 = .int .i64 := by kernel_rfl
theorem tsh_3 : tsh Tryz.prog 3 = some (1, false) := by kernel_rfl
theorem co_3 : Program.cellsOf Tryz.prog 3 = 1 := by kernel_rfl
theorem zcs_3 : zcs Tryz.prog 3 = some [.pv (.int .i64 0)] := by kernel_rfl
theorem ze_3 : zeroElem Tryz.prog 3 = some (.int .i64 0) := by kernel_rfl
theorem zok_3 : zok Tryz.prog 3 = true := by kernel_rfl
theorem tk_4 : tk Tryz.prog 4 = .bool := by kernel_rfl
theorem tsh_4 : tsh Tryz.prog 4 = some (1, false) := by kernel_rfl
theorem co_4 : Program.cellsOf Tryz.prog 4 = 1 := by kernel_rfl
theorem zcs_4 : zcs Tryz.prog 4 = some [.pv (.bool false)] := by kernel_rfl
theorem ze_4 : zeroElem Tryz.prog 4 = some (.bool false) := by kernel_rfl
theorem zok_4 : zok Tryz.prog 4 = true := by kernel_rfl
theorem tk_5 : tk Tryz.prog 5 = .int .u8 := by kernel_rfl
theorem tsh_5 : tsh Tryz.prog 5 = some (1, false) := by kernel_rfl
theorem co_5 : Program.cellsOf Tryz.prog 5 = 1 := by kernel_rfl
theorem zcs_5 : zcs Tryz.prog 5 = some [.pv (.int .u8 0)] := by kernel_rfl
theorem ze_5 : zeroElem Tryz.prog 5 = some (.int .u8 0) := by kernel_rfl
theorem zok_5 : zok Tryz.prog 5 = true := by kernel_rfl
theorem tk_6 : tk Tryz.prog 6 = .int .u8 := by kernel_rfl
theorem tsh_6 : tsh Tryz.prog 6 = some (1, false) := by kernel_rfl
theorem co_6 : Program.cellsOf Tryz.prog 6 = 1 := by kernel_rfl
theorem zcs_6 : zcs Tryz.prog 6 = some [.pv (.int .u8 0)] := by kernel_rfl
theorem ze_6 : zeroElem Tryz.prog 6 = some (.int .u8 0) := by kernel_rfl
theorem zok_6 : zok Tryz.prog 6 = true := by kernel_rfl
theorem tk_7 : tk Tryz.prog 7 = .st [(0, 1, false), (1, 1, false), (2, 1, false), (3, 1, false)] := by kernel_rfl
theorem tsh_7 : tsh Tryz.prog 7 = some (4, true) := by kernel_rfl
theorem co_7 : Program.cellsOf Tryz.prog 7 = 4 := by kernel_rfl
theorem zcs_7 : zcs Tryz.prog 7 = some [.pv (.int .i64 0), .pv (.int .i64 0), .pv (.bool false), .pv (.int .u8 0)] := by kernel_rfl
theorem ze_7 : zeroElem Tryz.prog 7 = some (.agg [(.int .i64 0), (.int .i64 0), (.bool false), (.int .u8 0)]) := by kernel_rfl
theorem zok_7 : zok Tryz.prog 7 = true := by kernel_rfl
theorem tk_8 : tk Tryz.prog 8 = .st [(0, 1, false), (1, 1, false), (2, 1, false), (3, 1, false)] := by kernel_rfl
theorem tsh_8 : tsh Tryz.prog 8 = some (4, true) := by kernel_rfl
theorem co_8 : Program.cellsOf Tryz.prog 8 = 4 := by kernel_rfl
theorem zcs_8 : zcs Tryz.prog 8 = some [.pv (.int .i64 0), .pv (.int .i64 0), .pv (.bool false), .pv (.int .u8 0)] := by kernel_rfl
theorem ze_8 : zeroElem Tryz.prog 8 = some (.agg [(.int .i64 0), (.int .i64 0), (.bool false), (.int .u8 0)]) := by kernel_rfl
theorem zok_8 : zok Tryz.prog 8 = true := by kernel_rfl
theorem tk_9 : tk Tryz.prog 9 = .str := by kernel_rfl
theorem tsh_9 : tsh Tryz.prog 9 = some (1, false) := by kernel_rfl
theorem co_9 : Program.cellsOf Tryz.prog 9 = 1 := by kernel_rfl
theorem zcs_9 : zcs Tryz.prog 9 = some [.pv (.str [])] := by kernel_rfl
theorem ze_9 : zeroElem Tryz.prog 9 = some (.str []) := by kernel_rfl
theorem zok_9 : zok Tryz.prog 9 = true := by kernel_rfl
theorem tk_10 : tk Tryz.prog 10 = .str := by kernel_rfl
theorem tsh_10 : tsh Tryz.prog 10 = some (1, false) := by kernel_rfl
theorem co_10 : Program.cellsOf Tryz.prog 10 = 1 := by kernel_rfl
theorem zcs_10 : zcs Tryz.prog 10 = some [.pv (.str [])] := by kernel_rfl
theorem ze_10 : zeroElem Tryz.prog 10 = some (.str []) := by kernel_rfl
theorem zok_10 : zok Tryz.prog 10 = true := by kernel_rfl
theorem tk_11 : tk Tryz.prog 11 = .str := by kernel_rfl
theorem tsh_11 : tsh Tryz.prog 11 = some (1, false) := by kernel_rfl
theorem co_11 : Program.cellsOf Tryz.prog 11 = 1 := by kernel_rfl
theorem zcs_11 : zcs Tryz.prog 11 = some [.pv (.str [])] := by kernel_rfl
theorem ze_11 : zeroElem Tryz.prog 11 = some (.str []) := by kernel_rfl
theorem zok_11 : zok Tryz.prog 11 = true := by kernel_rfl
theorem tk_12 : tk Tryz.prog 12 = .int .u64 := by kernel_rfl
theorem tsh_12 : tsh Tryz.prog 12 = some (1, false) := by kernel_rfl
theorem co_12 : Program.cellsOf Tryz.prog 12 = 1 := by kernel_rfl
theorem zcs_12 : zcs Tryz.prog 12 = some [.pv (.int .u64 0)] := by kernel_rfl
theorem ze_12 : zeroElem Tryz.prog 12 = some (.int .u64 0) := by kernel_rfl
theorem zok_12 : zok Tryz.prog 12 = true := by kernel_rfl
theorem tk_13 : tk Tryz.prog 13 = .st [(0, 1, false), (1, 1, false)] := by kernel_rfl
theorem tsh_13 : tsh Tryz.prog 13 = some (2, true) := by kernel_rfl
theorem co_13 : Program.cellsOf Tryz.prog 13 = 2 := by kernel_rfl
theorem zcs_13 : zcs Tryz.prog 13 = some [.pv (.str []), .pv (.int .u64 0)] := by kernel_rfl
theorem ze_13 : zeroElem Tryz.prog 13 = some (.agg [(.str []), (.int .u64 0)]) := by kernel_rfl
theorem zok_13 : zok Tryz.prog 13 = true := by kernel_rfl
theorem tk_14 : tk Tryz.prog 14 = .st [(0, 1, false), (1, 1, false)] := by kernel_rfl
theorem tsh_14 : tsh Tryz.prog 14 = some (2, true) := by kernel_rfl
theorem co_14 : Program.cellsOf Tryz.prog 14 = 2 := by kernel_rfl
theorem zcs_14 : zcs Tryz.prog 14 = some [.pv (.str []), .pv (.int .u64 0)] := by kernel_rfl
theorem ze_14 : zeroElem Tryz.prog 14 = some (.agg [(.str []), (.int .u64 0)]) := by kernel_rfl
theorem zok_14 : zok Tryz.prog 14 = true := by kernel_rfl
theorem tk_15 : tk Tryz.prog 15 = .ptr 156 := by kernel_rfl
theorem tsh_15 : tsh Tryz.prog 15 = some (1, false) := by kernel_rfl
theorem co_15 : Program.cellsOf Tryz.prog 15 = 1 := by kernel_rfl
theorem zcs_15 : zcs Tryz.prog 15 = some [.pv .nilp] := by kernel_rfl
theorem ze_15 : zeroElem Tryz.prog 15 = some .nilp := by kernel_rfl
theorem zok_15 : zok Tryz.prog 15 = true := by kernel_rfl
theorem tk_16 : tk Tryz.prog 16 = .ptr 159 := by kernel_rfl
theorem tsh_16 : tsh Tryz.prog 16 = some (1, false) := by kernel_rfl
theorem co_16 : Program.cellsOf Tryz.prog 16 = 1 := by kernel_rfl
theorem zcs_16 : zcs Tryz.prog 16 = some [.pv .nilp] := by kernel_rfl
theorem ze_16 : zeroElem Tryz.prog 16 = some .nilp := by kernel_rfl
theorem zok_16 : zok Tryz.prog 16 = true := by kernel_rfl
theorem tk_17 : tk Tryz.prog 17 = .ptr 167 := by kernel_rfl
theorem tsh_17 : tsh Tryz.prog 17 = some (1, false) := by kernel_rfl
theorem co_17 : Program.cellsOf Tryz.prog 17 = 1 := by kernel_rfl
theorem zcs_17 : zcs Tryz.prog 17 = some [.pv .nilp] := by kernel_rfl
theorem ze_17 : zeroElem Tryz.prog 17 = some .nilp := by kernel_rfl
theorem zok_17 : zok Tryz.prog 17 = true := by kernel_rfl
theorem tk_18 : tk Tryz.prog 18 = .st [(0, 1, false)] := by kernel_rfl
theorem tsh_18 : tsh Tryz.prog 18 = some (1, true) := by kernel_rfl
theorem co_18 : Program.cellsOf Tryz.prog 18 = 1 := by kernel_rfl
theorem zcs_18 : zcs Tryz.prog 18 = some [.pv .nilp] := by kernel_rfl
theorem ze_18 : zeroElem Tryz.prog 18 = some (.agg [.nilp]) := by kernel_rfl
theorem zok_18 : zok Tryz.prog 18 = true := by kernel_rfl
theorem tk_19 : tk Tryz.prog 19 = .st [(0, 1, false)] := by kernel_rfl
theorem tsh_19 : tsh Tryz.prog 19 = some (1, true) := by kernel_rfl
theorem co_19 : Program.cellsOf Tryz.prog 19 = 1 := by kernel_rfl
theorem zcs_19 : zcs Tryz.prog 19 = some [.pv .nilp] := by kernel_rfl
theorem ze_19 : zeroElem Tryz.prog 19 = some (.agg [.nilp]) := by kernel_rfl
theorem zok_19 : zok Tryz.prog 19 = true := by kernel_rfl
theorem tk_20 : tk Tryz.prog 20 = .iface := by kernel_rfl
theorem tk_21 : tk Tryz.prog 21 = .int .i32 := by kernel_rfl
theorem tsh_21 : tsh Tryz.prog 21 = some (1, false) := by kernel_rfl
theorem co_21 : Program.cellsOf Tryz.prog 21 = 1 := by kernel_rfl
theorem zcs_21 : zcs Tryz.prog 21 = some [.pv (.int .i32 0)] := by kernel_rfl
theorem ze_21 : zeroElem Tryz.prog 21 = some (.int .i32 0) := by kernel_rfl
theorem zok_21 : zok Tryz.prog 21 = true := by kernel_rfl
theorem tk_22 : tk Tryz.prog 22 = .sl 5 1 1 false := by kernel_rfl
theorem tsh_22 : tsh Tryz.prog 22 = some (1, false) := by kernel_rfl
theorem co_22 : Program.cellsOf Tryz.prog 22 = 1 := by kernel_rfl
theorem zcs_22 : zcs Tryz.prog 22 = some [.nils] := by kernel_rfl
theorem ze_22 : zeroElem Tryz.prog 22 = some (.sl 1 []) := by kernel_rfl
theorem zok_22 : zok Tryz.prog 22 = true := by kernel_rfl
theorem tk_23 : tk Tryz.prog 23 = .int .u64 := by kernel_rfl
theorem tsh_23 : tsh Tryz.prog 23 = some (1, false) := by kernel_rfl
theorem co_23 : Program.cellsOf Tryz.prog 23 = 1 := by kernel_rfl
theorem zcs_23 : zcs Tryz.prog 23 = some [.pv (.int .u64 0)] := by kernel_rfl
theorem ze_23 : zeroElem Tryz.prog 23 = some (.int .u64 0) := by kernel_rfl
theorem zok_23 : zok Tryz.prog 23 = true := by kernel_rfl
theorem tk_24 : tk Tryz.prog 24 = .sl 40 2 24 true := by kernel_rfl
theorem tsh_24 : tsh Tryz.prog 24 = some (1, false) := by kernel_rfl
theorem co_24 : Program.cellsOf Tryz.prog 24 = 1 := by kernel_rfl
theorem zcs_24 : zcs Tryz.prog 24 = some [.nils] := by kernel_rfl
theorem ze_24 : zeroElem Tryz.prog 24 = some (.sl 1 []) := by kernel_rfl
theorem zok_24 : zok Tryz.prog 24 = true := by kernel_rfl
theorem tk_25 : tk Tryz.prog 25 = .st [(0, 1, false), (1, 1, false), (2, 1, false), (3, 1, false)] := by kernel_rfl
theorem tsh_25 : tsh Tryz.prog 25 = some (4, true) := by kernel_rfl
theorem co_25 : Program.cellsOf Tryz.prog 25 = 4 := by kernel_rfl
theorem zcs_25 : zcs Tryz.prog 25 = some [.pv (.int .u64 0), .nils, .nils, .nils] := by kernel_rfl
theorem ze_25 : zeroElem Tryz.prog 25 = some (.agg [(.int .u64 0), (.sl 1 []), (.sl 1 []), (.sl 1 [])]) := by kernel_rfl
theorem zok_25 : zok Tryz.prog 25 = true := by kernel_rfl
theorem tk_26 : tk Tryz.prog 26 = .st [(0, 1, false), (1, 1, false), (2, 1, false), (3, 1, false)] := by kernel_rfl
theorem tsh_26 : tsh Tryz.prog 26 = some (4, true) := by kernel_rfl
theorem co_26 : Program.cellsOf Tryz.prog 26 = 4 := by kernel_rfl
theorem zcs_26 : zcs Tryz.prog 26 = some [.pv (.int .u64 0), .nils, .nils, .nils] := by kernel_rfl
theorem ze_26 : zeroElem Tryz.prog 26 = some (.agg [(.int .u64 0), (.sl 1 []), (.sl 1 []), (.sl 1 [])]) := by kernel_rfl
theorem zok_26 : zok Tryz.prog 26 = true := by kernel_rfl
theorem tk_27 : tk Tryz.prog 27 = .fn := by kernel_rfl
theorem tk_28 : tk Tryz.prog 28 = .fn := by kernel_rfl
theorem tk_29 : tk Tryz.prog 29 = .int .i64 := by kernel_rfl
theorem tsh_29 : tsh Tryz.prog 29 = some (1, false) := by kernel_rfl
theorem co_29 : Program.cellsOf Tryz.prog 29 = 1 := by kernel_rfl
theorem zcs_29 : zcs Tryz.prog 29 = some [.pv (.int .i64 0)] := by kernel_rfl
theorem ze_29 : zeroElem Tryz.prog 29 = some (.int .i64 0) := by kernel_rfl
theorem zok_29 : zok Tryz.prog 29 = true := by kernel_rfl
theorem tk_31 : tk Tryz.prog 31 = .fn := by kernel_rfl
theorem tk_33 : tk Tryz.prog 33 = .fn := by kernel_rfl
theorem tk_34 : tk Tryz.prog 34 = .fn := by kernel_rfl
theorem tk_35 : tk Tryz.prog 35 = .fn := by kernel_rfl
theorem tk_36 : tk Tryz.prog 36 = .fn := by kernel_rfl
theorem tk_37 : tk Tryz.prog 37 = .fn := by kernel_rfl
theorem tk_38 : tk Tryz.prog 38 = .fn := by kernel_rfl
theorem tk_39 : tk Tryz.prog 39 = .st [(0, 1, false), (1, 1, false)] := by kernel_rfl
theorem tsh_39 : tsh Tryz.prog 39 = some (2, true) := by kernel_rfl
theorem co_39 : Program.cellsOf Tryz.prog 39 = 2 := by kernel_rfl
theorem zcs_39 : zcs Tryz.prog 39 = some [.pv (.str []), .pv (.int .i64 0)] := by kernel_rfl
theorem ze_39 : zeroElem Tryz.prog 39 = some (.agg [(.str []), (.int .i64 0)]) := by kernel_rfl
theorem zok_39 : zok Tryz.prog 39 = true := by kernel_rfl
theorem tk_40 : tk Tryz.prog 40 = .st [(0, 1, false), (1, 1, false)] := by kernel_rfl
theorem tsh_40 : tsh Tryz.prog 40 = some (2, true) := by kernel_rfl
theorem co_40 : Program.cellsOf Tryz.prog 40 = 2 := by kernel_rfl
theorem zcs_40 : zcs Tryz.prog 40 = some [.pv (.str []), .pv (.int .i64 0)] := by kernel_rfl
theorem ze_40 : zeroElem Tryz.prog 40 = some (.agg [(.str []), (.int .i64 0)]) := by kernel_rfl
theorem zok_40 : zok Tryz.prog 40 = true := by kernel_rfl
theorem tk_41 : tk Tryz.prog 41 = .fn := by kernel_rfl
theorem tk_42 : tk Tryz.prog 42 = .fn := by kernel_rfl
theorem tk_43 : tk Tryz.prog 43 = .fn := by kernel_rfl
theorem tk_44 : tk Tryz.prog 44 = .fn := by kernel_rfl
theorem tk_45 : tk Tryz.prog 45 = .fn := by kernel_rfl
theorem tk_46 : tk Tryz.prog 46 = .sl 9 1 16 false := by kernel_rfl
theorem tsh_46 : tsh Tryz.prog 46 = some (1, false) := by kernel_rfl
theorem co_46 : Program.cellsOf Tryz.prog 46 = 1 := by kernel_rfl
theorem zcs_46 : zcs Tryz.prog 46 = some [.nils] := by kernel_rfl
theorem ze_46 : zeroElem Tryz.prog 46 = some (.sl 1 []) := by kernel_rfl
theorem zok_46 : zok Tryz.prog 46 = true := by kernel_rfl
theorem tk_47 : tk Tryz.prog 47 = .map 9 3 := by kernel_rfl
theorem tsh_47 : tsh Tryz.prog 47 = some (1, false) := by kernel_rfl
theorem co_47 : Program.cellsOf Tryz.prog 47 = 1 := by kernel_rfl
theorem tk_49 : tk Tryz.prog 49 = .fn := by kernel_rfl
theorem tk_50 : tk Tryz.prog 50 = .fn := by kernel_rfl
theorem tk_51 : tk Tryz.prog 51 = .fn := by kernel_rfl
theorem tk_52 : tk Tryz.prog 52 = .st [(0, 1, false)] := by kernel_rfl
theorem tsh_52 : tsh Tryz.prog 52 = some (1, true) := by kernel_rfl
theorem co_52 : Program.cellsOf Tryz.prog 52 = 1 := by kernel_rfl
theorem zcs_52 : zcs Tryz.prog 52 = some [.pv (.int .i64 0)] := by kernel_rfl
theorem ze_52 : zeroElem Tryz.prog 52 = some (.agg [(.int .i64 0)]) := by kernel_rfl
theorem zok_52 : zok Tryz.prog 52 = true := by kernel_rfl
theorem tk_53 : tk Tryz.prog 53 = .st [(0, 1, false)] := by kernel_rfl
theorem tsh_53 : tsh Tryz.prog 53 = some (1, true) := by kernel_rfl
theorem co_53 : Program.cellsOf Tryz.prog 53 = 1 := by kernel_rfl
theorem zcs_53 : zcs Tryz.prog 53 = some [.pv (.int .i64 0)] := by kernel_rfl
theorem ze_53 : zeroElem Tryz.prog 53 = some (.agg [(.int .i64 0)]) := by kernel_rfl
theorem zok_53 : zok Tryz.prog 53 = true := by kernel_rfl
theorem tk_54 : tk Tryz.prog 54 = .ptr 87 := by kernel_rfl
theorem tsh_54 : tsh Tryz.prog 54 = some (1, false) := by kernel_rfl
theorem co_54 : Program.cellsOf Tryz.prog 54 = 1 := by kernel_rfl
theorem zcs_54 : zcs Tryz.prog 54 = some [.pv .nilp] := by kernel_rfl
theorem ze_54 : zeroElem Tryz.prog 54 = some .nilp := by kernel_rfl
theorem zok_54 : zok Tryz.prog 54 = true := by kernel_rfl
theorem tk_55 : tk Tryz.prog 55 = .fn := by kernel_rfl
theorem tk_56 : tk Tryz.prog 56 = .fn := by kernel_rfl
theorem tk_57 : tk Tryz.prog 57 = .fn := by kernel_rfl
theorem tk_58 : tk Tryz.prog 58 = .fn := by kernel_rfl
theorem tk_60 : tk Tryz.prog 60 = .fn := by kernel_rfl
theorem tk_61 : tk Tryz.prog 61 = .fn := by kernel_rfl
theorem tk_62 : tk Tryz.prog 62 = .fn := by kernel_rfl
theorem tk_63 : tk Tryz.prog 63 = .fn := by kernel_rfl
theorem tk_64 : tk Tryz.prog 64 = .fn := by kernel_rfl
theorem tk_65 : tk Tryz.prog 65 = .fn := by kernel_rfl
theorem tk_66 : tk Tryz.prog 66 = .fn := by kernel_rfl
theorem tk_67 : tk Tryz.prog 67 = .fn := by kernel_rfl
theorem tk_68 : tk Tryz.prog 68 = .fn := by kernel_rfl
theorem tk_69 : tk Tryz.prog 69 = .fn := by kernel_rfl
theorem tk_70 : tk Tryz.prog 70 = .ptr 72 := by kernel_rfl
theorem tsh_70 : tsh Tryz.prog 70 = some (1, false) := by kernel_rfl
theorem co_70 : Program.cellsOf Tryz.prog 70 = 1 := by kernel_rfl
theorem zcs_70 : zcs Tryz.prog 70 = some [.pv .nilp] := by kernel_rfl
theorem ze_70 : zeroElem Tryz.prog 70 = some .nilp := by kernel_rfl
theorem zok_70 : zok Tryz.prog 70 = true := by kernel_rfl
theorem tk_71 : tk Tryz.prog 71 = .st [(0, 1, false), (1, 1, false)] := by kernel_rfl
theorem tsh_71 : tsh Tryz.prog 71 = some (2, true) := by kernel_rfl
theorem co_71 : Program.cellsOf Tryz.prog 71 = 2 := by kernel_rfl
theorem zcs_71 : zcs Tryz.prog 71 = some [.nils, .pv (.int .i64 0)] := by kernel_rfl
theorem ze_71 : zeroElem Tryz.prog 71 = some (.agg [(.sl 1 []), (.int .i64 0)]) := by kernel_rfl
theorem zok_71 : zok Tryz.prog 71 = true := by kernel_rfl
theorem tk_72 : tk Tryz.prog 72 = .st [(0, 1, false), (1, 1, false)] := by kernel_rfl
theorem tsh_72 : tsh Tryz.prog 72 = some (2, true) := by kernel_rfl
theorem co_72 : Program.cellsOf Tryz.prog 72 = 2 := by kernel_rfl
theorem zcs_72 : zcs Tryz.prog 72 = some [.nils, .pv (.int .i64 0)] := by kernel_rfl
theorem ze_72 : zeroElem Tryz.prog 72 = some (.agg [(.sl 1 []), (.int .i64 0)]) := by kernel_rfl
theorem zok_72 : zok Tryz.prog 72 = true := by kernel_rfl
theorem tk_73 : tk Tryz.prog 73 = .fn := by kernel_rfl
theorem tk_74 : tk Tryz.prog 74 = .fn := by kernel_rfl
theorem tk_75 : tk Tryz.prog 75 = .fn := by kernel_rfl
theorem tk_76 : tk Tryz.prog 76 = .sl 4 1 1 false := by kernel_rfl
theorem tsh_76 : tsh Tryz.prog 76 = some (1, false) := by kernel_rfl
theorem co_76 : Program.cellsOf Tryz.prog 76 = 1 := by kernel_rfl
theorem zcs_76 : zcs Tryz.prog 76 = some [.nils] := by kernel_rfl
theorem ze_76 : zeroElem Tryz.prog 76 = some (.sl 1 []) := by kernel_rfl
theorem zok_76 : zok Tryz.prog 76 = true := by kernel_rfl
theorem tk_77 : tk Tryz.prog 77 = .fn := by kernel_rfl
theorem tk_78 : tk Tryz.prog 78 = .fn := by kernel_rfl
theorem tk_79 : tk Tryz.prog 79 = .fn := by kernel_rfl
theorem tk_81 : tk Tryz.prog 81 = .fn := by kernel_rfl
theorem tk_82 : tk Tryz.prog 82 = .int .u64 := by kernel_rfl
theorem tsh_82 : tsh Tryz.prog 82 = some (1, false) := by kernel_rfl
theorem co_82 : Program.cellsOf Tryz.prog 82 = 1 := by kernel_rfl
theorem zcs_82 : zcs Tryz.prog 82 = some [.pv (.int .u64 0)] := by kernel_rfl
theorem ze_82 : zeroElem Tryz.prog 82 = some (.int .u64 0) := by kernel_rfl
theorem zok_82 : zok Tryz.prog 82 = true := by kernel_rfl
theorem tk_83 : tk Tryz.prog 83 = .fn := by kernel_rfl
theorem tk_84 : tk Tryz.prog 84 = .st [(0, 1, false)] := by kernel_rfl
theorem tsh_84 : tsh Tryz.prog 84 = some (1, true) := by kernel_rfl
theorem co_84 : Program.cellsOf Tryz.prog 84 = 1 := by kernel_rfl
theorem zcs_84 : zcs Tryz.prog 84 = some [.nils] := by kernel_rfl
theorem ze_84 : zeroElem Tryz.prog 84 = some (.agg [(.sl 1 [])]) := by kernel_rfl
theorem zok_84 : zok Tryz.prog 84 = true := by kernel_rfl
theorem tk_85 : tk Tryz.prog 85 = .st [(0, 1, false)] := by kernel_rfl
theorem tsh_85 : tsh Tryz.prog 85 = some (1, true) := by kernel_rfl
theorem co_85 : Program.cellsOf Tryz.prog 85 = 1 := by kernel_rfl
theorem zcs_85 : zcs Tryz.prog 85 = some [.nils] := by kernel_rfl
theorem ze_85 : zeroElem Tryz.prog 85 = some (.agg [(.sl 1 [])]) := by kernel_rfl
theorem zok_85 : zok Tryz.prog 85 = true := by kernel_rfl
theorem tk_86 : tk Tryz.prog 86 = .st [(0, 1, true)] := by kernel_rfl
theorem tsh_86 : tsh Tryz.prog 86 = some (1, true) := by kernel_rfl
theorem co_86 : Program.cellsOf Tryz.prog 86 = 1 := by kernel_rfl
theorem zcs_86 : zcs Tryz.prog 86 = some [.nils] := by kernel_rfl
theorem ze_86 : zeroElem Tryz.prog 86 = some (.agg [(.sl 1 [])]) := by kernel_rfl
theorem zok_86 : zok Tryz.prog 86 = true := by kernel_rfl
theorem tk_87 : tk Tryz.prog 87 = .st [(0, 1, true)] := by kernel_rfl
theorem tsh_87 : tsh Tryz.prog 87 = some (1, true) := by kernel_rfl
theorem co_87 : Program.cellsOf Tryz.prog 87 = 1 := by kernel_rfl
theorem zcs_87 : zcs Tryz.prog 87 = some [.nils] := by kernel_rfl
theorem ze_87 : zeroElem Tryz.prog 87 = some (.agg [(.sl 1 [])]) := by kernel_rfl
theorem zok_87 : zok Tryz.prog 87 = true := by kernel_rfl
theorem tk_88 : tk Tryz.prog 88 = .fn := by kernel_rfl
theorem tk_89 : tk Tryz.prog 89 = .fn := by kernel_rfl
theorem tk_90 : tk Tryz.prog 90 = .fn := by kernel_rfl
theorem tk_91 : tk Tryz.prog 91 = .fn := by kernel_rfl
theorem tk_92 : tk Tryz.prog 92 = .fn := by kernel_rfl
theorem tk_93 : tk Tryz.prog 93 = .fn := by kernel_rfl
theorem tk_94 : tk Tryz.prog 94 = .sl 22 1 24 false := by kernel_rfl
theorem tsh_94 : tsh Tryz.prog 94 = some (1, false) := by kernel_rfl
theorem co_94 : Program.cellsOf Tryz.prog 94 = 1 := by kernel_rfl
theorem zcs_94 : zcs Tryz.prog 94 = some [.nils] := by kernel_rfl
theorem ze_94 : zeroElem Tryz.prog 94 = some (.sl 1 []) := by kernel_rfl
theorem zok_94 : zok Tryz.prog 94 = true := by kernel_rfl
theorem tk_95 : tk Tryz.prog 95 = .arr 64 5 1 false := by kernel_rfl
theorem tsh_95 : tsh Tryz.prog 95 = some (64, true) := by kernel_rfl
theorem co_95 : Program.cellsOf Tryz.prog 95 = 64 := by kernel_rfl
theorem zcs_95 : zcs Tryz.prog 95 = some [.pv (.int .u8 0), .pv (.int .u8 0), .pv (.int .u8 0), .pv (.int .u8 0), .pv (.int .u8 0), .pv (.int .u8 0), .pv (.int .u8 0), .pv (.int .u8 0), .pv (.int .u8 0), .pv (.int .u8 0), .pv (.int .u8 0), .pv (.int .u8 0), .pv (.int .u8 0), .pv (.int .u8 0), .pv (.int .u8 0), .pv (.int .u8 0), .pv (.int .u8 0), .pv (.int .u8 0), .pv (.int .u8 0), .pv (.int .u8 0), .pv (.int .u8 0), .pv (.int .u8 0), .pv (.int .u8 0), .pv (.int .u8 0), .pv (.int .u8 0), .pv (.int .u8 0), .pv (.int .u8 0), .pv (.int .u8 0), .pv (.int .u8 0), .pv (.int .u8 0), .pv (.int .u8 0), .pv (.int .u8 0), .pv (.int .u8 0), .pv (.int .u8 0), .pv (.int .u8 0), .pv (.int .u8 0), .pv (.int .u8 0), .pv (.int .u8 0), .pv (.int .u8 0), .pv (.int .u8 0), .pv (.int .u8 0), .pv (.int .u8 0), .pv (.int .u8 0), .pv (.int .u8 0), .pv (.int .u8 0), .pv (.int .u8 0), .pv (.int .u8 0), .pv (.int .u8 0), .pv (.int .u8 0), .pv (.int .u8 0), .pv (.int .u8 0), .pv (.int .u8 0), .pv (.int .u8 0), .pv (.int .u8 0), .pv (.int .u8 0), .pv (.int .u8 0), .pv (.int .u8 0), .pv (.int .u8 0), .pv (.int .u8 0), .pv (.int .u8 0), .pv (.int .u8 0), .pv (.int .u8 0), .pv (.int .u8 0), .pv (.int .u8 0)] := by kernel_rfl
theorem ze_95 : zeroElem Tryz.prog 95 = some (.agg [(.int .u8 0), (.int .u8 0), (.int .u8 0), (.int .u8 0), (.int .u8 0), (.int .u8 0), (.int .u8 0), (.int .u8 0), (.int .u8 0), (.int .u8 0), (.int .u8 0), (.int .u8 0), (.int .u8 0), (.int .u8 0), (.int .u8 0), (.int .u8 0), (.int .u8 0), (.int .u8 0), (.int .u8 0), (.int .u8 0), (.int .u8 0), (.int .u8 0), (.int .u8 0), (.int .u8 0), (.int .u8 0), (.int .u8 0), (.int .u8 0), (.int .u8 0), (.int .u8 0), (.int .u8 0), (.int .u8 0), (.int .u8 0), (.int .u8 0), (.int .u8 0), (.int .u8 0), (.int .u8 0), (.int .u8 0), (.int .u8 0), (.int .u8 0), (.int .u8 0), (.int .u8 0), (.int .u8 0), (.int .u8 0), (.int .u8 0), (.int .u8 0), (.int .u8 0), (.int .u8 0), (.int .u8 0), (.int .u8 0), (.int .u8 0), (.int .u8 0), (.int .u8 0), (.int .u8 0), (.int .u8 0), (.int .u8 0), (.int .u8 0), (.int .u8 0), (.int .u8 0), (.int .u8 0), (.int .u8 0), (.int .u8 0), (.int .u8 0), (.int .u8 0), (.int .u8 0)]) := by kernel_rfl
theorem zok_95 : zok Tryz.prog 95 = true := by kernel_rfl
theorem tk_96 : tk Tryz.prog 96 = .fn := by kernel_rfl
theorem tk_97 : tk Tryz.prog 97 = .sl 101 1 4 false := by kernel_rfl
theorem tsh_97 : tsh Tryz.prog 97 = some (1, false) := by kernel_rfl
theorem co_97 : Program.cellsOf Tryz.prog 97 = 1 := by kernel_rfl
theorem zcs_97 : zcs Tryz.prog 97 = some [.nils] := by kernel_rfl
theorem ze_97 : zeroElem Tryz.prog 97 = some (.sl 1 []) := by kernel_rfl
theorem zok_97 : zok Tryz.prog 97 = true := by kernel_rfl
theorem tk_99 : tk Tryz.prog 99 = .fn := by kernel_rfl
theorem tk_100 : tk Tryz.prog 100 = .fn := by kernel_rfl
theorem tk_101 : tk Tryz.prog 101 = .int .u32 := by kernel_rfl
theorem tsh_101 : tsh Tryz.prog 101 = some (1, false) := by kernel_rfl
theorem co_101 : Program.cellsOf Tryz.prog 101 = 1 := by kernel_rfl
theorem zcs_101 : zcs Tryz.prog 101 = some [.pv (.int .u32 0)] := by kernel_rfl
theorem ze_101 : zeroElem Tryz.prog 101 = some (.int .u32 0) := by kernel_rfl
theorem zok_101 : zok Tryz.prog 101 = true := by kernel_rfl
theorem tk_103 : tk Tryz.prog 103 = .fn := by kernel_rfl
theorem tk_105 : tk Tryz.prog 105 = .fn := by kernel_rfl
theorem tk_106 : tk Tryz.prog 106 = .fn := by kernel_rfl
theorem tk_107 : tk Tryz.prog 107 = .fn := by kernel_rfl
theorem tsh_107 : tsh Tryz.prog 107 = some (1, false) := by kernel_rfl
theorem co_107 : Program.cellsOf Tryz.prog 107 = 1 := by kernel_rfl
theorem zcs_107 : zcs Tryz.prog 107 = some [.pv .nilf] := by kernel_rfl
theorem ze_107 : zeroElem Tryz.prog 107 = some .nilf := by kernel_rfl
theorem zok_107 : zok Tryz.prog 107 = true := by kernel_rfl
theorem tk_108 : tk Tryz.prog 108 = .fn := by kernel_rfl
theorem tk_109 : tk Tryz.prog 109 = .fn := by kernel_rfl
theorem tk_110 : tk Tryz.prog 110 = .fn := by kernel_rfl
theorem tk_111 : tk Tryz.prog 111 = .fn := by kernel_rfl
theorem tk_113 : tk Tryz.prog 113 = .fn := by kernel_rfl
theorem tk_114 : tk Tryz.prog 114 = .ptr 85 := by kernel_rfl
theorem tsh_114 : tsh Tryz.prog 114 = some (1, false) := by kernel_rfl
theorem co_114 : Program.cellsOf Tryz.prog 114 = 1 := by kernel_rfl
theorem zcs_114 : zcs Tryz.prog 114 = some [.pv .nilp] := by kernel_rfl
theorem ze_114 : zeroElem Tryz.prog 114 = some .nilp := by kernel_rfl
theorem zok_114 : zok Tryz.prog 114 = true := by kernel_rfl
theorem tk_115 : tk Tryz.prog 115 = .fn := by kernel_rfl
theorem tk_116 : tk Tryz.prog 116 = .fn := by kernel_rfl
theorem tsh_116 : tsh Tryz.prog 116 = some (1, false) := by kernel_rfl
theorem co_116 : Program.cellsOf Tryz.prog 116 = 1 := by kernel_rfl
theorem zcs_116 : zcs Tryz.prog 116 = some [.pv .nilf] := by kernel_rfl
theorem ze_116 : zeroElem Tryz.prog 116 = some .nilf := by kernel_rfl
theorem zok_116 : zok Tryz.prog 116 = true := by kernel_rfl
theorem tk_117 : tk Tryz.prog 117 = .fn := by kernel_rfl
theorem tk_118 : tk Tryz.prog 118 = .ptr 122 := by kernel_rfl
theorem tsh_118 : tsh Tryz.prog 118 = some (1, false) := by kernel_rfl
theorem co_118 : Program.cellsOf Tryz.prog 118 = 1 := by kernel_rfl
theorem zcs_118 : zcs Tryz.prog 118 = some [.pv .nilp] := by kernel_rfl
theorem ze_118 : zeroElem Tryz.prog 118 = some .nilp := by kernel_rfl
theorem zok_118 : zok Tryz.prog 118 = true := by kernel_rfl
theorem tk_119 : tk Tryz.prog 119 = .arr 8 101 1 false := by kernel_rfl
theorem tsh_119 : tsh Tryz.prog 119 = some (8, true) := by kernel_rfl
theorem co_119 : Program.cellsOf Tryz.prog 119 = 8 := by kernel_rfl
theorem zcs_119 : zcs Tryz.prog 119 = some [.pv (.int .u32 0), .pv (.int .u32 0), .pv (.int .u32 0), .pv (.int .u32 0), .pv (.int .u32 0), .pv (.int .u32 0), .pv (.int .u32 0), .pv (.int .u32 0)] := by kernel_rfl
theorem ze_119 : zeroElem Tryz.prog 119 = some (.agg [(.int .u32 0), (.int .u32 0), (.int .u32 0), (.int .u32 0), (.int .u32 0), (.int .u32 0), (.int .u32 0), (.int .u32 0)]) := by kernel_rfl
theorem zok_119 : zok Tryz.prog 119 = true := by kernel_rfl
theorem tk_120 : tk Tryz.prog 120 = .arr 8 101 1 false := by kernel_rfl
theorem tsh_120 : tsh Tryz.prog 120 = some (8, true) := by kernel_rfl
theorem co_120 : Program.cellsOf Tryz.prog 120 = 8 := by kernel_rfl
theorem zcs_120 : zcs Tryz.prog 120 = some [.pv (.int .u32 0), .pv (.int .u32 0), .pv (.int .u32 0), .pv (.int .u32 0), .pv (.int .u32 0), .pv (.int .u32 0), .pv (.int .u32 0), .pv (.int .u32 0)] := by kernel_rfl
theorem ze_120 : zeroElem Tryz.prog 120 = some (.agg [(.int .u32 0), (.int .u32 0), (.int .u32 0), (.int .u32 0), (.int .u32 0), (.int .u32 0), (.int .u32 0), (.int .u32 0)]) := by kernel_rfl
theorem zok_120 : zok Tryz.prog 120 = true := by kernel_rfl
theorem tk_121 : tk Tryz.prog 121 = .st [(0, 1, false), (1, 8, true), (9, 64, true), (73, 1, false)] := by kernel_rfl
theorem tsh_121 : tsh Tryz.prog 121 = some (74, true) := by kernel_rfl
theorem co_121 : Program.cellsOf Tryz.prog 121 = 74 := by kernel_rfl
theorem zcs_121 : zcs Tryz.prog 121 = some [.pv (.bool false), .pv (.int .u32 0), .pv (.int .u32 0), .pv (.int .u32 0), .pv (.int .u32 0), .pv (.int .u32 0), .pv (.int .u32 0), .pv (.int .u32 0), .pv (.int .u32 0), .pv (.int .u8 0), .pv (.int .u8 0), .pv (.int .u8 0), .pv (.int .u8 0), .pv (.int .u8 0), .pv (.int .u8 0), .pv (.int .u8 0), .pv (.int .u8 0), .pv (.int .u8 0), .pv (.int .u8 0), .pv (.int .u8 0), .pv (.int .u8 0), .pv (.int .u8 0), .pv (.int .u8 0), .pv (.int .u8 0), .pv (.int .u8 0), .pv (.int .u8 0), .pv (.int .u8 0), .pv (.int .u8 0), .pv (.int .u8 0), .pv (.int .u8 0), .pv (.int .u8 0), .pv (.int .u8 0), .pv (.int .u8 0), .pv (.int .u8 0), .pv (.int .u8 0), .pv (.int .u8 0), .pv (.int .u8 0), .pv (.int .u8 0), .pv (.int .u8 0), .pv (.int .u8 0), .pv (.int .u8 0), .pv (.int .u8 0), .pv (.int .u8 0), .pv (.int .u8 0), .pv (.int .u8 0), .pv (.int .u8 0), .pv (.int .u8 0), .pv (.int .u8 0), .pv (.int .u8 0), .pv (.int .u8 0), .pv (.int .u8 0), .pv (.int .u8 0), .pv (.int .u8 0), .pv (.int .u8 0), .pv (.int .u8 0), .pv (.int .u8 0), .pv (.int .u8 0), .pv (.int .u8 0), .pv (.int .u8 0), .pv (.int .u8 0), .pv (.int .u8 0), .pv (.int .u8 0), .pv (.int .u8 0), .pv (.int .u8 0), .pv (.int .u8 0), .pv (.int .u8 0), .pv (.int .u8 0), .pv (.int .u8 0), .pv (.int .u8 0), .pv (.int .u8 0), .pv (.int .u8 0), .pv (.int .u8 0), .pv (.int .u8 0), .pv (.int .i64 0)] := by kernel_rfl
theorem ze_121 : zeroElem Tryz.prog 121 = some (.agg [(.bool false), (.int .u32 0), (.int .u32 0), (.int .u32 0), (.int .u32 0), (.int .u32 0), (.int .u32 0), (.int .u32 0), (.int .u32 0), (.int .u8 0), (.int .u8 0), (.int .u8 0), (.int .u8 0), (.int .u8 0), (.int .u8 0), (.int .u8 0), (.int .u8 0), (.int .u8 0), (.int .u8 0), (.int .u8 0), (.int .u8 0), (.int .u8 0), (.int .u8 0), (.int .u8 0), (.int .u8 0), (.int .u8 0), (.int .u8 0), (.int .u8 0), (.int .u8 0), (.int .u8 0), (.int .u8 0), (.int .u8 0), (.int .u8 0), (.int .u8 0), (.int .u8 0), (.int .u8 0), (.int .u8 0), (.int .u8 0), (.int .u8 0), (.int .u8 0), (.int .u8 0), (.int .u8 0), (.int .u8 0), (.int .u8 0), (.int .u8 0), (.int .u8 0), (.int .u8 0), (.int .u8 0), (.int .u8 0), (.int .u8 0), (.int .u8 0), (.int .u8 0), (.int .u8 0), (.int .u8 0), (.int .u8 0), (.int .u8 0), (.int .u8 0), (.int .u8 0), (.int .u8 0), (.int .u8 0), (.int .u8 0), (.int .u8 0), (.int .u8 0), (.int .u8 0), (.int .u8 0), (.int .u8 0), (.int .u8 0), (.int .u8 0), (.int .u8 0), (.int .u8 0), (.int .u8 0), (.int .u8 0), (.int .u8 0), (.int .i64 0)]) := by kernel_rfl
theorem zok_121 : zok Tryz.prog 121 = true := by kernel_rfl
theorem tk_122 : tk Tryz.prog 122 = .st [(0, 1, false), (1, 8, true), (9, 64, true), (73, 1, false)] := by kernel_rfl
theorem tsh_122 : tsh Tryz.prog 122 = some (74, true) := by kernel_rfl
theorem co_122 : Program.cellsOf Tryz.prog 122 = 74 := by kernel_rfl
theorem zcs_122 : zcs Tryz.prog 122 = some [.pv (.bool false), .pv (.int .u32 0), .pv (.int .u32 0), .pv (.int .u32 0), .pv (.int .u32 0), .pv (.int .u32 0), .pv (.int .u32 0), .pv (.int .u32 0), .pv (.int .u32 0), .pv (.int .u8 0), .pv (.int .u8 0), .pv (.int .u8 0), .pv (.int .u8 0), .pv (.int .u8 0), .pv (.int .u8 0), .pv (.int .u8 0), .pv (.int .u8 0), .pv (.int .u8 0), .pv (.int .u8 0), .pv (.int .u8 0), .pv (.int .u8 0), .pv (.int .u8 0), .pv (.int .u8 0), .pv (.int .u8 0), .pv (.int .u8 0), .pv (.int .u8 0), .pv (.int .u8 0), .pv (.int .u8 0), .pv (.int .u8 0), .pv (.int .u8 0), .pv (.int .u8 0), .pv (.int .u8 0), .pv (.int .u8 0), .pv (.int .u8 0), .pv (.int .u8 0), .pv (.int .u8 0), .pv (.int .u8 0), .pv (.int .u8 0), .pv (.int .u8 0), .pv (.int .u8 0), .pv (.int .u8 0), .pv (.int .u8 0), .pv (.int .u8 0), .pv (.int .u8 0), .pv (.int .u8 0), .pv (.int .u8 0), .pv (.int .u8 0), .pv (.int .u8 0), .pv (.int .u8 0), .pv (.int .u8 0), .pv (.int .u8 0), .pv (.int .u8 0), .pv (.int .u8 0), .pv (.int .u8 0), .pv (.int .u8 0), .pv (.int .u8 0), .pv (.int .u8 0), .pv (.int .u8 0), .pv (.int .u8 0), .pv (.int .u8 0), .pv (.int .u8 0), .pv (.int .u8 0), .pv (.int .u8 0), .pv (.int .u8 0), .pv (.int .u8 0), .pv (.int .u8 0), .pv (.int .u8 0), .pv (.int .u8 0), .pv (.int .u8 0), .pv (.int .u8 0), .pv (.int .u8 0), .pv (.int .u8 0), .pv (.int .u8 0), .pv (.int .i64 0)] := by kernel_rfl
theorem ze_122 : zeroElem Tryz.prog 122 = some (.agg [(.bool false), (.int .u32 0), (.int .u32 0), (.int .u32 0), (.int .u32 0), (.int .u32 0), (.int .u32 0), (.int .u32 0), (.int .u32 0), (.int .u8 0), (.int .u8 0), (.int .u8 0), (.int .u8 0), (.int .u8 0), (.int .u8 0), (.int .u8 0), (.int .u8 0), (.int .u8 0), (.int .u8 0), (.int .u8 0), (.int .u8 0), (.int .u8 0), (.int .u8 0), (.int .u8 0), (.int .u8 0), (.int .u8 0), (.int .u8 0), (.int .u8 0), (.int .u8 0), (.int .u8 0), (.int .u8 0), (.int .u8 0), (.int .u8 0), (.int .u8 0), (.int .u8 0), (.int .u8 0), (.int .u8 0), (.int .u8 0), (.int .u8 0), (.int .u8 0), (.int .u8 0), (.int .u8 0), (.int .u8 0), (.int .u8 0), (.int .u8 0), (.int .u8 0), (.int .u8 0), (.int .u8 0), (.int .u8 0), (.int .u8 0), (.int .u8 0), (.int .u8 0), (.int .u8 0), (.int .u8 0), (.int .u8 0), (.int .u8 0), (.int .u8 0), (.int .u8 0), (.int .u8 0), (.int .u8 0), (.int .u8 0), (.int .u8 0), (.int .u8 0), (.int .u8 0), (.int .u8 0), (.int .u8 0), (.int .u8 0), (.int .u8 0), (.int .u8 0), (.int .u8 0), (.int .u8 0), (.int .u8 0), (.int .u8 0), (.int .i64 0)]) := by kernel_rfl
theorem zok_122 : zok Tryz.prog 122 = true := by kernel_rfl
theorem tk_123 : tk Tryz.prog 123 = .fn := by kernel_rfl
theorem tk_124 : tk Tryz.prog 124 = .fn := by kernel_rfl
theorem tk_125 : tk Tryz.prog 125 = .fn := by kernel_rfl
theorem tk_126 : tk Tryz.prog 126 = .fn := by kernel_rfl
theorem tk_127 : tk Tryz.prog 127 = .fn := by kernel_rfl
theorem tk_128 : tk Tryz.prog 128 = .fn := by kernel_rfl
theorem tk_129 : tk Tryz.prog 129 = .int .i64 := by kernel_rfl
theorem tsh_129 : tsh Tryz.prog 129 = some (1, false) := by kernel_rfl
theorem co_129 : Program.cellsOf Tryz.prog 129 = 1 := by kernel_rfl
theorem zcs_129 : zcs Tryz.prog 129 = some [.pv (.int .i64 0)] := by kernel_rfl
theorem ze_129 : zeroElem Tryz.prog 129 = some (.int .i64 0) := by kernel_rfl
theorem zok_129 : zok Tryz.prog 129 = true := by kernel_rfl
theorem tk_131 : tk Tryz.prog 131 = .fn := by kernel_rfl
theorem tk_132 : tk Tryz.prog 132 = .fn := by kernel_rfl
theorem tk_133 : tk Tryz.prog 133 = .fn := by kernel_rfl
theorem tk_134 : tk Tryz.prog 134 = .fn := by kernel_rfl
theorem tk_135 : tk Tryz.prog 135 = .fn := by kernel_rfl
theorem tk_136 : tk Tryz.prog 136 = .fn := by kernel_rfl
theorem tk_137 : tk Tryz.prog 137 = .fn := by kernel_rfl
theorem tk_138 : tk Tryz.prog 138 = .fn := by kernel_rfl
theorem tk_139 : tk Tryz.prog 139 = .fn := by kernel_rfl
theorem tk_140 : tk Tryz.prog 140 = .fn := by kernel_rfl
theorem tk_141 : tk Tryz.prog 141 = .int .u64 := by kernel_rfl
theorem tsh_141 : tsh Tryz.prog 141 = some (1, false) := by kernel_rfl
theorem co_141 : Program.cellsOf Tryz.prog 141 = 1 := by kernel_rfl
theorem zcs_141 : zcs Tryz.prog 141 = some [.pv (.int .u64 0)] := by kernel_rfl
theorem ze_141 : zeroElem Tryz.prog 141 = some (.int .u64 0) := by kernel_rfl
theorem zok_141 : zok Tryz.prog 141 = true := by kernel_rfl
theorem tk_142 : tk Tryz.prog 142 = .fn := by kernel_rfl
theorem tk_143 : tk Tryz.prog 143 = .fn := by kernel_rfl
theorem tk_144 : tk Tryz.prog 144 = .ptr 3 := by kernel_rfl
theorem tsh_144 : tsh Tryz.prog 144 = some (1, false) := by kernel_rfl
theorem co_144 : Program.cellsOf Tryz.prog 144 = 1 := by kernel_rfl
theorem zcs_144 : zcs Tryz.prog 144 = some [.pv .nilp] := by kernel_rfl
theorem ze_144 : zeroElem Tryz.prog 144 = some .nilp := by kernel_rfl
theorem zok_144 : zok Tryz.prog 144 = true := by kernel_rfl
theorem tk_145 : tk Tryz.prog 145 = .fn := by kernel_rfl
theorem tk_146 : tk Tryz.prog 146 = .fn := by kernel_rfl
theorem tk_147 : tk Tryz.prog 147 = .arr 64 101 1 false := by kernel_rfl
theorem tsh_147 : tsh Tryz.prog 147 = some (64, true) := by kernel_rfl
theorem co_147 : Program.cellsOf Tryz.prog 147 = 64 := by kernel_rfl
theorem zcs_147 : zcs Tryz.prog 147 = some [.pv (.int .u32 0), .pv (.int .u32 0), .pv (.int .u32 0), .pv (.int .u32 0), .pv (.int .u32 0), .pv (.int .u32 0), .pv (.int .u32 0), .pv (.int .u32 0), .pv (.int .u32 0), .pv (.int .u32 0), .pv (.int .u32 0), .pv (.int .u32 0), .pv (.int .u32 0), .pv (.int .u32 0), .pv (.int .u32 0), .pv (.int .u32 0), .pv (.int .u32 0), .pv (.int .u32 0), .pv (.int .u32 0), .pv (.int .u32 0), .pv (.int .u32 0), .pv (.int .u32 0), .pv (.int .u32 0), .pv (.int .u32 0), .pv (.int .u32 0), .pv (.int .u32 0), .pv (.int .u32 0), .pv (.int .u32 0), .pv (.int .u32 0), .pv (.int .u32 0), .pv (.int .u32 0), .pv (.int .u32 0), .pv (.int .u32 0), .pv (.int .u32 0), .pv (.int .u32 0), .pv (.int .u32 0), .pv (.int .u32 0), .pv (.int .u32 0), .pv (.int .u32 0), .pv (.int .u32 0), .pv (.int .u32 0), .pv (.int .u32 0), .pv (.int .u32 0), .pv (.int .u32 0), .pv (.int .u32 0), .pv (.int .u32 0), .pv (.int .u32 0), .pv (.int .u32 0), .pv (.int .u32 0), .pv (.int .u32 0), .pv (.int .u32 0), .pv (.int .u32 0), .pv (.int .u32 0), .pv (.int .u32 0), .pv (.int .u32 0), .pv (.int .u32 0), .pv (.int .u32 0), .pv (.int .u32 0), .pv (.int .u32 0), .pv (.int .u32 0), .pv (.int .u32 0), .pv (.int .u32 0), .pv (.int .u32 0), .pv (.int .u32 0)] := by kernel_rfl
theorem ze_147 : zeroElem Tryz.prog 147 = some (.agg [(.int .u32 0), (.int .u32 0), (.int .u32 0), (.int .u32 0), (.int .u32 0), (.int .u32 0), (.int .u32 0), (.int .u32 0), (.int .u32 0), (.int .u32 0), (.int .u32 0), (.int .u32 0), (.int .u32 0), (.int .u32 0), (.int .u32 0), (.int .u32 0), (.int .u32 0), (.int .u32 0), (.int .u32 0), (.int .u32 0), (.int .u32 0), (.int .u32 0), (.int .u32 0), (.int .u32 0), (.int .u32 0), (.int .u32 0), (.int .u32 0), (.int .u32 0), (.int .u32 0), (.int .u32 0), (.int .u32 0), (.int .u32 0), (.int .u32 0), (.int .u32 0), (.int .u32 0), (.int .u32 0), (.int .u32 0), (.int .u32 0), (.int .u32 0), (.int .u32 0), (.int .u32 0), (.int .u32 0), (.int .u32 0), (.int .u32 0), (.int .u32 0), (.int .u32 0), (.int .u32 0), (.int .u32 0), (.int .u32 0), (.int .u32 0), (.int .u32 0), (.int .u32 0), (.int .u32 0), (.int .u32 0), (.int .u32 0), (.int .u32 0), (.int .u32 0), (.int .u32 0), (.int .u32 0), (.int .u32 0), (.int .u32 0), (.int .u32 0), (.int .u32 0), (.int .u32 0)]) := by kernel_rfl
theorem zok_147 : zok Tryz.prog 147 = true := by kernel_rfl
theorem tk_148 : tk Tryz.prog 148 = .fn := by kernel_rfl
theorem tk_149 : tk Tryz.prog 149 = .fn := by kernel_rfl
theorem tk_150 : tk Tryz.prog 150 = .fn := by kernel_rfl
theorem tk_151 : tk Tryz.prog 151 = .ptr 141 := by kernel_rfl
theorem tsh_151 : tsh Tryz.prog 151 = some (1, false) := by kernel_rfl
theorem co_151 : Program.cellsOf Tryz.prog 151 = 1 := by kernel_rfl
theorem zcs_151 : zcs Tryz.prog 151 = some [.pv .nilp] := by kernel_rfl
theorem ze_151 : zeroElem Tryz.prog 151 = some .nilp := by kernel_rfl
theorem zok_151 : zok Tryz.prog 151 = true := by kernel_rfl
theorem tk_153 : tk Tryz.prog 153 = .fn := by kernel_rfl
theorem tk_154 : tk Tryz.prog 154 = .fn := by kernel_rfl
theorem tk_155 : tk Tryz.prog 155 = .st [(0, 1, false), (1, 1, false), (2, 1, false), (3, 1, false)] := by kernel_rfl
theorem tsh_155 : tsh Tryz.prog 155 = some (4, true) := by kernel_rfl
theorem co_155 : Program.cellsOf Tryz.prog 155 = 4 := by kernel_rfl
theorem zcs_155 : zcs Tryz.prog 155 = some [.pv .nilp, .pv .nilp, .pv .nilp, .pv (.str [])] := by kernel_rfl
theorem ze_155 : zeroElem Tryz.prog 155 = some (.agg [.nilp, .nilp, .nilp, (.str [])]) := by kernel_rfl
theorem zok_155 : zok Tryz.prog 155 = true := by kernel_rfl
theorem tk_156 : tk Tryz.prog 156 = .st [(0, 1, false), (1, 1, false), (2, 1, false), (3, 1, false)] := by kernel_rfl
theorem tsh_156 : tsh Tryz.prog 156 = some (4, true) := by kernel_rfl
theorem co_156 : Program.cellsOf Tryz.prog 156 = 4 := by kernel_rfl
theorem zcs_156 : zcs Tryz.prog 156 = some [.pv .nilp, .pv .nilp, .pv .nilp, .pv (.str [])] := by kernel_rfl
theorem ze_156 : zeroElem Tryz.prog 156 = some (.agg [.nilp, .nilp, .nilp, (.str [])]) := by kernel_rfl
theorem zok_156 : zok Tryz.prog 156 = true := by kernel_rfl
theorem tk_157 : tk Tryz.prog 157 = .arr 0 16 1 false := by kernel_rfl
theorem tsh_157 : tsh Tryz.prog 157 = some (0, true) := by kernel_rfl
theorem co_157 : Program.cellsOf Tryz.prog 157 = 0 := by kernel_rfl
theorem zcs_157 : zcs Tryz.prog 157 = some [] := by kernel_rfl
theorem ze_157 : zeroElem Tryz.prog 157 = some (.agg []) := by kernel_rfl
theorem zok_157 : zok Tryz.prog 157 = true := by kernel_rfl
theorem tk_158 : tk Tryz.prog 158 = .st [(0, 0, true)] := by kernel_rfl
theorem tsh_158 : tsh Tryz.prog 158 = some (0, true) := by kernel_rfl
theorem co_158 : Program.cellsOf Tryz.prog 158 = 0 := by kernel_rfl
theorem zcs_158 : zcs Tryz.prog 158 = some [] := by kernel_rfl
theorem ze_158 : zeroElem Tryz.prog 158 = some (.agg []) := by kernel_rfl
theorem zok_158 : zok Tryz.prog 158 = true := by kernel_rfl
theorem tk_159 : tk Tryz.prog 159 = .st [(0, 0, true)] := by kernel_rfl
theorem tsh_159 : tsh Tryz.prog 159 = some (0, true) := by kernel_rfl
theorem co_159 : Program.cellsOf Tryz.prog 159 = 0 := by kernel_rfl
theorem zcs_159 : zcs Tryz.prog 159 = some [] := by kernel_rfl
theorem ze_159 : zeroElem Tryz.prog 159 = some (.agg []) := by kernel_rfl
theorem zok_159 : zok Tryz.prog 159 = true := by kernel_rfl
theorem tk_160 : tk Tryz.prog 160 = .int .u8 := by kernel_rfl
theorem tsh_160 : tsh Tryz.prog 160 = some (1, false) := by kernel_rfl
theorem co_160 : Program.cellsOf Tryz.prog 160 = 1 := by kernel_rfl
theorem zcs_160 : zcs Tryz.prog 160 = some [.pv (.int .u8 0)] := by kernel_rfl
theorem ze_160 : zeroElem Tryz.prog 160 = some (.int .u8 0) := by kernel_rfl
theorem zok_160 : zok Tryz.prog 160 = true := by kernel_rfl
theorem tk_161 : tk Tryz.prog 161 = .int .u8 := by kernel_rfl
theorem tsh_161 : tsh Tryz.prog 161 = some (1, false) := by kernel_rfl
theorem co_161 : Program.cellsOf Tryz.prog 161 = 1 := by kernel_rfl
theorem zcs_161 : zcs Tryz.prog 161 = some [.pv (.int .u8 0)] := by kernel_rfl
theorem ze_161 : zeroElem Tryz.prog 161 = some (.int .u8 0) := by kernel_rfl
theorem zok_161 : zok Tryz.prog 161 = true := by kernel_rfl
theorem tk_162 : tk Tryz.prog 162 = .fn := by kernel_rfl
theorem tk_163 : tk Tryz.prog 163 = .ptr 5 := by kernel_rfl
theorem tsh_163 : tsh Tryz.prog 163 = some (1, false) := by kernel_rfl
theorem co_163 : Program.cellsOf Tryz.prog 163 = 1 := by kernel_rfl
theorem zcs_163 : zcs Tryz.prog 163 = some [.pv .nilp] := by kernel_rfl
theorem ze_163 : zeroElem Tryz.prog 163 = some .nilp := by kernel_rfl
theorem zok_163 : zok Tryz.prog 163 = true := by kernel_rfl
theorem tk_164 : tk Tryz.prog 164 = .int .i32 := by kernel_rfl
theorem tsh_164 : tsh Tryz.prog 164 = some (1, false) := by kernel_rfl
theorem co_164 : Program.cellsOf Tryz.prog 164 = 1 := by kernel_rfl
theorem zcs_164 : zcs Tryz.prog 164 = some [.pv (.int .i32 0)] := by kernel_rfl
theorem ze_164 : zeroElem Tryz.prog 164 = some (.int .i32 0) := by kernel_rfl
theorem zok_164 : zok Tryz.prog 164 = true := by kernel_rfl
theorem tk_165 : tk Tryz.prog 165 = .int .i32 := by kernel_rfl
theorem tsh_165 : tsh Tryz.prog 165 = some (1, false) := by kernel_rfl
theorem co_165 : Program.cellsOf Tryz.prog 165 = 1 := by kernel_rfl
theorem zcs_165 : zcs Tryz.prog 165 = some [.pv (.int .i32 0)] := by kernel_rfl
theorem ze_165 : zeroElem Tryz.prog 165 = some (.int .i32 0) := by kernel_rfl
theorem zok_165 : zok Tryz.prog 165 = true := by kernel_rfl
theorem tk_166 : tk Tryz.prog 166 = .st [(0, 1, false), (1, 1, false), (2, 1, false), (3, 1, false), (4, 1, false), (5, 1, false), (6, 1, false), (7, 1, false), (8, 1, false), (9, 1, false), (10, 1, false)] := by kernel_rfl
theorem tsh_166 : tsh Tryz.prog 166 = some (11, true) := by kernel_rfl
theorem co_166 : Program.cellsOf Tryz.prog 166 = 11 := by kernel_rfl
theorem zcs_166 : zcs Tryz.prog 166 = some [.pv (.int .u64 0), .pv (.int .u64 0), .pv (.int .u32 0), .pv (.int .u8 0), .pv (.int .u8 0), .pv (.int .u8 0), .pv (.int .u8 0), .pv .nilf, .pv .nilp, .pv (.int .i32 0), .pv (.int .i32 0)] := by kernel_rfl
theorem ze_166 : zeroElem Tryz.prog 166 = some (.agg [(.int .u64 0), (.int .u64 0), (.int .u32 0), (.int .u8 0), (.int .u8 0), (.int .u8 0), (.int .u8 0), .nilf, .nilp, (.int .i32 0), (.int .i32 0)]) := by kernel_rfl
theorem zok_166 : zok Tryz.prog 166 = true := by kernel_rfl
theorem tk_167 : tk Tryz.prog 167 = .st [(0, 1, false), (1, 1, false), (2, 1, false), (3, 1, false), (4, 1, false), (5, 1, false), (6, 1, false), (7, 1, false), (8, 1, false), (9, 1, false), (10, 1, false)] := by kernel_rfl
theorem tsh_167 : tsh Tryz.prog 167 = some (11, true) := by kernel_rfl
theorem co_167 : Program.cellsOf Tryz.prog 167 = 11 := by kernel_rfl
theorem zcs_167 : zcs Tryz.prog 167 = some [.pv (.int .u64 0), .pv (.int .u64 0), .pv (.int .u32 0), .pv (.int .u8 0), .pv (.int .u8 0), .pv (.int .u8 0), .pv (.int .u8 0), .pv .nilf, .pv .nilp, .pv (.int .i32 0), .pv (.int .i32 0)] := by kernel_rfl
theorem ze_167 : zeroElem Tryz.prog 167 = some (.agg [(.int .u64 0), (.int .u64 0), (.int .u32 0), (.int .u8 0), (.int .u8 0), (.int .u8 0), (.int .u8 0), .nilf, .nilp, (.int .i32 0), (.int .i32 0)]) := by kernel_rfl
theorem zok_167 : zok Tryz.prog 167 = true := by kernel_rfl
theorem mixed : Tryz.prog.follows .mixedOrders = true := by kernel_rfl
attribute [go_sem] tk_1 tk_2 tsh_2 co_2 zcs_2 ze_2 zok_2 tk_3 tsh_3 co_3 zcs_3 ze_3 zok_3 tk_4 tsh_4 co_4 zcs_4 ze_4 zok_4 tk_5 tsh_5 co_5 zcs_5 ze_5 zok_5 tk_6 tsh_6 co_6 zcs_6 ze_6 zok_6 tk_7 tsh_7 co_7 zcs_7 ze_7 zok_7 tk_8 tsh_8 co_8 zcs_8 ze_8 zok_8 tk_9 tsh_9 co_9 zcs_9 ze_9 zok_9 tk_10 tsh_10 co_10 zcs_10 ze_10 zok_10 tk_11 tsh_11 co_11 zcs_11 ze_11 zok_11 tk_12 tsh_12 co_12 zcs_12 ze_12 zok_12 tk_13 tsh_13 co_13 zcs_13 ze_13 zok_13 tk_14 tsh_14 co_14 zcs_14 ze_14 zok_14 tk_15 tsh_15 co_15 zcs_15 ze_15 zok_15 tk_16 tsh_16 co_16 zcs_16 ze_16 zok_16 tk_17 tsh_17 co_17 zcs_17 ze_17 zok_17 tk_18 tsh_18 co_18 zcs_18 ze_18 zok_18 tk_19 tsh_19 co_19 zcs_19 ze_19 zok_19 tk_20 tk_21 tsh_21 co_21 zcs_21 ze_21 zok_21 tk_22 tsh_22 co_22 zcs_22 ze_22 zok_22 tk_23 tsh_23 co_23 zcs_23 ze_23 zok_23 tk_24 tsh_24 co_24 zcs_24 ze_24 zok_24 tk_25 tsh_25 co_25 zcs_25 ze_25 zok_25 tk_26 tsh_26 co_26 zcs_26 ze_26 zok_26 tk_27 tk_28 tk_29 tsh_29 co_29 zcs_29 ze_29 zok_29 tk_31 tk_33 tk_34 tk_35 tk_36 tk_37 tk_38 tk_39 tsh_39 co_39 zcs_39 ze_39 zok_39 tk_40 tsh_40 co_40 zcs_40 ze_40 zok_40 tk_41 tk_42 tk_43 tk_44 tk_45 tk_46 tsh_46 co_46 zcs_46 ze_46 zok_46 tk_47 tsh_47 co_47 tk_49 tk_50 tk_51 tk_52 tsh_52 co_52 zcs_52 ze_52 zok_52 tk_53 tsh_53 co_53 zcs_53 ze_53 zok_53 tk_54 tsh_54 co_54 zcs_54 ze_54 zok_54 tk_55 tk_56 tk_57 tk_58 tk_60 tk_61 tk_62 tk_63 tk_64 tk_65 tk_66 tk_67 tk_68 tk_69 tk_70 tsh_70 co_70 zcs_70 ze_70 zok_70 tk_71 tsh_71 co_71 zcs_71 ze_71 zok_71 tk_72 tsh_72 co_72 zcs_72 ze_72 zok_72 tk_73 tk_74 tk_75 tk_76 tsh_76 co_76 zcs_76 ze_76 zok_76 tk_77 tk_78 tk_79 tk_81 tk_82 tsh_82 co_82 zcs_82 ze_82 zok_82 tk_83 tk_84 tsh_84 co_84 zcs_84 ze_84 zok_84 tk_85 tsh_85 co_85 zcs_85 ze_85 zok_85 tk_86 tsh_86 co_86 zcs_86 ze_86 zok_86 tk_87 tsh_87 co_87 zcs_87 ze_87 zok_87 tk_88 tk_89 tk_90 tk_91 tk_92 tk_93 tk_94 tsh_94 co_94 zcs_94 ze_94 zok_94 tk_95 tsh_95 co_95 zcs_95 ze_95 zok_95 tk_96 tk_97 tsh_97 co_97 zcs_97 ze_97 zok_97 tk_99 tk_100 tk_101 tsh_101 co_101 zcs_101 ze_101 zok_101 tk_103 tk_105 tk_106 tk_107 tsh_107 co_107 zcs_107 ze_107 zok_107 tk_108 tk_109 tk_110 tk_111 tk_113 tk_114 tsh_114 co_114 zcs_114 ze_114 zok_114 tk_115 tk_116 tsh_116 co_116 zcs_116 ze_116 zok_116 tk_117 tk_118 tsh_118 co_118 zcs_118 ze_118 zok_118 tk_119 tsh_119 co_119 zcs_119 ze_119 zok_119 tk_120 tsh_120 co_120 zcs_120 ze_120 zok_120 tk_121 tsh_121 co_121 zcs_121 ze_121 zok_121 tk_122 tsh_122 co_122 zcs_122 ze_122 zok_122 tk_123 tk_124 tk_125 tk_126 tk_127 tk_128 tk_129 tsh_129 co_129 zcs_129 ze_129 zok_129 tk_131 tk_132 tk_133 tk_134 tk_135 tk_136 tk_137 tk_138 tk_139 tk_140 tk_141 tsh_141 co_141 zcs_141 ze_141 zok_141 tk_142 tk_143 tk_144 tsh_144 co_144 zcs_144 ze_144 zok_144 tk_145 tk_146 tk_147 tsh_147 co_147 zcs_147 ze_147 zok_147 tk_148 tk_149 tk_150 tk_151 tsh_151 co_151 zcs_151 ze_151 zok_151 tk_153 tk_154 tk_155 tsh_155 co_155 zcs_155 ze_155 zok_155 tk_156 tsh_156 co_156 zcs_156 ze_156 zok_156 tk_157 tsh_157 co_157 zcs_157 ze_157 zok_157 tk_158 tsh_158 co_158 zcs_158 ze_158 zok_158 tk_159 tsh_159 co_159 zcs_159 ze_159 zok_159 tk_160 tsh_160 co_160 zcs_160 ze_160 zok_160 tk_161 tsh_161 co_161 zcs_161 ze_161 zok_161 tk_162 tk_163 tsh_163 co_163 zcs_163 ze_163 zok_163 tk_164 tsh_164 co_164 zcs_164 ze_164 zok_164 tk_165 tsh_165 co_165 zcs_165 ze_165 zok_165 tk_166 tsh_166 co_166 zcs_166 ze_166 zok_166 tk_167 tsh_167 co_167 zcs_167 ze_167 zok_167 mixed
end Go.Ck

set_option linter.unusedVariables false
set_option maxRecDepth 10000
namespace Go.Ck
open Go.Proofs
theorem clone_bytes (l : List Nat) (hl : l.length ≤ room) : Fn Tryz.prog 59 [] [.pv (.sl 1 (bytes l))] (fun rs H' => rs = [.own 5 (bytes l)] ∧ H' = []) := by
  refine Fn.of_body (fn := Tryz.f59) (n := 8) (res := [.tmp 2]) (by kernel_rfl) rfl rfl rfl rfl rfl (fun C => ?_)
  refine AW.go ?_
  refine AW.eqNil (.inl rfl) rfl rfl rfl tk_22 (by simp only [go_sem, ↓reduceIte] <;> rfl) rfl rfl rfl (fun b hb => ?_)
  refine AW.go ?_
  refine AW.cond (b := b) (by simp only [go_sem, ↓reduceIte] <;> rfl) (fun h1 => ?_) (fun h1 => ?_)
  · have hx : l = [] := by simpa [bytes] using hb h1
    subst hx
    refine AW.go ?_
    refine AW.finE (.move rfl .nil) rfl
  · refine AW.go ?_ (by simp only [go_sem, ↓reduceIte, hl] <;> rfl)
    refine AW.finE (.move rfl .nil) rfl

theorem with_fn (xs ys : List Nat) (hl : xs.length + ys.length ≤ room) : Fn Tryz.prog 60 [] [.own 5 (bytes xs), .pv (.sl 1 (bytes ys))] (fun rs H' => rs = [.own 5 (bytes (xs ++ ys))] ∧ H' = []) := by
  refine Fn.of_body (fn := Tryz.f60) (n := 8) (res := [.tmp 4]) (by kernel_rfl) rfl rfl rfl rfl rfl (fun C => ?_)
  refine AW.go ?_ (by simp only [go_sem, ↓reduceIte, hl] <;> rfl)
  refine AW.finE (.move rfl .nil) rfl
end Go.Ck

set_option linter.unusedVariables false
namespace Go.Ck
def leb (v : Nat) : List Nat := if v < 128 then [v] else (v % 128 + 128) :: leb (v / 128)
termination_by v
decreasing_by omega
theorem leb_lt {v : Nat} (h : v < 128) : leb v = [v] := by rw [leb, if_pos h]
theorem leb_ge {v : Nat} (h : ¬ v < 128) : leb v = (v % 128 + 128) :: leb (v / 128) := by rw [leb, if_neg h]
theorem leb_pos (v : Nat) : 0 < (leb v).length := by
  by_cases h : v < 128
  · rw [leb_lt h]; simp
  · rw [leb_ge h]; simp
theorem leb_len (n : Nat) : ∀ v, v < 128 ^ (n + 1) → (leb v).length ≤ n + 1 := by
  induction n with
  | zero => intro v h; rw [leb_lt (by omega)]; simp
  | succ n ih =>
    intro v h
    by_cases h1 : v < 128
    · rw [leb_lt h1]; simp
    · rw [leb_ge h1, List.length_cons]
      have := ih (v / 128) (by rw [Nat.div_lt_iff_lt_mul (by omega)]; rw [Nat.pow_succ] at h; omega)
      omega
theorem leb_len10 {v : Nat} (h : v < 2 ^ 64) : (leb v).length ≤ 10 := leb_len 9 v (by omega)
theorem or128 {x : Nat} (h : x < 256) : x ||| 128 = x % 128 + 128 := by
  have : ∀ x : Fin 256, x.val ||| 128 = x.val % 128 + 128 := by decide +kernel
  exact this ⟨x, h⟩
end Go.Ck
namespace Go.Ck
/-- A number out of bytes; how many bytes it took; why there is none. -/
def rdv : Nat → Nat → List Nat → Nat × Nat × Int
  | _, _, [] => (0, 0, 2)
  | k, acc, x :: r => if k = 9 ∧ 1 < x then (0, 0, 3) else if 128 ≤ x then rdv (k + 1) (acc + x % 128 * 128 ^ k) r else if x = 0 ∧ 0 < k then (0, 0, 3) else (acc + x * 128 ^ k, k + 1, 0)
def readV (b : List Nat) : Nat × Nat × Int := rdv 0 0 (b.take 10)

theorem rdv_bound : ∀ (l : List Nat) (k acc : Nat), (rdv k acc l).2.1 ≤ k + l.length ∧ ((rdv k acc l).2.2 ≠ 0 → (rdv k acc l).1 = 0 ∧ (rdv k acc l).2.1 = 0) ∧ (rdv k acc l).2.1 ≤ k + l.length
  | [], k, acc => by simp [rdv]
  | x :: r, k, acc => by
    simp only [rdv]
    split
    · simp
    · split
      · have := rdv_bound r (k + 1) (acc + x % 128 * 128 ^ k)
        simp only [List.length_cons]
        refine ⟨by omega, this.2.1, by omega⟩
      · split
        · simp
        · simp
theorem readV_le (b : List Nat) : (readV b).2.1 ≤ b.length := by
  have := (rdv_bound (b.take 10) 0 0).1
  simp at this
  unfold readV
  omega
theorem rdv_lt : ∀ (l : List Nat) (k acc : Nat), k + l.length ≤ 10 → (∀ x ∈ l, x < 256) → acc < 128 ^ k → (rdv k acc l).1 < 2 ^ 64
  | [], k, acc, _, _, _ => by simp [rdv]
  | x :: r, k, acc, hk, hx, ha => by
    have hx0 := hx x (by simp)
    simp only [List.length_cons] at hk
    have hp : 128 ^ (k + 1) = 128 ^ k * 128 := Nat.pow_succ ..
    simp only [rdv]
    split
    · simp
    · rename_i h9
      split
      · refine rdv_lt r (k + 1) _ (by omega) (fun y hy => hx y (by simp [hy])) ?_
        rw [hp]
        have h1 : x % 128 * 128 ^ k ≤ 127 * 128 ^ k := Nat.mul_le_mul_right _ (by omega)
        omega
      · split
        · simp
        · simp only
          by_cases hk9 : k = 9
          · subst hk9
            have : x ≤ 1 := by omega
            have h1 : x * 128 ^ 9 ≤ 1 * 128 ^ 9 := Nat.mul_le_mul_right _ this
            omega
          · have h2 : 128 ^ k ≤ 128 ^ 8 := Nat.pow_le_pow_right (by omega) (by omega)
            have h1 : x * 128 ^ k ≤ 127 * 128 ^ k := Nat.mul_le_mul_right _ (by omega)
            omega
theorem readV_lt {b : List Nat} (hb : ∀ x ∈ b, x < 256) : (readV b).1 < 2 ^ 64 := rdv_lt _ 0 0 (by simp; omega) (fun x hx => hb x (List.mem_of_mem_take hx)) (by simp)
theorem andNot128 {x : Nat} (h : x < 256) : ibits .andNot .u8 (x : Int) 128 = ((x % 128 : Nat) : Int) := by
  have : ∀ x : Fin 256, ibits .andNot .u8 ((x.val : Nat) : Int) 128 = ((x.val % 128 : Nat) : Int) := by decide +kernel
  exact this ⟨x, h⟩
theorem or_shift {a x k : Nat} (ha : a < 128 ^ k) (hx : x * 128 ^ k < 2 ^ 64) (ha2 : a < 2 ^ 64) (hk : 7 * k ≤ 64) : ibits .or .u64 (a : Int) (shlI .u64 (x : Int) ((7 * k : Nat) : Int)) = ((a + x * 128 ^ k : Nat) : Int) := by
  have hp : (2 : Nat) ^ (7 * k) = 128 ^ k := by rw [Nat.pow_mul]
  rw [shlI_nat64 _ _ hk, hp, Nat.mod_eq_of_lt hx, ibits_or64 ha2 hx]
  congr 1
  have := Nat.two_pow_add_eq_or_of_lt (i := 7 * k) (b := a) (by rw [hp]; exact ha) x
  rw [hp] at this
  rw [Nat.or_comm, Nat.mul_comm x, ← this, Nat.add_comm]
end Go.Ck

set_option linter.unusedVariables false
set_option maxRecDepth 10000
namespace Go.Ck
open Go.Proofs
theorem append_fn (b : List Nat) (v : Nat) (hv : v < 2 ^ 64) (hl : b.length + 10 ≤ room) : Fn Tryz.prog 27 [] [.pv (.sl 1 (bytes b)), .pv (.int .u64 v)] (fun rs H' => rs = [.own 5 (bytes (b ++ leb v))] ∧ H' = []) := by
  refine Fn.of_body (fn := Tryz.f27) (n := 23) (res := [.tmp 4]) (by kernel_rfl) rfl rfl rfl rfl rfl (fun C => ?_)
  refine AW.go ?_
  refine AW.callE (fun _ => 0) (clone_bytes b (by omega)) (.pv _ .nil) ?_
  refine AW.go ?_
  have hlen := leb_len10 hv
  refine AW.loopS (fun a : List Nat × Nat => ⟨23, [(5, .own 5 (bytes a.1)), (1, .pv (.int .u64 a.2))], []⟩) (fun a => a.1 ++ leb a.2 = b ++ leb v ∧ a.2 < 2 ^ 64) (fun a => a.2) [5, 1] [] (b, v) ⟨rfl, hv⟩ ?_
  rintro ⟨o, u⟩ ⟨ho, hu⟩ K hK
  simp only at ho hu
  have hol : o.length + (leb u).length = b.length + (leb v).length := by rw [← List.length_append, ho, List.length_append]
  have hup := leb_pos u
  refine AW.go ?_
  refine AW.cond rfl (fun hb => ?_) (fun hb => ?_)
  · have hge : ¬ u < 128 := by simp at hb; omega
    refine AW.go ?_
    have e1 : ibits .or .u8 (IntKind.u8.wrap (u : Int)) 128 = ((u % 128 + 128 : Nat) : Int) := by
      rw [wrap_u8]
      have := ibits_or8 (a := u % 256) (b := 128) (by omega) (by omega)
      rw [or128 (by omega)] at this
      refine this.trans ?_
      congr 2; omega
    rw [e1]
    refine AW.callE (fun _ => 0) (with_fn o [u % 128 + 128] (by simp; omega)) (.move rfl (.lend rfl co_5 .nil)) ?_
    refine AW.go ?_
    have e2 : shrI .u64 (u : Int) 7 = ((u / 128 : Nat) : Int) := shrI_nat .u64 u 7 (by decide)
    refine AW.again hK (o ++ [u % 128 + 128], u / 128) ⟨?_, by simp only; omega⟩ (by simp only; omega) (by simp only [go_sem, ↓reduceIte]) (by simp only [go_sem, ↓reduceIte, e2])
    simp only [List.append_assoc, List.singleton_append]
    rw [← leb_ge hge, ho]
  · have hlt : u < 128 := by simp at hb; omega
    refine AW.go ?_
    have e1 : IntKind.u8.wrap (u : Int) = ((u : Nat) : Int) := wrap_u8_lt (by omega)
    rw [e1]
    refine AW.callE (fun _ => 0) (with_fn o [u] (by simp; omega)) (.move rfl (.lend rfl co_5 .nil)) ?_
    refine AW.go ?_
    refine AW.finE (.move rfl .nil) ?_
    rw [← ho, leb_lt hlt]
end Go.Ck

set_option linter.unusedVariables false
set_option maxRecDepth 10000
namespace Go.Ck
open Go.Proofs
abbrev curO (l : List Nat) : List (Nat × HO) := [(1000, .cells 87 [.pv (.sl 1 (bytes l))])]

attribute [go_sem] curO
theorem curNew_fn (l : List Nat) (hl : l.length ≤ room) : Fn Tryz.prog 30 [] [.pv (.sl 1 (bytes l))] (fun rs H' => rs = [.ptr 7 0] ∧ H' = [(7, .cells 87 [.pv (.sl 1 (bytes l))])]) := by
  refine Fn.of_body (fn := Tryz.f30) (n := 8) (res := [.tmp 2]) (by kernel_rfl) rfl rfl rfl rfl rfl (fun C => ?_)
  refine AW.go ?_
  refine AW.callE (fun _ => 0) (clone_bytes l hl) (.pv _ .nil) ?_
  refine AW.go ?_
  refine AW.finE (.ptr rfl .nil) rfl

theorem left_fn (l : List Nat) : Fn Tryz.prog 66 (curO l) [.ptr 1000 0] (fun rs H' => rs = [.pv (.int .i64 l.length)] ∧ H' = curO l) := by
  refine Fn.of_body (fn := Tryz.f66) (n := 8) (res := [.tmp 2]) (by kernel_rfl) rfl rfl rfl rfl rfl (fun C => ?_)
  refine AW.go ?_
  refine AW.finE (.pv _ .nil) rfl

theorem take_fn (l : List Nat) (n : Nat) (hn : n ≤ l.length) (hl : l.length ≤ room) : Fn Tryz.prog 81 (curO l) [.ptr 1000 0, .pv (.int .i64 n)] (fun rs H' => rs = [.own 5 (bytes (l.take n))] ∧ H' = curO (l.drop n)) := by
  refine Fn.of_body (fn := Tryz.f81) (n := 23) (res := [.tmp 4]) (by kernel_rfl) rfl rfl rfl rfl rfl (fun C => ?_)
  refine AW.go ?_ (by simp only [go_sem, ↓reduceIte, hn] <;> rfl)
  refine AW.callE (fun _ => 0) (clone_bytes (l.take n) (by simp; omega)) (.pv _ .nil) ?_
  have e : (((l.length : Int) - (n : Int)).toNat) = l.length - n := by omega
  have e2 : (bytes (l.drop n)).take (l.length - n) = bytes (l.drop n) := List.take_of_length_le (by simp [bytes])
  refine AW.go ?_ (by simp only [go_sem, ↓reduceIte, hn, e]; rw [← bytes_take, e2] <;> rfl)
  refine AW.finE (.move rfl .nil) rfl
end Go.Ck

set_option linter.unusedVariables false
set_option maxRecDepth 10000
namespace Go.Ck
open Go.Proofs
theorem curEnd_fn (l : List Nat) : Fn Tryz.prog 38 (curO l) [.ptr 1000 0] (fun rs H' => rs = [.pv (.int .i64 (if l = [] then 0 else 3))] ∧ H' = curO l) := by
  refine Fn.of_body (fn := Tryz.f38) (n := 12) (res := [.tmp 2]) (by kernel_rfl) rfl rfl rfl rfl rfl (fun C => ?_)
  refine AW.go ?_
  refine AW.condF rfl ?_
  refine AW.go ?_
  refine AW.callE id (left_fn l) (.ptr rfl .nil) ?_
  refine AW.go ?_
  refine AW.cond rfl (fun hb => ?_) (fun hb => ?_)
  · refine AW.go ?_
    refine AW.finE (.pv _ .nil) ?_
    rw [if_neg (by rintro rfl; simp at hb)]
  · refine AW.go ?_
    refine AW.finE (.pv _ .nil) ?_
    rw [if_pos (by simpa using hb)]

theorem curBytes_fn (l : List Nat) (n : Nat) (hl : l.length ≤ room) : Fn Tryz.prog 62 (curO l) [.ptr 1000 0, .pv (.int .i64 n)]
    (fun rs H' => rs = [.own 5 (bytes (if n ≤ l.length then l.take n else [])), .pv (.int .i64 (if n ≤ l.length then 0 else 2))] ∧ H' = curO (if n ≤ l.length then l.drop n else l)) := by
  refine Fn.of_body (fn := Tryz.f62) (n := 25) (res := [.tmp 4, .tmp 5]) (by kernel_rfl) rfl rfl rfl rfl rfl (fun C => ?_)
  refine AW.gg ?_
  refine AW.condF rfl ?_
  refine AW.go ?_
  refine AW.callE id (left_fn l) (.ptr rfl .nil) ?_
  refine AW.go ?_
  refine AW.cond rfl (fun hb => ?_) (fun hb => ?_)
  · have hn : ¬ n ≤ l.length := by simp at hb; omega
    simp only [if_neg hn]
    refine AW.go ?_
    refine AW.finE (.move rfl (.pv _ .nil)) rfl
  · have hn : n ≤ l.length := by simp at hb; omega
    simp only [if_pos hn]
    refine AW.go ?_
    refine AW.callE id (take_fn l n hn hl) (.ptr rfl (.pv _ .nil)) ?_
    refine AW.go ?_
    refine AW.finE (.move rfl (.pv _ .nil)) rfl
end Go.Ck
