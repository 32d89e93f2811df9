/- What is proved here: parts of the proofs of this seat's statements (a verified evaluator for calls over pure values, its laws, and contracts of functions). No condition. -/
import Derived.Test.YtmkoabmapmehdaaGreatDoorKm
import Derived.Test.YtmkoabmapmehdaaGreatDoorProg
import Derived.KernelRfl
import Derived.Test.YtmkoabmapmehdaaGreatDoorKl
set_option linter.all false
namespace Go.Ck
open Go.Proofs
theorem aJm:tk Tryz.prog 1= .fn:=by kernel_rfl
theorem aJl:tk Tryz.prog 2= .int .i64:=by kernel_rfl
theorem aE3:gq Tryz.prog 2=some (1,false):=by kernel_rfl
theorem aJw:Program.cellsOf Tryz.prog 2=1:=by kernel_rfl
theorem aEq:io Tryz.prog 2=some [.pv (.int .i64 0)]:=by kernel_rfl
theorem aI7:ax Tryz.prog 2=some (.int .i64 0):=by kernel_rfl
theorem aDh:i9 Tryz.prog 2=true:=by kernel_rfl
theorem arw:tk Tryz.prog 3= .int .i64:=by kernel_rfl
theorem aE2:gq Tryz.prog 3=some (1,false):=by kernel_rfl
theorem Ca:Program.cellsOf Tryz.prog 3=1:=by kernel_rfl
theorem aEp:io Tryz.prog 3=some [.pv (.int .i64 0)]:=by kernel_rfl
theorem aCu:ax Tryz.prog 3=some (.int .i64 0):=by kernel_rfl
theorem aDg:i9 Tryz.prog 3=true:=by kernel_rfl
theorem aJk:tk Tryz.prog 4= .bool:=by kernel_rfl
theorem aE1:gq Tryz.prog 4=some (1,false):=by kernel_rfl
theorem aJv:Program.cellsOf Tryz.prog 4=1:=by kernel_rfl
theorem aEo:io Tryz.prog 4=some [.pv (.bool false)]:=by kernel_rfl
theorem aI6:ax Tryz.prog 4=some (.bool false):=by kernel_rfl
theorem aDf:i9 Tryz.prog 4=true:=by kernel_rfl
theorem afc:tk Tryz.prog 5= .int .u8:=by kernel_rfl
theorem aE0:gq Tryz.prog 5=some (1,false):=by kernel_rfl
theorem c7:Program.cellsOf Tryz.prog 5=1:=by kernel_rfl
theorem aEn:io Tryz.prog 5=some [.pv (.int .u8 0)]:=by kernel_rfl
theorem aru:ax Tryz.prog 5=some (.int .u8 0):=by kernel_rfl
theorem aDe:i9 Tryz.prog 5=true:=by kernel_rfl
theorem aJj:tk Tryz.prog 6= .int .u8:=by kernel_rfl
theorem aEz:gq Tryz.prog 6=some (1,false):=by kernel_rfl
theorem aJu:Program.cellsOf Tryz.prog 6=1:=by kernel_rfl
theorem aEm:io Tryz.prog 6=some [.pv (.int .u8 0)]:=by kernel_rfl
theorem aI5:ax Tryz.prog 6=some (.int .u8 0):=by kernel_rfl
theorem aDd:i9 Tryz.prog 6=true:=by kernel_rfl
theorem aJi:tk Tryz.prog 7= .st [(0,1,false),(1,1,false),(2,1,false),(3,1,false)]:=by kernel_rfl
theorem aEy:gq Tryz.prog 7=some (4,true):=by kernel_rfl
theorem aJt:Program.cellsOf Tryz.prog 7=4:=by kernel_rfl
theorem aEl:io Tryz.prog 7=some [.pv (.int .i64 0),.pv (.int .i64 0),.pv (.bool false),.pv (.int .u8 0)]:=by kernel_rfl
theorem aI4:ax Tryz.prog 7=some (.agg [(.int .i64 0),(.int .i64 0),(.bool false),(.int .u8 0)]):=by kernel_rfl
theorem aDc:i9 Tryz.prog 7=true:=by kernel_rfl
theorem aJh:tk Tryz.prog 8= .st [(0,1,false),(1,1,false),(2,1,false),(3,1,false)]:=by kernel_rfl
theorem aEx:gq Tryz.prog 8=some (4,true):=by kernel_rfl
theorem aJs:Program.cellsOf Tryz.prog 8=4:=by kernel_rfl
theorem aEk:io Tryz.prog 8=some [.pv (.int .i64 0),.pv (.int .i64 0),.pv (.bool false),.pv (.int .u8 0)]:=by kernel_rfl
theorem aI3:ax Tryz.prog 8=some (.agg [(.int .i64 0),(.int .i64 0),(.bool false),(.int .u8 0)]):=by kernel_rfl
theorem aDb:i9 Tryz.prog 8=true:=by kernel_rfl
theorem afb:tk Tryz.prog 9= .str:=by kernel_rfl
theorem aEw:gq Tryz.prog 9=some (1,false):=by kernel_rfl
theorem ar4:Program.cellsOf Tryz.prog 9=1:=by kernel_rfl
theorem aEj:io Tryz.prog 9=some [.pv (.str [])]:=by kernel_rfl
theorem aI2:ax Tryz.prog 9=some (.str []):=by kernel_rfl
theorem aDa:i9 Tryz.prog 9=true:=by kernel_rfl
theorem aG7:tk Tryz.prog 10= .str:=by kernel_rfl
theorem awl:gq Tryz.prog 10=some (1,false):=by kernel_rfl
theorem aIg:Program.cellsOf Tryz.prog 10=1:=by kernel_rfl
theorem avb:io Tryz.prog 10=some [.pv (.str [])]:=by kernel_rfl
theorem aEi:ax Tryz.prog 10=some (.str []):=by kernel_rfl
theorem as6:i9 Tryz.prog 10=true:=by kernel_rfl
theorem aG6:tk Tryz.prog 11= .str:=by kernel_rfl
theorem awk:gq Tryz.prog 11=some (1,false):=by kernel_rfl
theorem aIf:Program.cellsOf Tryz.prog 11=1:=by kernel_rfl
theorem ava:io Tryz.prog 11=some [.pv (.str [])]:=by kernel_rfl
theorem aEh:ax Tryz.prog 11=some (.str []):=by kernel_rfl
theorem as5:i9 Tryz.prog 11=true:=by kernel_rfl
theorem aG5:tk Tryz.prog 12= .int .u64:=by kernel_rfl
theorem awj:gq Tryz.prog 12=some (1,false):=by kernel_rfl
theorem aIe:Program.cellsOf Tryz.prog 12=1:=by kernel_rfl
theorem au9:io Tryz.prog 12=some [.pv (.int .u64 0)]:=by kernel_rfl
theorem aEg:ax Tryz.prog 12=some (.int .u64 0):=by kernel_rfl
theorem as4:i9 Tryz.prog 12=true:=by kernel_rfl
theorem aG4:tk Tryz.prog 13= .st [(0,1,false),(1,1,false)]:=by kernel_rfl
theorem awi:gq Tryz.prog 13=some (2,true):=by kernel_rfl
theorem aId:Program.cellsOf Tryz.prog 13=2:=by kernel_rfl
theorem au8:io Tryz.prog 13=some [.pv (.str []),.pv (.int .u64 0)]:=by kernel_rfl
theorem aEf:ax Tryz.prog 13=some (.agg [(.str []),(.int .u64 0)]):=by kernel_rfl
theorem as3:i9 Tryz.prog 13=true:=by kernel_rfl
theorem aG3:tk Tryz.prog 14= .st [(0,1,false),(1,1,false)]:=by kernel_rfl
theorem awh:gq Tryz.prog 14=some (2,true):=by kernel_rfl
theorem aIc:Program.cellsOf Tryz.prog 14=2:=by kernel_rfl
theorem au7:io Tryz.prog 14=some [.pv (.str []),.pv (.int .u64 0)]:=by kernel_rfl
theorem aEe:ax Tryz.prog 14=some (.agg [(.str []),(.int .u64 0)]):=by kernel_rfl
theorem as2:i9 Tryz.prog 14=true:=by kernel_rfl
theorem aG2:tk Tryz.prog 15= .ptr 220:=by kernel_rfl
theorem awg:gq Tryz.prog 15=some (1,false):=by kernel_rfl
theorem aIb:Program.cellsOf Tryz.prog 15=1:=by kernel_rfl
theorem au6:io Tryz.prog 15=some [.pv .nilp]:=by kernel_rfl
theorem aEd:ax Tryz.prog 15=some .nilp:=by kernel_rfl
theorem as1:i9 Tryz.prog 15=true:=by kernel_rfl
theorem aG1:tk Tryz.prog 16= .ptr 223:=by kernel_rfl
theorem awf:gq Tryz.prog 16=some (1,false):=by kernel_rfl
theorem aIa:Program.cellsOf Tryz.prog 16=1:=by kernel_rfl
theorem au5:io Tryz.prog 16=some [.pv .nilp]:=by kernel_rfl
theorem aEc:ax Tryz.prog 16=some .nilp:=by kernel_rfl
theorem as0:i9 Tryz.prog 16=true:=by kernel_rfl
theorem aG0:tk Tryz.prog 17= .ptr 231:=by kernel_rfl
theorem awe:gq Tryz.prog 17=some (1,false):=by kernel_rfl
theorem aH9:Program.cellsOf Tryz.prog 17=1:=by kernel_rfl
theorem au4:io Tryz.prog 17=some [.pv .nilp]:=by kernel_rfl
theorem aEb:ax Tryz.prog 17=some .nilp:=by kernel_rfl
theorem asz:i9 Tryz.prog 17=true:=by kernel_rfl
theorem aGz:tk Tryz.prog 18= .st [(0,1,false)]:=by kernel_rfl
theorem awd:gq Tryz.prog 18=some (1,true):=by kernel_rfl
theorem aH8:Program.cellsOf Tryz.prog 18=1:=by kernel_rfl
theorem au3:io Tryz.prog 18=some [.pv .nilp]:=by kernel_rfl
theorem aEa:ax Tryz.prog 18=some (.agg [.nilp]):=by kernel_rfl
theorem asy:i9 Tryz.prog 18=true:=by kernel_rfl
theorem aGy:tk Tryz.prog 19= .st [(0,1,false)]:=by kernel_rfl
theorem awc:gq Tryz.prog 19=some (1,true):=by kernel_rfl
theorem aH7:Program.cellsOf Tryz.prog 19=1:=by kernel_rfl
theorem au2:io Tryz.prog 19=some [.pv .nilp]:=by kernel_rfl
theorem aD9:ax Tryz.prog 19=some (.agg [.nilp]):=by kernel_rfl
theorem asx:i9 Tryz.prog 19=true:=by kernel_rfl
theorem afl:tk Tryz.prog 20= .iface:=by kernel_rfl
theorem aGx:tk Tryz.prog 21= .int .i32:=by kernel_rfl
theorem awb:gq Tryz.prog 21=some (1,false):=by kernel_rfl
theorem aH6:Program.cellsOf Tryz.prog 21=1:=by kernel_rfl
theorem au1:io Tryz.prog 21=some [.pv (.int .i32 0)]:=by kernel_rfl
theorem aD8:ax Tryz.prog 21=some (.int .i32 0):=by kernel_rfl
theorem asw:i9 Tryz.prog 21=true:=by kernel_rfl
theorem s9:tk Tryz.prog 22= .sl 5 1 1 false:=by kernel_rfl
theorem awa:gq Tryz.prog 22=some (1,false):=by kernel_rfl
theorem ry:Program.cellsOf Tryz.prog 22=1:=by kernel_rfl
theorem au0:io Tryz.prog 22=some [.nils]:=by kernel_rfl
theorem aD7:ax Tryz.prog 22=some (.sl 1 []):=by kernel_rfl
theorem asv:i9 Tryz.prog 22=true:=by kernel_rfl
theorem aGw:tk Tryz.prog 23= .fn:=by kernel_rfl
theorem aGv:tk Tryz.prog 24= .int .u64:=by kernel_rfl
theorem av9:gq Tryz.prog 24=some (1,false):=by kernel_rfl
theorem Y1:Program.cellsOf Tryz.prog 24=1:=by kernel_rfl
theorem auz:io Tryz.prog 24=some [.pv (.int .u64 0)]:=by kernel_rfl
theorem aD6:ax Tryz.prog 24=some (.int .u64 0):=by kernel_rfl
theorem asu:i9 Tryz.prog 24=true:=by kernel_rfl
theorem aGu:tk Tryz.prog 25= .sl 55 2 24 true:=by kernel_rfl
theorem av8:gq Tryz.prog 25=some (1,false):=by kernel_rfl
theorem aH5:Program.cellsOf Tryz.prog 25=1:=by kernel_rfl
theorem auy:io Tryz.prog 25=some [.nils]:=by kernel_rfl
theorem aD5:ax Tryz.prog 25=some (.sl 1 []):=by kernel_rfl
theorem ast:i9 Tryz.prog 25=true:=by kernel_rfl
theorem aGt:tk Tryz.prog 26= .st [(0,1,false),(1,1,false),(2,1,false),(3,1,false)]:=by kernel_rfl
theorem av7:gq Tryz.prog 26=some (4,true):=by kernel_rfl
theorem aH4:Program.cellsOf Tryz.prog 26=4:=by kernel_rfl
theorem aux:io Tryz.prog 26=some [.pv (.int .u64 0),.nils,.nils,.nils]:=by kernel_rfl
theorem aD4:ax Tryz.prog 26=some (.agg [(.int .u64 0),(.sl 1 []),(.sl 1 []),(.sl 1 [])]):=by kernel_rfl
theorem ass:i9 Tryz.prog 26=true:=by kernel_rfl
theorem aGs:tk Tryz.prog 27= .st [(0,1,false),(1,1,false),(2,1,false),(3,1,false)]:=by kernel_rfl
theorem av6:gq Tryz.prog 27=some (4,true):=by kernel_rfl
theorem aH3:Program.cellsOf Tryz.prog 27=4:=by kernel_rfl
theorem auw:io Tryz.prog 27=some [.pv (.int .u64 0),.nils,.nils,.nils]:=by kernel_rfl
theorem aD3:ax Tryz.prog 27=some (.agg [(.int .u64 0),(.sl 1 []),(.sl 1 []),(.sl 1 [])]):=by kernel_rfl
theorem asr:i9 Tryz.prog 27=true:=by kernel_rfl
theorem aqz:tk Tryz.prog 28= .sl 22 1 24 false:=by kernel_rfl
theorem av5:gq Tryz.prog 28=some (1,false):=by kernel_rfl
theorem aH2:Program.cellsOf Tryz.prog 28=1:=by kernel_rfl
theorem auv:io Tryz.prog 28=some [.nils]:=by kernel_rfl
theorem aD2:ax Tryz.prog 28=some (.sl 1 []):=by kernel_rfl
theorem asq:i9 Tryz.prog 28=true:=by kernel_rfl
theorem aGr:tk Tryz.prog 29= .int .i64:=by kernel_rfl
theorem av4:gq Tryz.prog 29=some (1,false):=by kernel_rfl
theorem aH1:Program.cellsOf Tryz.prog 29=1:=by kernel_rfl
theorem auu:io Tryz.prog 29=some [.pv (.int .i64 0)]:=by kernel_rfl
theorem aD1:ax Tryz.prog 29=some (.int .i64 0):=by kernel_rfl
theorem aso:i9 Tryz.prog 29=true:=by kernel_rfl
theorem aGq:tk Tryz.prog 31= .fn:=by kernel_rfl
theorem aGp:tk Tryz.prog 33= .fn:=by kernel_rfl
theorem aGo:tk Tryz.prog 34= .fn:=by kernel_rfl
theorem aGn:tk Tryz.prog 35= .fn:=by kernel_rfl
theorem aGm:tk Tryz.prog 36= .st [(0,1,false),(1,1,false)]:=by kernel_rfl
theorem av3:gq Tryz.prog 36=some (2,true):=by kernel_rfl
theorem aH0:Program.cellsOf Tryz.prog 36=2:=by kernel_rfl
theorem aut:io Tryz.prog 36=some [.pv (.int .u64 0),.nils]:=by kernel_rfl
theorem aD0:ax Tryz.prog 36=some (.agg [(.int .u64 0),(.sl 1 [])]):=by kernel_rfl
theorem asn:i9 Tryz.prog 36=true:=by kernel_rfl
theorem aGl:tk Tryz.prog 37= .st [(0,1,false),(1,1,false)]:=by kernel_rfl
theorem av2:gq Tryz.prog 37=some (2,true):=by kernel_rfl
theorem aHz:Program.cellsOf Tryz.prog 37=2:=by kernel_rfl
theorem aus:io Tryz.prog 37=some [.pv (.int .u64 0),.nils]:=by kernel_rfl
theorem aDz:ax Tryz.prog 37=some (.agg [(.int .u64 0),(.sl 1 [])]):=by kernel_rfl
theorem asm:i9 Tryz.prog 37=true:=by kernel_rfl
theorem aGk:tk Tryz.prog 39= .fn:=by kernel_rfl
theorem aGj:tk Tryz.prog 40= .sl 138 2 16 true:=by kernel_rfl
theorem av1:gq Tryz.prog 40=some (1,false):=by kernel_rfl
theorem aHy:Program.cellsOf Tryz.prog 40=1:=by kernel_rfl
theorem aur:io Tryz.prog 40=some [.nils]:=by kernel_rfl
theorem aDy:ax Tryz.prog 40=some (.sl 1 []):=by kernel_rfl
theorem asl:i9 Tryz.prog 40=true:=by kernel_rfl
theorem aGi:tk Tryz.prog 41= .st [(0,1,false),(1,1,false)]:=by kernel_rfl
theorem av0:gq Tryz.prog 41=some (2,true):=by kernel_rfl
theorem aHx:Program.cellsOf Tryz.prog 41=2:=by kernel_rfl
theorem auq:io Tryz.prog 41=some [.pv (.str []),.nils]:=by kernel_rfl
theorem aDx:ax Tryz.prog 41=some (.agg [(.str []),(.sl 1 [])]):=by kernel_rfl
theorem ask:i9 Tryz.prog 41=true:=by kernel_rfl
theorem aGh:tk Tryz.prog 42= .st [(0,1,false),(1,1,false)]:=by kernel_rfl
theorem avz:gq Tryz.prog 42=some (2,true):=by kernel_rfl
theorem aHw:Program.cellsOf Tryz.prog 42=2:=by kernel_rfl
theorem aup:io Tryz.prog 42=some [.pv (.str []),.nils]:=by kernel_rfl
theorem aDw:ax Tryz.prog 42=some (.agg [(.str []),(.sl 1 [])]):=by kernel_rfl
theorem asj:i9 Tryz.prog 42=true:=by kernel_rfl
theorem aGg:tk Tryz.prog 43= .sl 42 2 40 true:=by kernel_rfl
theorem avy:gq Tryz.prog 43=some (1,false):=by kernel_rfl
theorem aHv:Program.cellsOf Tryz.prog 43=1:=by kernel_rfl
theorem auo:io Tryz.prog 43=some [.nils]:=by kernel_rfl
theorem aDv:ax Tryz.prog 43=some (.sl 1 []):=by kernel_rfl
theorem asi:i9 Tryz.prog 43=true:=by kernel_rfl
theorem aGf:tk Tryz.prog 44= .st [(0,4,true),(4,1,false),(5,1,false),(6,1,false)]:=by kernel_rfl
theorem avx:gq Tryz.prog 44=some (7,true):=by kernel_rfl
theorem aHu:Program.cellsOf Tryz.prog 44=7:=by kernel_rfl
theorem aum:io Tryz.prog 44=some [.pv (.int .u64 0),.nils,.nils,.nils,.pv (.int .i64 0),.nils,.nils]:=by kernel_rfl
theorem aDu:ax Tryz.prog 44=some (.agg [(.int .u64 0),(.sl 1 []),(.sl 1 []),(.sl 1 []),(.int .i64 0),(.sl 1 []),(.sl 1 [])]):=by kernel_rfl
theorem ash:i9 Tryz.prog 44=true:=by kernel_rfl
theorem aGe:tk Tryz.prog 45= .st [(0,4,true),(4,1,false),(5,1,false),(6,1,false)]:=by kernel_rfl
theorem avw:gq Tryz.prog 45=some (7,true):=by kernel_rfl
theorem aHt:Program.cellsOf Tryz.prog 45=7:=by kernel_rfl
theorem aul:io Tryz.prog 45=some [.pv (.int .u64 0),.nils,.nils,.nils,.pv (.int .i64 0),.nils,.nils]:=by kernel_rfl
theorem aDt:ax Tryz.prog 45=some (.agg [(.int .u64 0),(.sl 1 []),(.sl 1 []),(.sl 1 []),(.int .i64 0),(.sl 1 []),(.sl 1 [])]):=by kernel_rfl
theorem asg:i9 Tryz.prog 45=true:=by kernel_rfl
theorem aGd:tk Tryz.prog 47= .fn:=by kernel_rfl
theorem aGc:tk Tryz.prog 48= .fn:=by kernel_rfl
theorem aGb:tk Tryz.prog 50= .fn:=by kernel_rfl
theorem aGa:tk Tryz.prog 52= .fn:=by kernel_rfl
theorem aF9:tk Tryz.prog 53= .fn:=by kernel_rfl
theorem aF8:tk Tryz.prog 54= .st [(0,1,false),(1,1,false)]:=by kernel_rfl
theorem avv:gq Tryz.prog 54=some (2,true):=by kernel_rfl
theorem aHs:Program.cellsOf Tryz.prog 54=2:=by kernel_rfl
theorem auk:io Tryz.prog 54=some [.pv (.str []),.pv (.int .i64 0)]:=by kernel_rfl
theorem aDs:ax Tryz.prog 54=some (.agg [(.str []),(.int .i64 0)]):=by kernel_rfl
theorem asf:i9 Tryz.prog 54=true:=by kernel_rfl
theorem aF7:tk Tryz.prog 55= .st [(0,1,false),(1,1,false)]:=by kernel_rfl
theorem avu:gq Tryz.prog 55=some (2,true):=by kernel_rfl
theorem aHr:Program.cellsOf Tryz.prog 55=2:=by kernel_rfl
theorem auj:io Tryz.prog 55=some [.pv (.str []),.pv (.int .i64 0)]:=by kernel_rfl
theorem aDr:ax Tryz.prog 55=some (.agg [(.str []),(.int .i64 0)]):=by kernel_rfl
theorem ase:i9 Tryz.prog 55=true:=by kernel_rfl
theorem aF6:tk Tryz.prog 57= .fn:=by kernel_rfl
theorem aF5:tk Tryz.prog 58= .fn:=by kernel_rfl
theorem aF4:tk Tryz.prog 59= .fn:=by kernel_rfl
theorem aF3:tk Tryz.prog 60= .fn:=by kernel_rfl
theorem aF2:tk Tryz.prog 61= .fn:=by kernel_rfl
theorem aF1:tk Tryz.prog 62= .fn:=by kernel_rfl
theorem aF0:tk Tryz.prog 63= .fn:=by kernel_rfl
theorem aFz:tk Tryz.prog 65= .fn:=by kernel_rfl
theorem aFy:tk Tryz.prog 66= .fn:=by kernel_rfl
theorem aFx:tk Tryz.prog 67= .fn:=by kernel_rfl
theorem aFw:tk Tryz.prog 68= .ptr 110:=by kernel_rfl
theorem avt:gq Tryz.prog 68=some (1,false):=by kernel_rfl
theorem aHq:Program.cellsOf Tryz.prog 68=1:=by kernel_rfl
theorem aui:io Tryz.prog 68=some [.pv .nilp]:=by kernel_rfl
theorem aDq:ax Tryz.prog 68=some .nilp:=by kernel_rfl
theorem asd:i9 Tryz.prog 68=true:=by kernel_rfl
theorem aFv:tk Tryz.prog 69= .fn:=by kernel_rfl
theorem aFu:tk Tryz.prog 70= .fn:=by kernel_rfl
theorem aFt:tk Tryz.prog 72= .fn:=by kernel_rfl
theorem aFs:tk Tryz.prog 73= .fn:=by kernel_rfl
theorem aFr:tk Tryz.prog 74= .fn:=by kernel_rfl
theorem aFq:tk Tryz.prog 76= .fn:=by kernel_rfl
theorem aFp:tk Tryz.prog 77= .ptr 79:=by kernel_rfl
theorem avs:gq Tryz.prog 77=some (1,false):=by kernel_rfl
theorem aHp:Program.cellsOf Tryz.prog 77=1:=by kernel_rfl
theorem auh:io Tryz.prog 77=some [.pv .nilp]:=by kernel_rfl
theorem aDp:ax Tryz.prog 77=some .nilp:=by kernel_rfl
theorem asc:i9 Tryz.prog 77=true:=by kernel_rfl
theorem aFo:tk Tryz.prog 78= .st [(0,1,false),(1,1,false)]:=by kernel_rfl
theorem avr:gq Tryz.prog 78=some (2,true):=by kernel_rfl
theorem aHo:Program.cellsOf Tryz.prog 78=2:=by kernel_rfl
theorem aug:io Tryz.prog 78=some [.nils,.pv (.int .i64 0)]:=by kernel_rfl
theorem aDo:ax Tryz.prog 78=some (.agg [(.sl 1 []),(.int .i64 0)]):=by kernel_rfl
theorem asb:i9 Tryz.prog 78=true:=by kernel_rfl
theorem aFn:tk Tryz.prog 79= .st [(0,1,false),(1,1,false)]:=by kernel_rfl
theorem avq:gq Tryz.prog 79=some (2,true):=by kernel_rfl
theorem aHn:Program.cellsOf Tryz.prog 79=2:=by kernel_rfl
theorem auf:io Tryz.prog 79=some [.nils,.pv (.int .i64 0)]:=by kernel_rfl
theorem aDn:ax Tryz.prog 79=some (.agg [(.sl 1 []),(.int .i64 0)]):=by kernel_rfl
theorem asa:i9 Tryz.prog 79=true:=by kernel_rfl
theorem aFm:tk Tryz.prog 80= .fn:=by kernel_rfl
theorem aFl:tk Tryz.prog 81= .fn:=by kernel_rfl
theorem aFk:tk Tryz.prog 82= .sl 9 1 16 false:=by kernel_rfl
theorem avp:gq Tryz.prog 82=some (1,false):=by kernel_rfl
theorem aHm:Program.cellsOf Tryz.prog 82=1:=by kernel_rfl
theorem aue:io Tryz.prog 82=some [.nils]:=by kernel_rfl
theorem aDm:ax Tryz.prog 82=some (.sl 1 []):=by kernel_rfl
theorem ar9:i9 Tryz.prog 82=true:=by kernel_rfl
theorem aFj:tk Tryz.prog 83= .fn:=by kernel_rfl
theorem aFi:tk Tryz.prog 84= .fn:=by kernel_rfl
theorem aFh:tk Tryz.prog 85= .sl 4 1 1 false:=by kernel_rfl
theorem avo:gq Tryz.prog 85=some (1,false):=by kernel_rfl
theorem aHl:Program.cellsOf Tryz.prog 85=1:=by kernel_rfl
theorem aud:io Tryz.prog 85=some [.nils]:=by kernel_rfl
theorem aDl:ax Tryz.prog 85=some (.sl 1 []):=by kernel_rfl
theorem ar8:i9 Tryz.prog 85=true:=by kernel_rfl
theorem aFg:tk Tryz.prog 86= .fn:=by kernel_rfl
theorem aFf:tk Tryz.prog 87= .fn:=by kernel_rfl
theorem aFe:tk Tryz.prog 88= .st [(0,1,false),(1,1,false)]:=by kernel_rfl
theorem avn:gq Tryz.prog 88=some (2,true):=by kernel_rfl
theorem aHk:Program.cellsOf Tryz.prog 88=2:=by kernel_rfl
theorem auc:io Tryz.prog 88=some [.pv (.int .i64 0),.pv (.int .i64 0)]:=by kernel_rfl
theorem aDk:ax Tryz.prog 88=some (.agg [(.int .i64 0),(.int .i64 0)]):=by kernel_rfl
theorem ar7:i9 Tryz.prog 88=true:=by kernel_rfl
theorem aFd:tk Tryz.prog 89= .st [(0,1,false),(1,1,false)]:=by kernel_rfl
theorem avm:gq Tryz.prog 89=some (2,true):=by kernel_rfl
theorem aHj:Program.cellsOf Tryz.prog 89=2:=by kernel_rfl
theorem aub:io Tryz.prog 89=some [.pv (.int .i64 0),.pv (.int .i64 0)]:=by kernel_rfl
theorem aDj:ax Tryz.prog 89=some (.agg [(.int .i64 0),(.int .i64 0)]):=by kernel_rfl
theorem ar6:i9 Tryz.prog 89=true:=by kernel_rfl
theorem aFc:tk Tryz.prog 90= .fn:=by kernel_rfl
theorem aFb:tk Tryz.prog 92= .fn:=by kernel_rfl
theorem aFa:tk Tryz.prog 93= .int .u64:=by kernel_rfl
theorem avl:gq Tryz.prog 93=some (1,false):=by kernel_rfl
theorem aHi:Program.cellsOf Tryz.prog 93=1:=by kernel_rfl
theorem aua:io Tryz.prog 93=some [.pv (.int .u64 0)]:=by kernel_rfl
theorem aDi:ax Tryz.prog 93=some (.int .u64 0):=by kernel_rfl
theorem ar5:i9 Tryz.prog 93=true:=by kernel_rfl
theorem aE9:tk Tryz.prog 94= .fn:=by kernel_rfl
theorem aE8:tk Tryz.prog 95= .fn:=by kernel_rfl
theorem aE7:tk Tryz.prog 96= .fn:=by kernel_rfl
theorem aE6:tk Tryz.prog 97= .fn:=by kernel_rfl
theorem aE5:tk Tryz.prog 98= .fn:=by kernel_rfl
theorem aE4:tk Tryz.prog 99= .fn:=by kernel_rfl
theorem azz:tk Tryz.prog 100= .fn:=by kernel_rfl
theorem azy:tk Tryz.prog 102= .fn:=by kernel_rfl
theorem azx:tk Tryz.prog 103= .fn:=by kernel_rfl
theorem azw:tk Tryz.prog 104= .fn:=by kernel_rfl
theorem azv:tk Tryz.prog 105= .fn:=by kernel_rfl
theorem azu:tk Tryz.prog 106= .fn:=by kernel_rfl
theorem azt:tk Tryz.prog 107= .st [(0,1,false)]:=by kernel_rfl
theorem aov:gq Tryz.prog 107=some (1,true):=by kernel_rfl
theorem aCb:Program.cellsOf Tryz.prog 107=1:=by kernel_rfl
theorem anh:io Tryz.prog 107=some [.nils]:=by kernel_rfl
theorem at9:ax Tryz.prog 107=some (.agg [(.sl 1 [])]):=by kernel_rfl
theorem ama:i9 Tryz.prog 107=true:=by kernel_rfl
theorem azs:tk Tryz.prog 108= .st [(0,1,false)]:=by kernel_rfl
theorem aou:gq Tryz.prog 108=some (1,true):=by kernel_rfl
theorem aCa:Program.cellsOf Tryz.prog 108=1:=by kernel_rfl
theorem ang:io Tryz.prog 108=some [.nils]:=by kernel_rfl
theorem at8:ax Tryz.prog 108=some (.agg [(.sl 1 [])]):=by kernel_rfl
theorem al9:i9 Tryz.prog 108=true:=by kernel_rfl
theorem azr:tk Tryz.prog 109= .st [(0,1,true)]:=by kernel_rfl
theorem aot:gq Tryz.prog 109=some (1,true):=by kernel_rfl
theorem aB9:Program.cellsOf Tryz.prog 109=1:=by kernel_rfl
theorem anf:io Tryz.prog 109=some [.nils]:=by kernel_rfl
theorem at7:ax Tryz.prog 109=some (.agg [(.sl 1 [])]):=by kernel_rfl
theorem al8:i9 Tryz.prog 109=true:=by kernel_rfl
theorem azq:tk Tryz.prog 110= .st [(0,1,true)]:=by kernel_rfl
theorem aos:gq Tryz.prog 110=some (1,true):=by kernel_rfl
theorem aB8:Program.cellsOf Tryz.prog 110=1:=by kernel_rfl
theorem ane:io Tryz.prog 110=some [.nils]:=by kernel_rfl
theorem at6:ax Tryz.prog 110=some (.agg [(.sl 1 [])]):=by kernel_rfl
theorem al7:i9 Tryz.prog 110=true:=by kernel_rfl
theorem azp:tk Tryz.prog 112= .fn:=by kernel_rfl
theorem azo:tk Tryz.prog 113= .fn:=by kernel_rfl
theorem azn:tk Tryz.prog 114= .fn:=by kernel_rfl
theorem azm:tk Tryz.prog 115= .fn:=by kernel_rfl
theorem aor:gq Tryz.prog 115=some (1,false):=by kernel_rfl
theorem aB7:Program.cellsOf Tryz.prog 115=1:=by kernel_rfl
theorem anb:io Tryz.prog 115=some [.pv .nilf]:=by kernel_rfl
theorem at5:ax Tryz.prog 115=some .nilf:=by kernel_rfl
theorem al6:i9 Tryz.prog 115=true:=by kernel_rfl
theorem azl:tk Tryz.prog 116= .fn:=by kernel_rfl
theorem azk:tk Tryz.prog 117= .fn:=by kernel_rfl
theorem azj:tk Tryz.prog 119= .fn:=by kernel_rfl
theorem azi:tk Tryz.prog 120= .st [(0,1,false)]:=by kernel_rfl
theorem aoq:gq Tryz.prog 120=some (1,true):=by kernel_rfl
theorem aB6:Program.cellsOf Tryz.prog 120=1:=by kernel_rfl
theorem ana:io Tryz.prog 120=some [.pv (.int .i64 0)]:=by kernel_rfl
theorem at4:ax Tryz.prog 120=some (.agg [(.int .i64 0)]):=by kernel_rfl
theorem al5:i9 Tryz.prog 120=true:=by kernel_rfl
theorem afz:tk Tryz.prog 121= .st [(0,1,false)]:=by kernel_rfl
theorem aop:gq Tryz.prog 121=some (1,true):=by kernel_rfl
theorem aB5:Program.cellsOf Tryz.prog 121=1:=by kernel_rfl
theorem am9:io Tryz.prog 121=some [.pv (.int .i64 0)]:=by kernel_rfl
theorem at3:ax Tryz.prog 121=some (.agg [(.int .i64 0)]):=by kernel_rfl
theorem al4:i9 Tryz.prog 121=true:=by kernel_rfl
theorem azh:tk Tryz.prog 122= .fn:=by kernel_rfl
theorem azg:tk Tryz.prog 123= .fn:=by kernel_rfl
theorem azf:tk Tryz.prog 124= .fn:=by kernel_rfl
theorem aze:tk Tryz.prog 125= .fn:=by kernel_rfl
theorem azd:tk Tryz.prog 126= .fn:=by kernel_rfl
theorem azc:tk Tryz.prog 127= .fn:=by kernel_rfl
theorem N7:tk Tryz.prog 128= .map 9 3:=by kernel_rfl
theorem aoo:gq Tryz.prog 128=some (1,false):=by kernel_rfl
theorem aB4:Program.cellsOf Tryz.prog 128=1:=by kernel_rfl
theorem azb:tk Tryz.prog 130= .fn:=by kernel_rfl
theorem aza:tk Tryz.prog 131= .fn:=by kernel_rfl
theorem ay9:tk Tryz.prog 132= .fn:=by kernel_rfl
theorem ay8:tk Tryz.prog 133= .fn:=by kernel_rfl
theorem ay7:tk Tryz.prog 134= .fn:=by kernel_rfl
theorem ay6:tk Tryz.prog 135= .sl 3 1 8 false:=by kernel_rfl
theorem aon:gq Tryz.prog 135=some (1,false):=by kernel_rfl
theorem aB3:Program.cellsOf Tryz.prog 135=1:=by kernel_rfl
theorem am8:io Tryz.prog 135=some [.nils]:=by kernel_rfl
theorem at2:ax Tryz.prog 135=some (.sl 1 []):=by kernel_rfl
theorem al3:i9 Tryz.prog 135=true:=by kernel_rfl
theorem ay5:tk Tryz.prog 136= .sl 24 1 8 false:=by kernel_rfl
theorem aom:gq Tryz.prog 136=some (1,false):=by kernel_rfl
theorem aB2:Program.cellsOf Tryz.prog 136=1:=by kernel_rfl
theorem am7:io Tryz.prog 136=some [.nils]:=by kernel_rfl
theorem at1:ax Tryz.prog 136=some (.sl 1 []):=by kernel_rfl
theorem al2:i9 Tryz.prog 136=true:=by kernel_rfl
theorem ay4:tk Tryz.prog 137= .st [(0,1,false),(1,1,false)]:=by kernel_rfl
theorem aol:gq Tryz.prog 137=some (2,true):=by kernel_rfl
theorem aB1:Program.cellsOf Tryz.prog 137=2:=by kernel_rfl
theorem am6:io Tryz.prog 137=some [.pv (.int .i64 0),.pv (.int .u64 0)]:=by kernel_rfl
theorem at0:ax Tryz.prog 137=some (.agg [(.int .i64 0),(.int .u64 0)]):=by kernel_rfl
theorem al1:i9 Tryz.prog 137=true:=by kernel_rfl
theorem ay3:tk Tryz.prog 138= .st [(0,1,false),(1,1,false)]:=by kernel_rfl
theorem aok:gq Tryz.prog 138=some (2,true):=by kernel_rfl
theorem aB0:Program.cellsOf Tryz.prog 138=2:=by kernel_rfl
theorem am5:io Tryz.prog 138=some [.pv (.int .i64 0),.pv (.int .u64 0)]:=by kernel_rfl
theorem atz:ax Tryz.prog 138=some (.agg [(.int .i64 0),(.int .u64 0)]):=by kernel_rfl
theorem al0:i9 Tryz.prog 138=true:=by kernel_rfl
theorem ay2:tk Tryz.prog 139= .fn:=by kernel_rfl
theorem ay1:tk Tryz.prog 140= .fn:=by kernel_rfl
theorem ay0:tk Tryz.prog 141= .fn:=by kernel_rfl
theorem ayz:tk Tryz.prog 142= .fn:=by kernel_rfl
theorem ayy:tk Tryz.prog 143= .int .u32:=by kernel_rfl
theorem Oo:gq Tryz.prog 143=some (1,false):=by kernel_rfl
theorem Vv:Program.cellsOf Tryz.prog 143=1:=by kernel_rfl
theorem am4:io Tryz.prog 143=some [.pv (.int .u32 0)]:=by kernel_rfl
theorem aty:ax Tryz.prog 143=some (.int .u32 0):=by kernel_rfl
theorem alz:i9 Tryz.prog 143=true:=by kernel_rfl
theorem ayx:tk Tryz.prog 144= .fn:=by kernel_rfl
theorem ayw:tk Tryz.prog 145= .fn:=by kernel_rfl
theorem ayv:tk Tryz.prog 146= .fn:=by kernel_rfl
theorem ayu:tk Tryz.prog 147= .fn:=by kernel_rfl
theorem ayt:tk Tryz.prog 148= .fn:=by kernel_rfl
theorem ays:tk Tryz.prog 149= .ptr 108:=by kernel_rfl
theorem aoj:gq Tryz.prog 149=some (1,false):=by kernel_rfl
theorem aBz:Program.cellsOf Tryz.prog 149=1:=by kernel_rfl
theorem am3:io Tryz.prog 149=some [.pv .nilp]:=by kernel_rfl
theorem atx:ax Tryz.prog 149=some .nilp:=by kernel_rfl
theorem aly:i9 Tryz.prog 149=true:=by kernel_rfl
theorem ayr:tk Tryz.prog 150= .fn:=by kernel_rfl
theorem ayq:tk Tryz.prog 151= .fn:=by kernel_rfl
theorem ayp:tk Tryz.prog 152= .fn:=by kernel_rfl
theorem ayo:tk Tryz.prog 154= .fn:=by kernel_rfl
theorem ayn:tk Tryz.prog 155= .ptr 160:=by kernel_rfl
theorem aoi:gq Tryz.prog 155=some (1,false):=by kernel_rfl
theorem aBy:Program.cellsOf Tryz.prog 155=1:=by kernel_rfl
theorem am2:io Tryz.prog 155=some [.pv .nilp]:=by kernel_rfl
theorem atw:ax Tryz.prog 155=some .nilp:=by kernel_rfl
theorem alx:i9 Tryz.prog 155=true:=by kernel_rfl
theorem afy:tk Tryz.prog 156= .arr 8 143 1 false:=by kernel_rfl
theorem aoh:gq Tryz.prog 156=some (8,true):=by kernel_rfl
theorem aBx:Program.cellsOf Tryz.prog 156=8:=by kernel_rfl
theorem am1:io Tryz.prog 156=some [.pv (.int .u32 0),.pv (.int .u32 0),.pv (.int .u32 0),.pv (.int .u32 0),.pv (.int .u32 0),.pv (.int .u32 0),.pv (.int .u32 0),.pv (.int .u32 0)]:=by kernel_rfl
theorem atv:ax Tryz.prog 156=some (.agg [(.int .u32 0),(.int .u32 0),(.int .u32 0),(.int .u32 0),(.int .u32 0),(.int .u32 0),(.int .u32 0),(.int .u32 0)]):=by kernel_rfl
theorem alw:i9 Tryz.prog 156=true:=by kernel_rfl
theorem afx:tk Tryz.prog 157= .arr 8 143 1 false:=by kernel_rfl
theorem On:gq Tryz.prog 157=some (8,true):=by kernel_rfl
theorem aBw:Program.cellsOf Tryz.prog 157=8:=by kernel_rfl
theorem am0:io Tryz.prog 157=some [.pv (.int .u32 0),.pv (.int .u32 0),.pv (.int .u32 0),.pv (.int .u32 0),.pv (.int .u32 0),.pv (.int .u32 0),.pv (.int .u32 0),.pv (.int .u32 0)]:=by kernel_rfl
theorem atu:ax Tryz.prog 157=some (.agg [(.int .u32 0),(.int .u32 0),(.int .u32 0),(.int .u32 0),(.int .u32 0),(.int .u32 0),(.int .u32 0),(.int .u32 0)]):=by kernel_rfl
theorem alv:i9 Tryz.prog 157=true:=by kernel_rfl
theorem N6:tk Tryz.prog 158= .arr 64 5 1 false:=by kernel_rfl
theorem aog:gq Tryz.prog 158=some (64,true):=by kernel_rfl
theorem aBv:Program.cellsOf Tryz.prog 158=64:=by kernel_rfl
theorem amz:io Tryz.prog 158=some [.pv (.int .u8 0),.pv (.int .u8 0),.pv (.int .u8 0),.pv (.int .u8 0),.pv (.int .u8 0),.pv (.int .u8 0),.pv (.int .u8 0),.pv (.int .u8 0),.pv (.int .u8 0),.pv (.int .u8 0),.pv (.int .u8 0),.pv (.int .u8 0),.pv (.int .u8 0),.pv (.int .u8 0),.pv (.int .u8 0),.pv (.int .u8 0),.pv (.int .u8 0),.pv (.int .u8 0),.pv (.int .u8 0),.pv (.int .u8 0),.pv (.int .u8 0),.pv (.int .u8 0),.pv (.int .u8 0),.pv (.int .u8 0),.pv (.int .u8 0),.pv (.int .u8 0),.pv (.int .u8 0),.pv (.int .u8 0),.pv (.int .u8 0),.pv (.int .u8 0),.pv (.int .u8 0),.pv (.int .u8 0),.pv (.int .u8 0),.pv (.int .u8 0),.pv (.int .u8 0),.pv (.int .u8 0),.pv (.int .u8 0),.pv (.int .u8 0),.pv (.int .u8 0),.pv (.int .u8 0),.pv (.int .u8 0),.pv (.int .u8 0),.pv (.int .u8 0),.pv (.int .u8 0),.pv (.int .u8 0),.pv (.int .u8 0),.pv (.int .u8 0),.pv (.int .u8 0),.pv (.int .u8 0),.pv (.int .u8 0),.pv (.int .u8 0),.pv (.int .u8 0),.pv (.int .u8 0),.pv (.int .u8 0),.pv (.int .u8 0),.pv (.int .u8 0),.pv (.int .u8 0),.pv (.int .u8 0),.pv (.int .u8 0),.pv (.int .u8 0),.pv (.int .u8 0),.pv (.int .u8 0),.pv (.int .u8 0),.pv (.int .u8 0)]:=by kernel_rfl
theorem att:ax Tryz.prog 158=some (.agg [(.int .u8 0),(.int .u8 0),(.int .u8 0),(.int .u8 0),(.int .u8 0),(.int .u8 0),(.int .u8 0),(.int .u8 0),(.int .u8 0),(.int .u8 0),(.int .u8 0),(.int .u8 0),(.int .u8 0),(.int .u8 0),(.int .u8 0),(.int .u8 0),(.int .u8 0),(.int .u8 0),(.int .u8 0),(.int .u8 0),(.int .u8 0),(.int .u8 0),(.int .u8 0),(.int .u8 0),(.int .u8 0),(.int .u8 0),(.int .u8 0),(.int .u8 0),(.int .u8 0),(.int .u8 0),(.int .u8 0),(.int .u8 0),(.int .u8 0),(.int .u8 0),(.int .u8 0),(.int .u8 0),(.int .u8 0),(.int .u8 0),(.int .u8 0),(.int .u8 0),(.int .u8 0),(.int .u8 0),(.int .u8 0),(.int .u8 0),(.int .u8 0),(.int .u8 0),(.int .u8 0),(.int .u8 0),(.int .u8 0),(.int .u8 0),(.int .u8 0),(.int .u8 0),(.int .u8 0),(.int .u8 0),(.int .u8 0),(.int .u8 0),(.int .u8 0),(.int .u8 0),(.int .u8 0),(.int .u8 0),(.int .u8 0),(.int .u8 0),(.int .u8 0),(.int .u8 0)]):=by kernel_rfl
theorem alu:i9 Tryz.prog 158=true:=by kernel_rfl
theorem aym:tk Tryz.prog 159= .st [(0,1,false),(1,8,true),(9,64,true),(73,1,false)]:=by kernel_rfl
theorem aof:gq Tryz.prog 159=some (74,true):=by kernel_rfl
theorem aBu:Program.cellsOf Tryz.prog 159=74:=by kernel_rfl
theorem amy:io Tryz.prog 159=some [.pv (.bool false),.pv (.int .u32 0),.pv (.int .u32 0),.pv (.int .u32 0),.pv (.int .u32 0),.pv (.int .u32 0),.pv (.int .u32 0),.pv (.int .u32 0),.pv (.int .u32 0),.pv (.int .u8 0),.pv (.int .u8 0),.pv (.int .u8 0),.pv (.int .u8 0),.pv (.int .u8 0),.pv (.int .u8 0),.pv (.int .u8 0),.pv (.int .u8 0),.pv (.int .u8 0),.pv (.int .u8 0),.pv (.int .u8 0),.pv (.int .u8 0),.pv (.int .u8 0),.pv (.int .u8 0),.pv (.int .u8 0),.pv (.int .u8 0),.pv (.int .u8 0),.pv (.int .u8 0),.pv (.int .u8 0),.pv (.int .u8 0),.pv (.int .u8 0),.pv (.int .u8 0),.pv (.int .u8 0),.pv (.int .u8 0),.pv (.int .u8 0),.pv (.int .u8 0),.pv (.int .u8 0),.pv (.int .u8 0),.pv (.int .u8 0),.pv (.int .u8 0),.pv (.int .u8 0),.pv (.int .u8 0),.pv (.int .u8 0),.pv (.int .u8 0),.pv (.int .u8 0),.pv (.int .u8 0),.pv (.int .u8 0),.pv (.int .u8 0),.pv (.int .u8 0),.pv (.int .u8 0),.pv (.int .u8 0),.pv (.int .u8 0),.pv (.int .u8 0),.pv (.int .u8 0),.pv (.int .u8 0),.pv (.int .u8 0),.pv (.int .u8 0),.pv (.int .u8 0),.pv (.int .u8 0),.pv (.int .u8 0),.pv (.int .u8 0),.pv (.int .u8 0),.pv (.int .u8 0),.pv (.int .u8 0),.pv (.int .u8 0),.pv (.int .u8 0),.pv (.int .u8 0),.pv (.int .u8 0),.pv (.int .u8 0),.pv (.int .u8 0),.pv (.int .u8 0),.pv (.int .u8 0),.pv (.int .u8 0),.pv (.int .u8 0),.pv (.int .i64 0)]:=by kernel_rfl
theorem ats:ax Tryz.prog 159=some (.agg [(.bool false),(.int .u32 0),(.int .u32 0),(.int .u32 0),(.int .u32 0),(.int .u32 0),(.int .u32 0),(.int .u32 0),(.int .u32 0),(.int .u8 0),(.int .u8 0),(.int .u8 0),(.int .u8 0),(.int .u8 0),(.int .u8 0),(.int .u8 0),(.int .u8 0),(.int .u8 0),(.int .u8 0),(.int .u8 0),(.int .u8 0),(.int .u8 0),(.int .u8 0),(.int .u8 0),(.int .u8 0),(.int .u8 0),(.int .u8 0),(.int .u8 0),(.int .u8 0),(.int .u8 0),(.int .u8 0),(.int .u8 0),(.int .u8 0),(.int .u8 0),(.int .u8 0),(.int .u8 0),(.int .u8 0),(.int .u8 0),(.int .u8 0),(.int .u8 0),(.int .u8 0),(.int .u8 0),(.int .u8 0),(.int .u8 0),(.int .u8 0),(.int .u8 0),(.int .u8 0),(.int .u8 0),(.int .u8 0),(.int .u8 0),(.int .u8 0),(.int .u8 0),(.int .u8 0),(.int .u8 0),(.int .u8 0),(.int .u8 0),(.int .u8 0),(.int .u8 0),(.int .u8 0),(.int .u8 0),(.int .u8 0),(.int .u8 0),(.int .u8 0),(.int .u8 0),(.int .u8 0),(.int .u8 0),(.int .u8 0),(.int .u8 0),(.int .u8 0),(.int .u8 0),(.int .u8 0),(.int .u8 0),(.int .u8 0),(.int .i64 0)]):=by kernel_rfl
theorem alt:i9 Tryz.prog 159=true:=by kernel_rfl
theorem ayl:tk Tryz.prog 160= .st [(0,1,false),(1,8,true),(9,64,true),(73,1,false)]:=by kernel_rfl
theorem Ol:gq Tryz.prog 160=some (74,true):=by kernel_rfl
theorem aBt:Program.cellsOf Tryz.prog 160=74:=by kernel_rfl
theorem amx:io Tryz.prog 160=some [.pv (.bool false),.pv (.int .u32 0),.pv (.int .u32 0),.pv (.int .u32 0),.pv (.int .u32 0),.pv (.int .u32 0),.pv (.int .u32 0),.pv (.int .u32 0),.pv (.int .u32 0),.pv (.int .u8 0),.pv (.int .u8 0),.pv (.int .u8 0),.pv (.int .u8 0),.pv (.int .u8 0),.pv (.int .u8 0),.pv (.int .u8 0),.pv (.int .u8 0),.pv (.int .u8 0),.pv (.int .u8 0),.pv (.int .u8 0),.pv (.int .u8 0),.pv (.int .u8 0),.pv (.int .u8 0),.pv (.int .u8 0),.pv (.int .u8 0),.pv (.int .u8 0),.pv (.int .u8 0),.pv (.int .u8 0),.pv (.int .u8 0),.pv (.int .u8 0),.pv (.int .u8 0),.pv (.int .u8 0),.pv (.int .u8 0),.pv (.int .u8 0),.pv (.int .u8 0),.pv (.int .u8 0),.pv (.int .u8 0),.pv (.int .u8 0),.pv (.int .u8 0),.pv (.int .u8 0),.pv (.int .u8 0),.pv (.int .u8 0),.pv (.int .u8 0),.pv (.int .u8 0),.pv (.int .u8 0),.pv (.int .u8 0),.pv (.int .u8 0),.pv (.int .u8 0),.pv (.int .u8 0),.pv (.int .u8 0),.pv (.int .u8 0),.pv (.int .u8 0),.pv (.int .u8 0),.pv (.int .u8 0),.pv (.int .u8 0),.pv (.int .u8 0),.pv (.int .u8 0),.pv (.int .u8 0),.pv (.int .u8 0),.pv (.int .u8 0),.pv (.int .u8 0),.pv (.int .u8 0),.pv (.int .u8 0),.pv (.int .u8 0),.pv (.int .u8 0),.pv (.int .u8 0),.pv (.int .u8 0),.pv (.int .u8 0),.pv (.int .u8 0),.pv (.int .u8 0),.pv (.int .u8 0),.pv (.int .u8 0),.pv (.int .u8 0),.pv (.int .i64 0)]:=by kernel_rfl
theorem atr:ax Tryz.prog 160=some (.agg [(.bool false),(.int .u32 0),(.int .u32 0),(.int .u32 0),(.int .u32 0),(.int .u32 0),(.int .u32 0),(.int .u32 0),(.int .u32 0),(.int .u8 0),(.int .u8 0),(.int .u8 0),(.int .u8 0),(.int .u8 0),(.int .u8 0),(.int .u8 0),(.int .u8 0),(.int .u8 0),(.int .u8 0),(.int .u8 0),(.int .u8 0),(.int .u8 0),(.int .u8 0),(.int .u8 0),(.int .u8 0),(.int .u8 0),(.int .u8 0),(.int .u8 0),(.int .u8 0),(.int .u8 0),(.int .u8 0),(.int .u8 0),(.int .u8 0),(.int .u8 0),(.int .u8 0),(.int .u8 0),(.int .u8 0),(.int .u8 0),(.int .u8 0),(.int .u8 0),(.int .u8 0),(.int .u8 0),(.int .u8 0),(.int .u8 0),(.int .u8 0),(.int .u8 0),(.int .u8 0),(.int .u8 0),(.int .u8 0),(.int .u8 0),(.int .u8 0),(.int .u8 0),(.int .u8 0),(.int .u8 0),(.int .u8 0),(.int .u8 0),(.int .u8 0),(.int .u8 0),(.int .u8 0),(.int .u8 0),(.int .u8 0),(.int .u8 0),(.int .u8 0),(.int .u8 0),(.int .u8 0),(.int .u8 0),(.int .u8 0),(.int .u8 0),(.int .u8 0),(.int .u8 0),(.int .u8 0),(.int .u8 0),(.int .u8 0),(.int .i64 0)]):=by kernel_rfl
theorem als:i9 Tryz.prog 160=true:=by kernel_rfl
theorem ayk:tk Tryz.prog 161= .fn:=by kernel_rfl
theorem ayj:tk Tryz.prog 162= .fn:=by kernel_rfl
theorem ayi:tk Tryz.prog 163= .fn:=by kernel_rfl
theorem ayh:tk Tryz.prog 164= .fn:=by kernel_rfl
theorem ayg:tk Tryz.prog 165= .sl 143 1 4 false:=by kernel_rfl
theorem aoe:gq Tryz.prog 165=some (1,false):=by kernel_rfl
theorem aBs:Program.cellsOf Tryz.prog 165=1:=by kernel_rfl
theorem amw:io Tryz.prog 165=some [.nils]:=by kernel_rfl
theorem atq:ax Tryz.prog 165=some (.sl 1 []):=by kernel_rfl
theorem alr:i9 Tryz.prog 165=true:=by kernel_rfl
theorem ayf:tk Tryz.prog 167= .fn:=by kernel_rfl
theorem aye:tk Tryz.prog 168= .fn:=by kernel_rfl
theorem ayd:tk Tryz.prog 169= .fn:=by kernel_rfl
theorem ayc:tk Tryz.prog 170= .fn:=by kernel_rfl
theorem ayb:tk Tryz.prog 171= .fn:=by kernel_rfl
theorem aya:tk Tryz.prog 172= .fn:=by kernel_rfl
theorem ax9:tk Tryz.prog 173= .fn:=by kernel_rfl
theorem ax8:tk Tryz.prog 174= .fn:=by kernel_rfl
theorem ax7:tk Tryz.prog 175= .fn:=by kernel_rfl
theorem ax6:tk Tryz.prog 176= .arr 32 5 1 false:=by kernel_rfl
theorem aod:gq Tryz.prog 176=some (32,true):=by kernel_rfl
theorem aBr:Program.cellsOf Tryz.prog 176=32:=by kernel_rfl
theorem amv:io Tryz.prog 176=some [.pv (.int .u8 0),.pv (.int .u8 0),.pv (.int .u8 0),.pv (.int .u8 0),.pv (.int .u8 0),.pv (.int .u8 0),.pv (.int .u8 0),.pv (.int .u8 0),.pv (.int .u8 0),.pv (.int .u8 0),.pv (.int .u8 0),.pv (.int .u8 0),.pv (.int .u8 0),.pv (.int .u8 0),.pv (.int .u8 0),.pv (.int .u8 0),.pv (.int .u8 0),.pv (.int .u8 0),.pv (.int .u8 0),.pv (.int .u8 0),.pv (.int .u8 0),.pv (.int .u8 0),.pv (.int .u8 0),.pv (.int .u8 0),.pv (.int .u8 0),.pv (.int .u8 0),.pv (.int .u8 0),.pv (.int .u8 0),.pv (.int .u8 0),.pv (.int .u8 0),.pv (.int .u8 0),.pv (.int .u8 0)]:=by kernel_rfl
theorem atp:ax Tryz.prog 176=some (.agg [(.int .u8 0),(.int .u8 0),(.int .u8 0),(.int .u8 0),(.int .u8 0),(.int .u8 0),(.int .u8 0),(.int .u8 0),(.int .u8 0),(.int .u8 0),(.int .u8 0),(.int .u8 0),(.int .u8 0),(.int .u8 0),(.int .u8 0),(.int .u8 0),(.int .u8 0),(.int .u8 0),(.int .u8 0),(.int .u8 0),(.int .u8 0),(.int .u8 0),(.int .u8 0),(.int .u8 0),(.int .u8 0),(.int .u8 0),(.int .u8 0),(.int .u8 0),(.int .u8 0),(.int .u8 0),(.int .u8 0),(.int .u8 0)]):=by kernel_rfl
theorem alq:i9 Tryz.prog 176=true:=by kernel_rfl
theorem ax5:tk Tryz.prog 177= .fn:=by kernel_rfl
theorem ax4:tk Tryz.prog 178= .fn:=by kernel_rfl
theorem ax3:tk Tryz.prog 180= .fn:=by kernel_rfl
theorem ax2:tk Tryz.prog 181= .fn:=by kernel_rfl
theorem ax1:tk Tryz.prog 182= .fn:=by kernel_rfl
theorem ax0:tk Tryz.prog 183= .fn:=by kernel_rfl
theorem axz:tk Tryz.prog 184= .fn:=by kernel_rfl
theorem axy:tk Tryz.prog 185= .fn:=by kernel_rfl
theorem axx:tk Tryz.prog 186= .fn:=by kernel_rfl
theorem axw:tk Tryz.prog 187= .int .i64:=by kernel_rfl
theorem aoc:gq Tryz.prog 187=some (1,false):=by kernel_rfl
theorem aBq:Program.cellsOf Tryz.prog 187=1:=by kernel_rfl
theorem amu:io Tryz.prog 187=some [.pv (.int .i64 0)]:=by kernel_rfl
theorem ato:ax Tryz.prog 187=some (.int .i64 0):=by kernel_rfl
theorem alp:i9 Tryz.prog 187=true:=by kernel_rfl
theorem axv:tk Tryz.prog 189= .fn:=by kernel_rfl
theorem axu:tk Tryz.prog 190= .fn:=by kernel_rfl
theorem axt:tk Tryz.prog 191= .fn:=by kernel_rfl
theorem axs:tk Tryz.prog 192= .fn:=by kernel_rfl
theorem axr:tk Tryz.prog 193= .fn:=by kernel_rfl
theorem axq:tk Tryz.prog 194= .arr 64 143 1 false:=by kernel_rfl
theorem Ci:gq Tryz.prog 194=some (64,true):=by kernel_rfl
theorem aBp:Program.cellsOf Tryz.prog 194=64:=by kernel_rfl
theorem amt:io Tryz.prog 194=some [.pv (.int .u32 0),.pv (.int .u32 0),.pv (.int .u32 0),.pv (.int .u32 0),.pv (.int .u32 0),.pv (.int .u32 0),.pv (.int .u32 0),.pv (.int .u32 0),.pv (.int .u32 0),.pv (.int .u32 0),.pv (.int .u32 0),.pv (.int .u32 0),.pv (.int .u32 0),.pv (.int .u32 0),.pv (.int .u32 0),.pv (.int .u32 0),.pv (.int .u32 0),.pv (.int .u32 0),.pv (.int .u32 0),.pv (.int .u32 0),.pv (.int .u32 0),.pv (.int .u32 0),.pv (.int .u32 0),.pv (.int .u32 0),.pv (.int .u32 0),.pv (.int .u32 0),.pv (.int .u32 0),.pv (.int .u32 0),.pv (.int .u32 0),.pv (.int .u32 0),.pv (.int .u32 0),.pv (.int .u32 0),.pv (.int .u32 0),.pv (.int .u32 0),.pv (.int .u32 0),.pv (.int .u32 0),.pv (.int .u32 0),.pv (.int .u32 0),.pv (.int .u32 0),.pv (.int .u32 0),.pv (.int .u32 0),.pv (.int .u32 0),.pv (.int .u32 0),.pv (.int .u32 0),.pv (.int .u32 0),.pv (.int .u32 0),.pv (.int .u32 0),.pv (.int .u32 0),.pv (.int .u32 0),.pv (.int .u32 0),.pv (.int .u32 0),.pv (.int .u32 0),.pv (.int .u32 0),.pv (.int .u32 0),.pv (.int .u32 0),.pv (.int .u32 0),.pv (.int .u32 0),.pv (.int .u32 0),.pv (.int .u32 0),.pv (.int .u32 0),.pv (.int .u32 0),.pv (.int .u32 0),.pv (.int .u32 0),.pv (.int .u32 0)]:=by kernel_rfl
theorem atn:ax Tryz.prog 194=some (.agg [(.int .u32 0),(.int .u32 0),(.int .u32 0),(.int .u32 0),(.int .u32 0),(.int .u32 0),(.int .u32 0),(.int .u32 0),(.int .u32 0),(.int .u32 0),(.int .u32 0),(.int .u32 0),(.int .u32 0),(.int .u32 0),(.int .u32 0),(.int .u32 0),(.int .u32 0),(.int .u32 0),(.int .u32 0),(.int .u32 0),(.int .u32 0),(.int .u32 0),(.int .u32 0),(.int .u32 0),(.int .u32 0),(.int .u32 0),(.int .u32 0),(.int .u32 0),(.int .u32 0),(.int .u32 0),(.int .u32 0),(.int .u32 0),(.int .u32 0),(.int .u32 0),(.int .u32 0),(.int .u32 0),(.int .u32 0),(.int .u32 0),(.int .u32 0),(.int .u32 0),(.int .u32 0),(.int .u32 0),(.int .u32 0),(.int .u32 0),(.int .u32 0),(.int .u32 0),(.int .u32 0),(.int .u32 0),(.int .u32 0),(.int .u32 0),(.int .u32 0),(.int .u32 0),(.int .u32 0),(.int .u32 0),(.int .u32 0),(.int .u32 0),(.int .u32 0),(.int .u32 0),(.int .u32 0),(.int .u32 0),(.int .u32 0),(.int .u32 0),(.int .u32 0),(.int .u32 0)]):=by kernel_rfl
theorem alo:i9 Tryz.prog 194=true:=by kernel_rfl
theorem axp:tk Tryz.prog 195= .fn:=by kernel_rfl
theorem axo:tk Tryz.prog 196= .fn:=by kernel_rfl
theorem axn:tk Tryz.prog 197= .fn:=by kernel_rfl
theorem axm:tk Tryz.prog 198= .fn:=by kernel_rfl
theorem axl:tk Tryz.prog 199= .fn:=by kernel_rfl
theorem axk:tk Tryz.prog 200= .fn:=by kernel_rfl
theorem axj:tk Tryz.prog 201= .fn:=by kernel_rfl
theorem axi:tk Tryz.prog 202= .fn:=by kernel_rfl
theorem axh:tk Tryz.prog 204= .fn:=by kernel_rfl
theorem axg:tk Tryz.prog 205= .fn:=by kernel_rfl
theorem axf:tk Tryz.prog 206= .fn:=by kernel_rfl
theorem axe:tk Tryz.prog 207= .int .u64:=by kernel_rfl
theorem aob:gq Tryz.prog 207=some (1,false):=by kernel_rfl
theorem aBo:Program.cellsOf Tryz.prog 207=1:=by kernel_rfl
theorem ams:io Tryz.prog 207=some [.pv (.int .u64 0)]:=by kernel_rfl
theorem atm:ax Tryz.prog 207=some (.int .u64 0):=by kernel_rfl
theorem aln:i9 Tryz.prog 207=true:=by kernel_rfl
theorem axd:tk Tryz.prog 208= .fn:=by kernel_rfl
theorem axc:tk Tryz.prog 209= .fn:=by kernel_rfl
theorem axb:tk Tryz.prog 210= .ptr 3:=by kernel_rfl
theorem aoa:gq Tryz.prog 210=some (1,false):=by kernel_rfl
theorem aBn:Program.cellsOf Tryz.prog 210=1:=by kernel_rfl
theorem amr:io Tryz.prog 210=some [.pv .nilp]:=by kernel_rfl
theorem atl:ax Tryz.prog 210=some .nilp:=by kernel_rfl
theorem alm:i9 Tryz.prog 210=true:=by kernel_rfl
theorem axa:tk Tryz.prog 211= .fn:=by kernel_rfl
theorem aw9:tk Tryz.prog 212= .fn:=by kernel_rfl
theorem aw8:tk Tryz.prog 213= .fn:=by kernel_rfl
theorem aw7:tk Tryz.prog 215= .fn:=by kernel_rfl
theorem aw6:tk Tryz.prog 216= .ptr 207:=by kernel_rfl
theorem an9:gq Tryz.prog 216=some (1,false):=by kernel_rfl
theorem aBm:Program.cellsOf Tryz.prog 216=1:=by kernel_rfl
theorem amq:io Tryz.prog 216=some [.pv .nilp]:=by kernel_rfl
theorem atk:ax Tryz.prog 216=some .nilp:=by kernel_rfl
theorem alk:i9 Tryz.prog 216=true:=by kernel_rfl
theorem aw5:tk Tryz.prog 217= .fn:=by kernel_rfl
theorem aw4:tk Tryz.prog 218= .fn:=by kernel_rfl
theorem aw3:tk Tryz.prog 219= .st [(0,1,false),(1,1,false),(2,1,false),(3,1,false)]:=by kernel_rfl
theorem an8:gq Tryz.prog 219=some (4,true):=by kernel_rfl
theorem aBl:Program.cellsOf Tryz.prog 219=4:=by kernel_rfl
theorem amp:io Tryz.prog 219=some [.pv .nilp,.pv .nilp,.pv .nilp,.pv (.str [])]:=by kernel_rfl
theorem atj:ax Tryz.prog 219=some (.agg [.nilp,.nilp,.nilp,(.str [])]):=by kernel_rfl
theorem alj:i9 Tryz.prog 219=true:=by kernel_rfl
theorem aw2:tk Tryz.prog 220= .st [(0,1,false),(1,1,false),(2,1,false),(3,1,false)]:=by kernel_rfl
theorem an7:gq Tryz.prog 220=some (4,true):=by kernel_rfl
theorem aBk:Program.cellsOf Tryz.prog 220=4:=by kernel_rfl
theorem amo:io Tryz.prog 220=some [.pv .nilp,.pv .nilp,.pv .nilp,.pv (.str [])]:=by kernel_rfl
theorem ati:ax Tryz.prog 220=some (.agg [.nilp,.nilp,.nilp,(.str [])]):=by kernel_rfl
theorem ali:i9 Tryz.prog 220=true:=by kernel_rfl
theorem aw1:tk Tryz.prog 221= .arr 0 16 1 false:=by kernel_rfl
theorem an6:gq Tryz.prog 221=some (0,true):=by kernel_rfl
theorem aBj:Program.cellsOf Tryz.prog 221=0:=by kernel_rfl
theorem amn:io Tryz.prog 221=some []:=by kernel_rfl
theorem ath:ax Tryz.prog 221=some (.agg []):=by kernel_rfl
theorem alh:i9 Tryz.prog 221=true:=by kernel_rfl
theorem aw0:tk Tryz.prog 222= .st [(0,0,true)]:=by kernel_rfl
theorem an5:gq Tryz.prog 222=some (0,true):=by kernel_rfl
theorem aBi:Program.cellsOf Tryz.prog 222=0:=by kernel_rfl
theorem amm:io Tryz.prog 222=some []:=by kernel_rfl
theorem atg:ax Tryz.prog 222=some (.agg []):=by kernel_rfl
theorem alg:i9 Tryz.prog 222=true:=by kernel_rfl
theorem awz:tk Tryz.prog 223= .st [(0,0,true)]:=by kernel_rfl
theorem an4:gq Tryz.prog 223=some (0,true):=by kernel_rfl
theorem aBh:Program.cellsOf Tryz.prog 223=0:=by kernel_rfl
theorem aml:io Tryz.prog 223=some []:=by kernel_rfl
theorem atf:ax Tryz.prog 223=some (.agg []):=by kernel_rfl
theorem alf:i9 Tryz.prog 223=true:=by kernel_rfl
theorem awy:tk Tryz.prog 224= .int .u8:=by kernel_rfl
theorem an3:gq Tryz.prog 224=some (1,false):=by kernel_rfl
theorem aBg:Program.cellsOf Tryz.prog 224=1:=by kernel_rfl
theorem amk:io Tryz.prog 224=some [.pv (.int .u8 0)]:=by kernel_rfl
theorem ate:ax Tryz.prog 224=some (.int .u8 0):=by kernel_rfl
theorem ale:i9 Tryz.prog 224=true:=by kernel_rfl
theorem awx:tk Tryz.prog 225= .int .u8:=by kernel_rfl
theorem an2:gq Tryz.prog 225=some (1,false):=by kernel_rfl
theorem aBf:Program.cellsOf Tryz.prog 225=1:=by kernel_rfl
theorem amj:io Tryz.prog 225=some [.pv (.int .u8 0)]:=by kernel_rfl
theorem atd:ax Tryz.prog 225=some (.int .u8 0):=by kernel_rfl
theorem ald:i9 Tryz.prog 225=true:=by kernel_rfl
theorem aww:tk Tryz.prog 226= .fn:=by kernel_rfl
theorem awv:tk Tryz.prog 227= .ptr 5:=by kernel_rfl
theorem an1:gq Tryz.prog 227=some (1,false):=by kernel_rfl
theorem aBe:Program.cellsOf Tryz.prog 227=1:=by kernel_rfl
theorem ami:io Tryz.prog 227=some [.pv .nilp]:=by kernel_rfl
theorem atc:ax Tryz.prog 227=some .nilp:=by kernel_rfl
theorem alc:i9 Tryz.prog 227=true:=by kernel_rfl
theorem awu:tk Tryz.prog 228= .int .i32:=by kernel_rfl
theorem an0:gq Tryz.prog 228=some (1,false):=by kernel_rfl
theorem aBd:Program.cellsOf Tryz.prog 228=1:=by kernel_rfl
theorem amh:io Tryz.prog 228=some [.pv (.int .i32 0)]:=by kernel_rfl
theorem atb:ax Tryz.prog 228=some (.int .i32 0):=by kernel_rfl
theorem alb:i9 Tryz.prog 228=true:=by kernel_rfl
theorem awt:tk Tryz.prog 229= .int .i32:=by kernel_rfl
theorem anz:gq Tryz.prog 229=some (1,false):=by kernel_rfl
theorem aBc:Program.cellsOf Tryz.prog 229=1:=by kernel_rfl
theorem amg:io Tryz.prog 229=some [.pv (.int .i32 0)]:=by kernel_rfl
theorem ata:ax Tryz.prog 229=some (.int .i32 0):=by kernel_rfl
theorem ala:i9 Tryz.prog 229=true:=by kernel_rfl
theorem aws:tk Tryz.prog 230= .st [(0,1,false),(1,1,false),(2,1,false),(3,1,false),(4,1,false),(5,1,false),(6,1,false),(7,1,false),(8,1,false),(9,1,false),(10,1,false)]:=by kernel_rfl
theorem anx:gq Tryz.prog 230=some (11,true):=by kernel_rfl
theorem aBb:Program.cellsOf Tryz.prog 230=11:=by kernel_rfl
theorem amf:io Tryz.prog 230=some [.pv (.int .u64 0),.pv (.int .u64 0),.pv (.int .u32 0),.pv (.int .u8 0),.pv (.int .u8 0),.pv (.int .u8 0),.pv (.int .u8 0),.pv .nilf,.pv .nilp,.pv (.int .i32 0),.pv (.int .i32 0)]:=by kernel_rfl
theorem as9:ax Tryz.prog 230=some (.agg [(.int .u64 0),(.int .u64 0),(.int .u32 0),(.int .u8 0),(.int .u8 0),(.int .u8 0),(.int .u8 0),.nilf,.nilp,(.int .i32 0),(.int .i32 0)]):=by kernel_rfl
theorem ak9:i9 Tryz.prog 230=true:=by kernel_rfl
theorem awr:tk Tryz.prog 231= .st [(0,1,false),(1,1,false),(2,1,false),(3,1,false),(4,1,false),(5,1,false),(6,1,false),(7,1,false),(8,1,false),(9,1,false),(10,1,false)]:=by kernel_rfl
theorem anw:gq Tryz.prog 231=some (11,true):=by kernel_rfl
theorem aBa:Program.cellsOf Tryz.prog 231=11:=by kernel_rfl
theorem ame:io Tryz.prog 231=some [.pv (.int .u64 0),.pv (.int .u64 0),.pv (.int .u32 0),.pv (.int .u8 0),.pv (.int .u8 0),.pv (.int .u8 0),.pv (.int .u8 0),.pv .nilf,.pv .nilp,.pv (.int .i32 0),.pv (.int .i32 0)]:=by kernel_rfl
theorem as8:ax Tryz.prog 231=some (.agg [(.int .u64 0),(.int .u64 0),(.int .u32 0),(.int .u8 0),(.int .u8 0),(.int .u8 0),(.int .u8 0),.nilf,.nilp,(.int .i32 0),(.int .i32 0)]):=by kernel_rfl
theorem ak8:i9 Tryz.prog 231=true:=by kernel_rfl
theorem awq:tk Tryz.prog 232= .fn:=by kernel_rfl
theorem awp:tk Tryz.prog 234= .fn:=by kernel_rfl
theorem awo:tk Tryz.prog 235= .fn:=by kernel_rfl
theorem anv:gq Tryz.prog 235=some (1,false):=by kernel_rfl
theorem aA9:Program.cellsOf Tryz.prog 235=1:=by kernel_rfl
theorem amd:io Tryz.prog 235=some [.pv .nilf]:=by kernel_rfl
theorem as7:ax Tryz.prog 235=some .nilf:=by kernel_rfl
theorem ak7:i9 Tryz.prog 235=true:=by kernel_rfl
theorem awn:tk Tryz.prog 236= .fn:=by kernel_rfl
theorem mixed:Tryz.prog.follows .mixedOrders=true:=by kernel_rfl
attribute [go_sem] aJm aJl aE3 aJw aEq aI7 aDh arw aE2 Ca aEp aCu aDg aJk aE1 aJv aEo aI6 aDf afc aE0 c7 aEn aru aDe aJj aEz aJu aEm aI5 aDd aJi aEy aJt aEl aI4 aDc aJh aEx aJs aEk aI3 aDb afb aEw ar4 aEj aI2 aDa aG7 awl aIg avb aEi as6 aG6 awk aIf ava aEh as5 aG5 awj aIe au9 aEg as4 aG4 awi aId au8 aEf as3 aG3 awh aIc au7 aEe as2 aG2 awg aIb au6 aEd as1 aG1 awf aIa au5 aEc as0 aG0 awe aH9 au4 aEb asz aGz awd aH8 au3 aEa asy aGy awc aH7 au2 aD9 asx afl aGx awb aH6 au1 aD8 asw s9 awa ry au0 aD7 asv aGw aGv av9 Y1 auz aD6 asu aGu av8 aH5 auy aD5 ast aGt av7 aH4 aux aD4 ass aGs av6 aH3 auw aD3 asr aqz av5 aH2 auv aD2 asq aGr av4 aH1 auu aD1 aso aGq aGp aGo aGn aGm av3 aH0 aut aD0 asn aGl av2 aHz aus aDz asm aGk aGj av1 aHy aur aDy asl aGi av0 aHx auq aDx ask aGh avz aHw aup aDw asj aGg avy aHv auo aDv asi aGf avx aHu aum aDu ash aGe avw aHt aul aDt asg aGd aGc aGb aGa aF9 aF8 avv aHs auk aDs asf aF7 avu aHr auj aDr ase aF6 aF5 aF4 aF3 aF2 aF1 aF0 aFz aFy aFx aFw avt aHq aui aDq asd aFv aFu aFt aFs aFr aFq aFp avs aHp auh aDp asc aFo avr aHo aug aDo asb aFn avq aHn auf aDn asa aFm aFl aFk avp aHm aue aDm ar9 aFj aFi aFh avo aHl aud aDl ar8 aFg aFf aFe avn aHk auc aDk ar7 aFd avm aHj aub aDj ar6 aFc aFb aFa avl aHi aua aDi ar5 aE9 aE8 aE7 aE6 aE5 aE4 azz azy azx azw azv azu azt aov aCb anh at9 ama azs aou aCa ang at8 al9 azr aot aB9 anf at7 al8 azq aos aB8 ane at6 al7 azp azo azn azm aor aB7 anb at5 al6 azl azk azj azi aoq aB6 ana at4 al5 afz aop aB5 am9 at3 al4 azh azg azf aze azd azc N7 aoo aB4 azb aza ay9 ay8 ay7 ay6 aon aB3 am8 at2 al3 ay5 aom aB2 am7 at1 al2 ay4 aol aB1 am6 at0 al1 ay3 aok aB0 am5 atz al0 ay2 ay1 ay0 ayz ayy Oo Vv am4 aty alz ayx ayw ayv ayu ayt ays aoj aBz am3 atx aly ayr ayq ayp ayo ayn aoi aBy am2 atw alx afy aoh aBx am1 atv alw afx On aBw am0 atu alv N6 aog aBv amz att alu aym aof aBu amy ats alt ayl Ol aBt amx atr als ayk ayj ayi ayh ayg aoe aBs amw atq alr ayf aye ayd ayc ayb aya ax9 ax8 ax7 ax6 aod aBr amv atp alq ax5 ax4 ax3 ax2 ax1 ax0 axz axy axx axw aoc aBq amu ato alp axv axu axt axs axr axq Ci aBp amt atn alo axp axo axn axm axl axk axj axi axh axg axf axe aob aBo ams atm aln axd axc axb aoa aBn amr atl alm axa aw9 aw8 aw7 aw6 an9 aBm amq atk alk aw5 aw4 aw3 an8 aBl amp atj alj aw2 an7 aBk amo ati ali aw1 an6 aBj amn ath alh aw0 an5 aBi amm atg alg awz an4 aBh aml atf alf awy an3 aBg amk ate ale awx an2 aBf amj atd ald aww awv an1 aBe ami atc alc awu an0 aBd amh atb alb awt anz aBc amg ata ala aws anx aBb amf as9 ak9 awr anw aBa ame as8 ak8 awq awp awo anv aA9 amd as7 ak7 awn mixed
section
variable {P : Program} {R : Option Nat} {Φ : Exit → Cx → St → Prop} {k : List It} {C : Cx} {s : St}
end
end Go.Ck
