/- The texts Tab, as one. -/
import Derived.Test.YtbofhlifobjolaaGreatDoorProg
import Derived.Test.YtbofhlifobjolaaGreatDoorGba
import Derived.KernelRfl

/-! The tables of the program, for AX: what its types are, which of its functions have a body -/
section
set_option linter.unusedVariables false
set_option linter.unusedSimpArgs false
set_option maxRecDepth 100000
namespace Go.Proofs.YtbofhlifobjolaaGreatDoor.Ax
open Go.RowKit
def T0 : ATy := ⟨.tuple, 1, 0, none⟩
def T1 : ATy := ⟨.func, 1, 8, (some [.nilfn])⟩
def T2 : ATy := ⟨.int .i64, 1, 8, (some [.int .i64 0])⟩
def T3 : ATy := ⟨.int .i64, 1, 8, (some [.int .i64 0])⟩
def T4 : ATy := ⟨.bool, 1, 1, (some [.bool false])⟩
def T5 : ATy := ⟨.int .u8, 1, 1, (some [.int .u8 0])⟩
def T6 : ATy := ⟨.int .u8, 1, 1, (some [.int .u8 0])⟩
def T7 : ATy := ⟨.struct [(0, 2), (1, 3), (2, 4), (3, 6)] true, 4, 24, (some [.int .i64 0, .int .i64 0, .bool false, .int .u8 0])⟩
def T8 : ATy := ⟨.struct [(0, 2), (1, 3), (2, 4), (3, 6)] true, 4, 24, (some [.int .i64 0, .int .i64 0, .bool false, .int .u8 0])⟩
def T9 : ATy := ⟨.str, 1, 16, (some [.str []])⟩
def T10 : ATy := ⟨.str, 1, 16, (some [.str []])⟩
def T11 : ATy := ⟨.str, 1, 16, (some [.str []])⟩
def T12 : ATy := ⟨.int .u64, 1, 8, (some [.int .u64 0])⟩
def T13 : ATy := ⟨.struct [(0, 9), (1, 12)] false, 2, 24, (some [.str [], .int .u64 0])⟩
def T14 : ATy := ⟨.struct [(0, 9), (1, 12)] false, 2, 24, (some [.str [], .int .u64 0])⟩
def T15 : ATy := ⟨.ptr 275, 1, 8, (some [.ptr none])⟩
def T16 : ATy := ⟨.ptr 278, 1, 8, (some [.ptr none])⟩
def T17 : ATy := ⟨.ptr 285, 1, 8, (some [.ptr none])⟩
def T18 : ATy := ⟨.struct [(0, 17)] false, 1, 8, (some [.ptr none])⟩
def T19 : ATy := ⟨.struct [(0, 17)] false, 1, 8, (some [.ptr none])⟩
def T20 : ATy := ⟨.iface true, 1, 16, (some [.nilifc])⟩
def T21 : ATy := ⟨.int .i32, 1, 4, (some [.int .i32 0])⟩
def T22 : ATy := ⟨.struct [(0, 3), (1, 3), (2, 3)] true, 3, 24, (some [.int .i64 0, .int .i64 0, .int .i64 0])⟩
def T23 : ATy := ⟨.struct [(0, 3), (1, 3), (2, 3)] true, 3, 24, (some [.int .i64 0, .int .i64 0, .int .i64 0])⟩
def T24 : ATy := ⟨.slice 35, 1, 24, (some [.sl none 0 0 none])⟩
def T25 : ATy := ⟨.ptr 88, 1, 8, (some [.ptr none])⟩
def T26 : ATy := ⟨.int .i64, 1, 8, (some [.int .i64 0])⟩
def T27 : ATy := ⟨.tuple, 1, 0, none⟩
def T28 : ATy := ⟨.func, 1, 8, (some [.nilfn])⟩
def T29 : ATy := ⟨.ptr 60, 1, 8, (some [.ptr none])⟩
def T30 : ATy := ⟨.tuple, 1, 0, none⟩
def T31 : ATy := ⟨.func, 1, 8, (some [.nilfn])⟩
def T32 : ATy := ⟨.func, 1, 8, (some [.nilfn])⟩
def T33 : ATy := ⟨.func, 1, 8, (some [.nilfn])⟩
def T34 : ATy := ⟨.struct [(0, 3), (1, 3), (2, 3), (3, 9), (4, 9), (5, 9)] true, 6, 72, (some [.int .i64 0, .int .i64 0, .int .i64 0, .str [], .str [], .str []])⟩
def T35 : ATy := ⟨.struct [(0, 3), (1, 3), (2, 3), (3, 9), (4, 9), (5, 9)] true, 6, 72, (some [.int .i64 0, .int .i64 0, .int .i64 0, .str [], .str [], .str []])⟩
def T36 : ATy := ⟨.func, 1, 8, (some [.nilfn])⟩
def T37 : ATy := ⟨.slice 9, 1, 24, (some [.sl none 0 0 none])⟩
def T38 : ATy := ⟨.struct [(0, 26), (1, 9), (2, 3), (3, 3), (4, 3), (5, 37)] true, 6, 72, (some [.int .i64 0, .str [], .int .i64 0, .int .i64 0, .int .i64 0, .sl none 0 0 none])⟩
def T39 : ATy := ⟨.struct [(0, 26), (1, 9), (2, 3), (3, 3), (4, 3), (5, 37)] true, 6, 72, (some [.int .i64 0, .str [], .int .i64 0, .int .i64 0, .int .i64 0, .sl none 0 0 none])⟩
def T40 : ATy := ⟨.func, 1, 8, (some [.nilfn])⟩
def T41 : ATy := ⟨.tuple, 1, 0, none⟩
def T42 : ATy := ⟨.func, 1, 8, (some [.nilfn])⟩
def T43 : ATy := ⟨.func, 1, 8, (some [.nilfn])⟩
def T44 : ATy := ⟨.slice 55, 1, 24, (some [.sl none 0 0 none])⟩
def T45 : ATy := ⟨.func, 1, 8, (some [.nilfn])⟩
def T46 : ATy := ⟨.slice 108, 1, 24, (some [.sl none 0 0 none])⟩
def T47 : ATy := ⟨.func, 1, 8, (some [.nilfn])⟩
def T48 : ATy := ⟨.func, 1, 8, (some [.nilfn])⟩
def T49 : ATy := ⟨.func, 1, 8, (some [.nilfn])⟩
def T50 : ATy := ⟨.func, 1, 8, (some [.nilfn])⟩
def T51 : ATy := ⟨.slice 5, 1, 24, (some [.sl none 0 0 none])⟩
def T52 : ATy := ⟨.func, 1, 8, (some [.nilfn])⟩
def T53 : ATy := ⟨.slice 3, 1, 24, (some [.sl none 0 0 none])⟩
def T54 : ATy := ⟨.struct [(0, 9), (1, 3), (2, 3), (3, 3), (4, 3), (5, 53), (6, 9)] true, 7, 88, (some [.str [], .int .i64 0, .int .i64 0, .int .i64 0, .int .i64 0, .sl none 0 0 none, .str []])⟩
def T55 : ATy := ⟨.struct [(0, 9), (1, 3), (2, 3), (3, 3), (4, 3), (5, 53), (6, 9)] true, 7, 88, (some [.str [], .int .i64 0, .int .i64 0, .int .i64 0, .int .i64 0, .sl none 0 0 none, .str []])⟩
def T56 : ATy := ⟨.func, 1, 8, (some [.nilfn])⟩
def T57 : ATy := ⟨.func, 1, 8, (some [.nilfn])⟩
def T58 : ATy := ⟨.slice 100, 1, 24, (some [.sl none 0 0 none])⟩
def T59 : ATy := ⟨.struct [(0, 58), (1, 3)] true, 2, 32, (some [.sl none 0 0 none, .int .i64 0])⟩
def T60 : ATy := ⟨.struct [(0, 58), (1, 3)] true, 2, 32, (some [.sl none 0 0 none, .int .i64 0])⟩
def T61 : ATy := ⟨.func, 1, 8, (some [.nilfn])⟩
def T62 : ATy := ⟨.func, 1, 8, (some [.nilfn])⟩
def T63 : ATy := ⟨.slice 73, 1, 24, (some [.sl none 0 0 none])⟩
def T64 : ATy := ⟨.func, 1, 8, (some [.nilfn])⟩
def T65 : ATy := ⟨.tuple, 1, 0, none⟩
def T66 : ATy := ⟨.func, 1, 8, (some [.nilfn])⟩
def T67 : ATy := ⟨.func, 1, 8, (some [.nilfn])⟩
def T68 : ATy := ⟨.struct [(0, 3), (1, 3), (2, 3), (3, 3), (4, 3), (5, 3), (6, 35)] true, 12, 120, (some [.int .i64 0, .int .i64 0, .int .i64 0, .int .i64 0, .int .i64 0, .int .i64 0, .int .i64 0, .int .i64 0, .int .i64 0, .str [], .str [], .str []])⟩
def T69 : ATy := ⟨.struct [(0, 3), (1, 3), (2, 3), (3, 3), (4, 3), (5, 3), (6, 35)] true, 12, 120, (some [.int .i64 0, .int .i64 0, .int .i64 0, .int .i64 0, .int .i64 0, .int .i64 0, .int .i64 0, .int .i64 0, .int .i64 0, .str [], .str [], .str []])⟩
def T70 : ATy := ⟨.slice 75, 1, 24, (some [.sl none 0 0 none])⟩
def T71 : ATy := ⟨.slice 78, 1, 24, (some [.sl none 0 0 none])⟩
def T72 : ATy := ⟨.struct [(0, 69), (12, 70), (13, 71)] true, 14, 168, (some [.int .i64 0, .int .i64 0, .int .i64 0, .int .i64 0, .int .i64 0, .int .i64 0, .int .i64 0, .int .i64 0, .int .i64 0, .str [], .str [], .str [], .sl none 0 0 none, .sl none 0 0 none])⟩
def T73 : ATy := ⟨.struct [(0, 69), (12, 70), (13, 71)] true, 14, 168, (some [.int .i64 0, .int .i64 0, .int .i64 0, .int .i64 0, .int .i64 0, .int .i64 0, .int .i64 0, .int .i64 0, .int .i64 0, .str [], .str [], .str [], .sl none 0 0 none, .sl none 0 0 none])⟩
def T74 : ATy := ⟨.struct [(0, 3), (1, 3), (2, 3), (3, 39)] true, 9, 96, (some [.int .i64 0, .int .i64 0, .int .i64 0, .int .i64 0, .str [], .int .i64 0, .int .i64 0, .int .i64 0, .sl none 0 0 none])⟩
def T75 : ATy := ⟨.struct [(0, 3), (1, 3), (2, 3), (3, 39)] true, 9, 96, (some [.int .i64 0, .int .i64 0, .int .i64 0, .int .i64 0, .str [], .int .i64 0, .int .i64 0, .int .i64 0, .sl none 0 0 none])⟩
def T76 : ATy := ⟨.func, 1, 8, (some [.nilfn])⟩
def T77 : ATy := ⟨.struct [(0, 3), (1, 3), (2, 3), (3, 35)] true, 9, 96, (some [.int .i64 0, .int .i64 0, .int .i64 0, .int .i64 0, .int .i64 0, .int .i64 0, .str [], .str [], .str []])⟩
def T78 : ATy := ⟨.struct [(0, 3), (1, 3), (2, 3), (3, 35)] true, 9, 96, (some [.int .i64 0, .int .i64 0, .int .i64 0, .int .i64 0, .int .i64 0, .int .i64 0, .str [], .str [], .str []])⟩
def T79 : ATy := ⟨.func, 1, 8, (some [.nilfn])⟩
def T80 : ATy := ⟨.func, 1, 8, (some [.nilfn])⟩
def T81 : ATy := ⟨.struct [(0, 3), (1, 3), (2, 3), (3, 3), (4, 3)] true, 5, 40, (some [.int .i64 0, .int .i64 0, .int .i64 0, .int .i64 0, .int .i64 0])⟩
def T82 : ATy := ⟨.struct [(0, 3), (1, 3), (2, 3), (3, 3), (4, 3)] true, 5, 40, (some [.int .i64 0, .int .i64 0, .int .i64 0, .int .i64 0, .int .i64 0])⟩
def T83 : ATy := ⟨.tuple, 1, 0, none⟩
def T84 : ATy := ⟨.func, 1, 8, (some [.nilfn])⟩
def T85 : ATy := ⟨.slice 89, 1, 24, (some [.sl none 0 0 none])⟩
def T86 : ATy := ⟨.slice 96, 1, 24, (some [.sl none 0 0 none])⟩
def T87 : ATy := ⟨.struct [(0, 85), (1, 3), (2, 86)] true, 3, 56, (some [.sl none 0 0 none, .int .i64 0, .sl none 0 0 none])⟩
def T88 : ATy := ⟨.struct [(0, 85), (1, 3), (2, 86)] true, 3, 56, (some [.sl none 0 0 none, .int .i64 0, .sl none 0 0 none])⟩
def T89 : ATy := ⟨.ptr 93, 1, 8, (some [.ptr none])⟩
def T90 : ATy := ⟨.map 3 9, 1, 8, (some [.map none])⟩
def T91 : ATy := ⟨.slice 159, 1, 24, (some [.sl none 0 0 none])⟩
def T92 : ATy := ⟨.struct [(0, 3), (1, 3), (2, 3), (3, 90), (4, 91)] true, 5, 56, (some [.int .i64 0, .int .i64 0, .int .i64 0, .map none, .sl none 0 0 none])⟩
def T93 : ATy := ⟨.struct [(0, 3), (1, 3), (2, 3), (3, 90), (4, 91)] true, 5, 56, (some [.int .i64 0, .int .i64 0, .int .i64 0, .map none, .sl none 0 0 none])⟩
def T94 : ATy := ⟨.func, 1, 8, (some [.nilfn])⟩
def T95 : ATy := ⟨.struct [(0, 3), (1, 4), (2, 94)] true, 3, 24, (some [.int .i64 0, .bool false, .nilfn])⟩
def T96 : ATy := ⟨.struct [(0, 3), (1, 4), (2, 94)] true, 3, 24, (some [.int .i64 0, .bool false, .nilfn])⟩
def T97 : ATy := ⟨.func, 1, 8, (some [.nilfn])⟩
def T98 : ATy := ⟨.func, 1, 8, (some [.nilfn])⟩
def T99 : ATy := ⟨.struct [(0, 3), (1, 3), (2, 3), (3, 53), (4, 37), (5, 37), (6, 53)] true, 7, 120, (some [.int .i64 0, .int .i64 0, .int .i64 0, .sl none 0 0 none, .sl none 0 0 none, .sl none 0 0 none, .sl none 0 0 none])⟩
def T100 : ATy := ⟨.struct [(0, 3), (1, 3), (2, 3), (3, 53), (4, 37), (5, 37), (6, 53)] true, 7, 120, (some [.int .i64 0, .int .i64 0, .int .i64 0, .sl none 0 0 none, .sl none 0 0 none, .sl none 0 0 none, .sl none 0 0 none])⟩
def T101 : ATy := ⟨.func, 1, 8, (some [.nilfn])⟩
def T102 : ATy := ⟨.func, 1, 8, (some [.nilfn])⟩
def T103 : ATy := ⟨.func, 1, 8, (some [.nilfn])⟩
def T104 : ATy := ⟨.func, 1, 8, (some [.nilfn])⟩
def T105 : ATy := ⟨.tuple, 1, 0, none⟩
def T106 : ATy := ⟨.func, 1, 8, (some [.nilfn])⟩
def T107 : ATy := ⟨.func, 1, 8, (some [.nilfn])⟩
def T108 : ATy := ⟨.struct [(0, 9), (1, 3), (2, 3), (3, 3), (4, 3), (5, 53), (6, 9)] true, 7, 88, (some [.str [], .int .i64 0, .int .i64 0, .int .i64 0, .int .i64 0, .sl none 0 0 none, .str []])⟩
def T109 : ATy := ⟨.func, 1, 8, (some [.nilfn])⟩
def T110 : ATy := ⟨.func, 1, 8, (some [.nilfn])⟩
def T111 : ATy := ⟨.func, 1, 8, (some [.nilfn])⟩
def T112 : ATy := ⟨.func, 1, 8, (some [.nilfn])⟩
def T113 : ATy := ⟨.func, 1, 8, (some [.nilfn])⟩
def T114 : ATy := ⟨.func, 1, 8, (some [.nilfn])⟩
def T115 : ATy := ⟨.func, 1, 8, (some [.nilfn])⟩
def T116 : ATy := ⟨.func, 1, 8, (some [.nilfn])⟩
def T117 : ATy := ⟨.func, 1, 8, (some [.nilfn])⟩
def T118 : ATy := ⟨.ptr 126, 1, 8, (some [.ptr none])⟩
def T119 : ATy := ⟨.func, 1, 8, (some [.nilfn])⟩
def T120 : ATy := ⟨.func, 1, 8, (some [.nilfn])⟩
def T121 : ATy := ⟨.func, 1, 8, (some [.nilfn])⟩
def T122 : ATy := ⟨.map 128 129, 1, 8, (some [.map none])⟩
def T123 : ATy := ⟨.slice 128, 1, 24, (some [.sl none 0 0 none])⟩
def T124 : ATy := ⟨.map 128 3, 1, 8, (some [.map none])⟩
def T125 : ATy := ⟨.struct [(0, 23), (3, 122), (4, 123), (5, 71), (6, 3), (7, 73), (21, 124)] true, 22, 264, (some [.int .i64 0, .int .i64 0, .int .i64 0, .map none, .sl none 0 0 none, .sl none 0 0 none, .int .i64 0, .int .i64 0, .int .i64 0, .int .i64 0, .int .i64 0, .int .i64 0, .int .i64 0, .int .i64 0, .int .i64 0, .int .i64 0, .str [], .str [], .str [], .sl none 0 0 none, .sl none 0 0 none, .map none])⟩
def T126 : ATy := ⟨.struct [(0, 23), (3, 122), (4, 123), (5, 71), (6, 3), (7, 73), (21, 124)] true, 22, 264, (some [.int .i64 0, .int .i64 0, .int .i64 0, .map none, .sl none 0 0 none, .sl none 0 0 none, .int .i64 0, .int .i64 0, .int .i64 0, .int .i64 0, .int .i64 0, .int .i64 0, .int .i64 0, .int .i64 0, .int .i64 0, .int .i64 0, .str [], .str [], .str [], .sl none 0 0 none, .sl none 0 0 none, .map none])⟩
def T127 : ATy := ⟨.struct [(0, 3), (1, 3)] true, 2, 16, (some [.int .i64 0, .int .i64 0])⟩
def T128 : ATy := ⟨.struct [(0, 3), (1, 3)] true, 2, 16, (some [.int .i64 0, .int .i64 0])⟩
def T129 : ATy := ⟨.ptr 131, 1, 8, (some [.ptr none])⟩
def T130 : ATy := ⟨.struct [(0, 35), (6, 3), (7, 53), (8, 3)] true, 9, 112, (some [.int .i64 0, .int .i64 0, .int .i64 0, .str [], .str [], .str [], .int .i64 0, .sl none 0 0 none, .int .i64 0])⟩
def T131 : ATy := ⟨.struct [(0, 35), (6, 3), (7, 53), (8, 3)] true, 9, 112, (some [.int .i64 0, .int .i64 0, .int .i64 0, .str [], .str [], .str [], .int .i64 0, .sl none 0 0 none, .int .i64 0])⟩
def T132 : ATy := ⟨.func, 1, 8, (some [.nilfn])⟩
def T133 : ATy := ⟨.tuple, 1, 0, none⟩
def T134 : ATy := ⟨.func, 1, 8, (some [.nilfn])⟩
def T135 : ATy := ⟨.func, 1, 8, (some [.nilfn])⟩
def T136 : ATy := ⟨.func, 1, 8, (some [.nilfn])⟩
def T137 : ATy := ⟨.func, 1, 8, (some [.nilfn])⟩
def T138 : ATy := ⟨.tuple, 1, 0, none⟩
def T139 : ATy := ⟨.func, 1, 8, (some [.nilfn])⟩
def T140 : ATy := ⟨.func, 1, 8, (some [.nilfn])⟩
def T141 : ATy := ⟨.tuple, 1, 0, none⟩
def T142 : ATy := ⟨.func, 1, 8, (some [.nilfn])⟩
def T143 : ATy := ⟨.func, 1, 8, (some [.nilfn])⟩
def T144 : ATy := ⟨.ptr 146, 1, 8, (some [.ptr none])⟩
def T145 : ATy := ⟨.struct [(0, 144), (1, 51)] true, 2, 32, (some [.ptr none, .sl none 0 0 none])⟩
def T146 : ATy := ⟨.struct [(0, 144), (1, 51)] true, 2, 32, (some [.ptr none, .sl none 0 0 none])⟩
def T147 : ATy := ⟨.iface false, 1, 16, (some [.nilifc])⟩
def T148 : ATy := ⟨.iface false, 1, 16, (some [.nilifc])⟩
def T149 : ATy := ⟨.func, 1, 8, (some [.nilfn])⟩
def T150 : ATy := ⟨.func, 1, 8, (some [.nilfn])⟩
def T151 : ATy := ⟨.tuple, 1, 0, none⟩
def T152 : ATy := ⟨.func, 1, 8, (some [.nilfn])⟩
def T153 : ATy := ⟨.func, 1, 8, (some [.nilfn])⟩
def T154 : ATy := ⟨.func, 1, 8, (some [.nilfn])⟩
def T155 : ATy := ⟨.tuple, 1, 0, none⟩
def T156 : ATy := ⟨.func, 1, 8, (some [.nilfn])⟩
def T157 : ATy := ⟨.func, 1, 8, (some [.nilfn])⟩
def T158 : ATy := ⟨.struct [(0, 9), (1, 3)] true, 2, 24, (some [.str [], .int .i64 0])⟩
def T159 : ATy := ⟨.struct [(0, 9), (1, 3)] true, 2, 24, (some [.str [], .int .i64 0])⟩
def T160 : ATy := ⟨.func, 1, 8, (some [.nilfn])⟩
def T161 : ATy := ⟨.func, 1, 8, (some [.nilfn])⟩
def T162 : ATy := ⟨.func, 1, 8, (some [.nilfn])⟩
def T163 : ATy := ⟨.func, 1, 8, (some [.nilfn])⟩
def T164 : ATy := ⟨.func, 1, 8, (some [.nilfn])⟩
def T165 : ATy := ⟨.tuple, 1, 0, none⟩
def T166 : ATy := ⟨.func, 1, 8, (some [.nilfn])⟩
def T167 : ATy := ⟨.func, 1, 8, (some [.nilfn])⟩
def T168 : ATy := ⟨.func, 1, 8, (some [.nilfn])⟩
def T169 : ATy := ⟨.func, 1, 8, (some [.nilfn])⟩
def T170 : ATy := ⟨.func, 1, 8, (some [.nilfn])⟩
def T171 : ATy := ⟨.func, 1, 8, (some [.nilfn])⟩
def T172 : ATy := ⟨.func, 1, 8, (some [.nilfn])⟩
def T173 : ATy := ⟨.tuple, 1, 0, none⟩
def T174 : ATy := ⟨.func, 1, 8, (some [.nilfn])⟩
def T175 : ATy := ⟨.func, 1, 8, (some [.nilfn])⟩
def T176 : ATy := ⟨.func, 1, 8, (some [.nilfn])⟩
def T177 : ATy := ⟨.struct [(0, 3), (1, 33)] true, 2, 16, (some [.int .i64 0, .nilfn])⟩
def T178 : ATy := ⟨.struct [(0, 3), (1, 33)] true, 2, 16, (some [.int .i64 0, .nilfn])⟩
def T179 : ATy := ⟨.slice 178, 1, 24, (some [.sl none 0 0 none])⟩
def T180 : ATy := ⟨.func, 1, 8, (some [.nilfn])⟩
def T181 : ATy := ⟨.ptr 5, 1, 8, (some [.ptr none])⟩
def T182 : ATy := ⟨.func, 1, 8, (some [.nilfn])⟩
def T183 : ATy := ⟨.func, 1, 8, (some [.nilfn])⟩
def T184 : ATy := ⟨.func, 1, 8, (some [.nilfn])⟩
def T185 : ATy := ⟨.func, 1, 8, (some [.nilfn])⟩
def T186 : ATy := ⟨.func, 1, 8, (some [.nilfn])⟩
def T187 : ATy := ⟨.func, 1, 8, (some [.nilfn])⟩
def T188 : ATy := ⟨.func, 1, 8, (some [.nilfn])⟩
def T189 : ATy := ⟨.func, 1, 8, (some [.nilfn])⟩
def T190 : ATy := ⟨.func, 1, 8, (some [.nilfn])⟩
def T191 : ATy := ⟨.func, 1, 8, (some [.nilfn])⟩
def T192 : ATy := ⟨.func, 1, 8, (some [.nilfn])⟩
def T193 : ATy := ⟨.map 196 4, 1, 8, (some [.map none])⟩
def T194 : ATy := ⟨.tuple, 1, 0, none⟩
def T195 : ATy := ⟨.func, 1, 8, (some [.nilfn])⟩
def T196 : ATy := ⟨.array 2 3, 2, 16, (some [.int .i64 0, .int .i64 0])⟩
def T197 : ATy := ⟨.func, 1, 8, (some [.nilfn])⟩
def T198 : ATy := ⟨.func, 1, 8, (some [.nilfn])⟩
def T199 : ATy := ⟨.func, 1, 8, (some [.nilfn])⟩
def T200 : ATy := ⟨.func, 1, 8, (some [.nilfn])⟩
def T201 : ATy := ⟨.func, 1, 8, (some [.nilfn])⟩
def T202 : ATy := ⟨.tuple, 1, 0, none⟩
def T203 : ATy := ⟨.func, 1, 8, (some [.nilfn])⟩
def T204 : ATy := ⟨.map 3 3, 1, 8, (some [.map none])⟩
def T205 : ATy := ⟨.tuple, 1, 0, none⟩
def T206 : ATy := ⟨.func, 1, 8, (some [.nilfn])⟩
def T207 : ATy := ⟨.func, 1, 8, (some [.nilfn])⟩
def T208 : ATy := ⟨.func, 1, 8, (some [.nilfn])⟩
def T209 : ATy := ⟨.func, 1, 8, (some [.nilfn])⟩
def T210 : ATy := ⟨.slice 39, 1, 24, (some [.sl none 0 0 none])⟩
def T211 : ATy := ⟨.uptr, 1, 8, (some [.ptr none])⟩
def T212 : ATy := ⟨.func, 1, 8, (some [.nilfn])⟩
def T213 : ATy := ⟨.func, 1, 8, (some [.nilfn])⟩
def T214 : ATy := ⟨.func, 1, 8, (some [.nilfn])⟩
def T215 : ATy := ⟨.int .u64, 1, 8, (some [.int .u64 0])⟩
def T216 : ATy := ⟨.slice 26, 1, 24, (some [.sl none 0 0 none])⟩
def T217 : ATy := ⟨.func, 1, 8, (some [.nilfn])⟩
def T218 : ATy := ⟨.func, 1, 8, (some [.nilfn])⟩
def T219 : ATy := ⟨.func, 1, 8, (some [.nilfn])⟩
def T220 : ATy := ⟨.func, 1, 8, (some [.nilfn])⟩
def T221 : ATy := ⟨.func, 1, 8, (some [.nilfn])⟩
def T222 : ATy := ⟨.func, 1, 8, (some [.nilfn])⟩
def T223 : ATy := ⟨.func, 1, 8, (some [.nilfn])⟩
def T224 : ATy := ⟨.ptr 248, 1, 8, (some [.ptr none])⟩
def T225 : ATy := ⟨.func, 1, 8, (some [.nilfn])⟩
def T226 : ATy := ⟨.func, 1, 8, (some [.nilfn])⟩
def T227 : ATy := ⟨.func, 1, 8, (some [.nilfn])⟩
def T228 : ATy := ⟨.func, 1, 8, (some [.nilfn])⟩
def T229 : ATy := ⟨.int .i64, 1, 8, (some [.int .i64 0])⟩
def T230 : ATy := ⟨.tuple, 1, 0, none⟩
def T231 : ATy := ⟨.func, 1, 8, (some [.nilfn])⟩
def T232 : ATy := ⟨.func, 1, 8, (some [.nilfn])⟩
def T233 : ATy := ⟨.func, 1, 8, (some [.nilfn])⟩
def T234 : ATy := ⟨.tuple, 1, 0, none⟩
def T235 : ATy := ⟨.func, 1, 8, (some [.nilfn])⟩
def T236 : ATy := ⟨.func, 1, 8, (some [.nilfn])⟩
def T237 : ATy := ⟨.int .u32, 1, 4, (some [.int .u32 0])⟩
def T238 : ATy := ⟨.func, 1, 8, (some [.nilfn])⟩
def T239 : ATy := ⟨.int .u64, 1, 8, (some [.int .u64 0])⟩
def T240 : ATy := ⟨.tuple, 1, 0, none⟩
def T241 : ATy := ⟨.func, 1, 8, (some [.nilfn])⟩
def T242 : ATy := ⟨.func, 1, 8, (some [.nilfn])⟩
def T243 : ATy := ⟨.func, 1, 8, (some [.nilfn])⟩
def T244 : ATy := ⟨.func, 1, 8, (some [.nilfn])⟩
def T245 : ATy := ⟨.func, 1, 8, (some [.nilfn])⟩
def T246 : ATy := ⟨.func, 1, 8, (some [.nilfn])⟩
def T247 : ATy := ⟨.struct [(0, 51)] true, 1, 24, (some [.sl none 0 0 none])⟩
def T248 : ATy := ⟨.struct [(0, 51)] true, 1, 24, (some [.sl none 0 0 none])⟩
def T249 : ATy := ⟨.func, 1, 8, (some [.nilfn])⟩
def T250 : ATy := ⟨.int .u64, 1, 8, (some [.int .u64 0])⟩
def T251 : ATy := ⟨.func, 1, 8, (some [.nilfn])⟩
def T252 : ATy := ⟨.func, 1, 8, (some [.nilfn])⟩
def T253 : ATy := ⟨.func, 1, 8, (some [.nilfn])⟩
def T254 : ATy := ⟨.ptr 3, 1, 8, (some [.ptr none])⟩
def T255 : ATy := ⟨.func, 1, 8, (some [.nilfn])⟩
def T256 : ATy := ⟨.func, 1, 8, (some [.nilfn])⟩
def T257 : ATy := ⟨.func, 1, 8, (some [.nilfn])⟩
def T258 : ATy := ⟨.func, 1, 8, (some [.nilfn])⟩
def T259 : ATy := ⟨.func, 1, 8, (some [.nilfn])⟩
def T260 : ATy := ⟨.func, 1, 8, (some [.nilfn])⟩
def T261 : ATy := ⟨.func, 1, 8, (some [.nilfn])⟩
def T262 : ATy := ⟨.func, 1, 8, (some [.nilfn])⟩
def T263 : ATy := ⟨.ptr 250, 1, 8, (some [.ptr none])⟩
def T264 : ATy := ⟨.func, 1, 8, (some [.nilfn])⟩
def T265 : ATy := ⟨.array 256 5, 256, 256, (some (List.replicate 256 (.int .u8 0)))⟩
def T266 : ATy := ⟨.struct [(0, 5), (1, 5)] true, 2, 2, (some [.int .u8 0, .int .u8 0])⟩
def T267 : ATy := ⟨.struct [(0, 5), (1, 5)] true, 2, 2, (some [.int .u8 0, .int .u8 0])⟩
def T268 : ATy := ⟨.array 16 267, 32, 32, (some (List.replicate 32 (.int .u8 0)))⟩
def T269 : ATy := ⟨.tuple, 1, 0, none⟩
def T270 : ATy := ⟨.func, 1, 8, (some [.nilfn])⟩
def T271 : ATy := ⟨.func, 1, 8, (some [.nilfn])⟩
def T272 : ATy := ⟨.func, 1, 8, (some [.nilfn])⟩
def T273 : ATy := ⟨.func, 1, 8, (some [.nilfn])⟩
def T274 : ATy := ⟨.struct [(0, 17), (1, 17), (2, 17), (3, 9)] false, 4, 40, (some [.ptr none, .ptr none, .ptr none, .str []])⟩
def T275 : ATy := ⟨.struct [(0, 17), (1, 17), (2, 17), (3, 9)] false, 4, 40, (some [.ptr none, .ptr none, .ptr none, .str []])⟩
def T276 : ATy := ⟨.array 0 16, 0, 0, (some [])⟩
def T277 : ATy := ⟨.struct [(0, 276)] false, 0, 0, (some [])⟩
def T278 : ATy := ⟨.struct [(0, 276)] false, 0, 0, (some [])⟩
def T279 : ATy := ⟨.int .u8, 1, 1, (some [.int .u8 0])⟩
def T280 : ATy := ⟨.int .u8, 1, 1, (some [.int .u8 0])⟩
def T281 : ATy := ⟨.func, 1, 8, (some [.nilfn])⟩
def T282 : ATy := ⟨.int .i32, 1, 4, (some [.int .i32 0])⟩
def T283 : ATy := ⟨.int .i32, 1, 4, (some [.int .i32 0])⟩
def T284 : ATy := ⟨.struct [(0, 12), (1, 12), (2, 237), (3, 279), (4, 5), (5, 5), (6, 280), (7, 281), (8, 181), (9, 282), (10, 283)] false, 11, 48, (some [.int .u64 0, .int .u64 0, .int .u32 0, .int .u8 0, .int .u8 0, .int .u8 0, .int .u8 0, .nilfn, .ptr none, .int .i32 0, .int .i32 0])⟩
def T285 : ATy := ⟨.struct [(0, 12), (1, 12), (2, 237), (3, 279), (4, 5), (5, 5), (6, 280), (7, 281), (8, 181), (9, 282), (10, 283)] false, 11, 48, (some [.int .u64 0, .int .u64 0, .int .u32 0, .int .u8 0, .int .u8 0, .int .u8 0, .int .u8 0, .nilfn, .ptr none, .int .i32 0, .int .i32 0])⟩
def tt : Tr ATy := (.node (some T0) (.node (some T1) (.node (some T3) (.node (some T7) (.node (some T15) (.node (some T31) (.node (some T63) (.node (some T127) (.node (some T255) .leaf .leaf) .leaf) (.node (some T191) .leaf .leaf)) (.node (some T95) (.node (some T159) .leaf .leaf) (.node (some T223) .leaf .leaf))) (.node (some T47) (.node (some T79) (.node (some T143) (.node (some T271) .leaf .leaf) .leaf) (.node (some T207) .leaf .leaf)) (.node (some T111) (.node (some T175) .leaf .leaf) (.node (some T239) .leaf .leaf)))) (.node (some T23) (.node (some T39) (.node (some T71) (.node (some T135) (.node (some T263) .leaf .leaf) .leaf) (.node (some T199) .leaf .leaf)) (.node (some T103) (.node (some T167) .leaf .leaf) (.node (some T231) .leaf .leaf))) (.node (some T55) (.node (some T87) (.node (some T151) (.node (some T279) .leaf .leaf) .leaf) (.node (some T215) .leaf .leaf)) (.node (some T119) (.node (some T183) .leaf .leaf) (.node (some T247) .leaf .leaf))))) (.node (some T11) (.node (some T19) (.node (some T35) (.node (some T67) (.node (some T131) (.node (some T259) .leaf .leaf) .leaf) (.node (some T195) .leaf .leaf)) (.node (some T99) (.node (some T163) .leaf .leaf) (.node (some T227) .leaf .leaf))) (.node (some T51) (.node (some T83) (.node (some T147) (.node (some T275) .leaf .leaf) .leaf) (.node (some T211) .leaf .leaf)) (.node (some T115) (.node (some T179) .leaf .leaf) (.node (some T243) .leaf .leaf)))) (.node (some T27) (.node (some T43) (.node (some T75) (.node (some T139) (.node (some T267) .leaf .leaf) .leaf) (.node (some T203) .leaf .leaf)) (.node (some T107) (.node (some T171) .leaf .leaf) (.node (some T235) .leaf .leaf))) (.node (some T59) (.node (some T91) (.node (some T155) (.node (some T283) .leaf .leaf) .leaf) (.node (some T219) .leaf .leaf)) (.node (some T123) (.node (some T187) .leaf .leaf) (.node (some T251) .leaf .leaf)))))) (.node (some T5) (.node (some T9) (.node (some T17) (.node (some T33) (.node (some T65) (.node (some T129) (.node (some T257) .leaf .leaf) .leaf) (.node (some T193) .leaf .leaf)) (.node (some T97) (.node (some T161) .leaf .leaf) (.node (some T225) .leaf .leaf))) (.node (some T49) (.node (some T81) (.node (some T145) (.node (some T273) .leaf .leaf) .leaf) (.node (some T209) .leaf .leaf)) (.node (some T113) (.node (some T177) .leaf .leaf) (.node (some T241) .leaf .leaf)))) (.node (some T25) (.node (some T41) (.node (some T73) (.node (some T137) (.node (some T265) .leaf .leaf) .leaf) (.node (some T201) .leaf .leaf)) (.node (some T105) (.node (some T169) .leaf .leaf) (.node (some T233) .leaf .leaf))) (.node (some T57) (.node (some T89) (.node (some T153) (.node (some T281) .leaf .leaf) .leaf) (.node (some T217) .leaf .leaf)) (.node (some T121) (.node (some T185) .leaf .leaf) (.node (some T249) .leaf .leaf))))) (.node (some T13) (.node (some T21) (.node (some T37) (.node (some T69) (.node (some T133) (.node (some T261) .leaf .leaf) .leaf) (.node (some T197) .leaf .leaf)) (.node (some T101) (.node (some T165) .leaf .leaf) (.node (some T229) .leaf .leaf))) (.node (some T53) (.node (some T85) (.node (some T149) (.node (some T277) .leaf .leaf) .leaf) (.node (some T213) .leaf .leaf)) (.node (some T117) (.node (some T181) .leaf .leaf) (.node (some T245) .leaf .leaf)))) (.node (some T29) (.node (some T45) (.node (some T77) (.node (some T141) (.node (some T269) .leaf .leaf) .leaf) (.node (some T205) .leaf .leaf)) (.node (some T109) (.node (some T173) .leaf .leaf) (.node (some T237) .leaf .leaf))) (.node (some T61) (.node (some T93) (.node (some T157) (.node (some T285) .leaf .leaf) .leaf) (.node (some T221) .leaf .leaf)) (.node (some T125) (.node (some T189) .leaf .leaf) (.node (some T253) .leaf .leaf))))))) (.node (some T2) (.node (some T4) (.node (some T8) (.node (some T16) (.node (some T32) (.node (some T64) (.node (some T128) (.node (some T256) .leaf .leaf) .leaf) (.node (some T192) .leaf .leaf)) (.node (some T96) (.node (some T160) .leaf .leaf) (.node (some T224) .leaf .leaf))) (.node (some T48) (.node (some T80) (.node (some T144) (.node (some T272) .leaf .leaf) .leaf) (.node (some T208) .leaf .leaf)) (.node (some T112) (.node (some T176) .leaf .leaf) (.node (some T240) .leaf .leaf)))) (.node (some T24) (.node (some T40) (.node (some T72) (.node (some T136) (.node (some T264) .leaf .leaf) .leaf) (.node (some T200) .leaf .leaf)) (.node (some T104) (.node (some T168) .leaf .leaf) (.node (some T232) .leaf .leaf))) (.node (some T56) (.node (some T88) (.node (some T152) (.node (some T280) .leaf .leaf) .leaf) (.node (some T216) .leaf .leaf)) (.node (some T120) (.node (some T184) .leaf .leaf) (.node (some T248) .leaf .leaf))))) (.node (some T12) (.node (some T20) (.node (some T36) (.node (some T68) (.node (some T132) (.node (some T260) .leaf .leaf) .leaf) (.node (some T196) .leaf .leaf)) (.node (some T100) (.node (some T164) .leaf .leaf) (.node (some T228) .leaf .leaf))) (.node (some T52) (.node (some T84) (.node (some T148) (.node (some T276) .leaf .leaf) .leaf) (.node (some T212) .leaf .leaf)) (.node (some T116) (.node (some T180) .leaf .leaf) (.node (some T244) .leaf .leaf)))) (.node (some T28) (.node (some T44) (.node (some T76) (.node (some T140) (.node (some T268) .leaf .leaf) .leaf) (.node (some T204) .leaf .leaf)) (.node (some T108) (.node (some T172) .leaf .leaf) (.node (some T236) .leaf .leaf))) (.node (some T60) (.node (some T92) (.node (some T156) (.node (some T284) .leaf .leaf) .leaf) (.node (some T220) .leaf .leaf)) (.node (some T124) (.node (some T188) .leaf .leaf) (.node (some T252) .leaf .leaf)))))) (.node (some T6) (.node (some T10) (.node (some T18) (.node (some T34) (.node (some T66) (.node (some T130) (.node (some T258) .leaf .leaf) .leaf) (.node (some T194) .leaf .leaf)) (.node (some T98) (.node (some T162) .leaf .leaf) (.node (some T226) .leaf .leaf))) (.node (some T50) (.node (some T82) (.node (some T146) (.node (some T274) .leaf .leaf) .leaf) (.node (some T210) .leaf .leaf)) (.node (some T114) (.node (some T178) .leaf .leaf) (.node (some T242) .leaf .leaf)))) (.node (some T26) (.node (some T42) (.node (some T74) (.node (some T138) (.node (some T266) .leaf .leaf) .leaf) (.node (some T202) .leaf .leaf)) (.node (some T106) (.node (some T170) .leaf .leaf) (.node (some T234) .leaf .leaf))) (.node (some T58) (.node (some T90) (.node (some T154) (.node (some T282) .leaf .leaf) .leaf) (.node (some T218) .leaf .leaf)) (.node (some T122) (.node (some T186) .leaf .leaf) (.node (some T250) .leaf .leaf))))) (.node (some T14) (.node (some T22) (.node (some T38) (.node (some T70) (.node (some T134) (.node (some T262) .leaf .leaf) .leaf) (.node (some T198) .leaf .leaf)) (.node (some T102) (.node (some T166) .leaf .leaf) (.node (some T230) .leaf .leaf))) (.node (some T54) (.node (some T86) (.node (some T150) (.node (some T278) .leaf .leaf) .leaf) (.node (some T214) .leaf .leaf)) (.node (some T118) (.node (some T182) .leaf .leaf) (.node (some T246) .leaf .leaf)))) (.node (some T30) (.node (some T46) (.node (some T78) (.node (some T142) (.node (some T270) .leaf .leaf) .leaf) (.node (some T206) .leaf .leaf)) (.node (some T110) (.node (some T174) .leaf .leaf) (.node (some T238) .leaf .leaf))) (.node (some T62) (.node (some T94) (.node (some T158) .leaf .leaf) (.node (some T222) .leaf .leaf)) (.node (some T126) (.node (some T190) .leaf .leaf) (.node (some T254) .leaf .leaf))))))))
def mask : Nat := 0x1000003f7ffbff77fffffffdfffffffbffffffffffffffffffffffffffc
theorem tab_ok : tabOK Tryz.prog tt 286 = true := by decide +kernel
theorem fn_ok : fnOK Tryz.prog mask 233 = true := by decide +kernel
def extT (f : FuncId) (args : List AV) : Option AV := if f = 141 then sameA args else if f = 175 then countA args else if f = 203 then indexByteA args else none
theorem ext_ok : ∀ f, ExtOK Tryz.prog f (extT f) := by
  intro f args v hv ρ vs w hr
  unfold extT at hv
  by_cases h141 : f = 141
  · subst h141
    exact ext_same (fn := Tryz.f141) (by kernel_rfl) (by kernel_rfl) (by kernel_rfl) (by kernel_rfl) (by kernel_rfl) args v (by simpa using hv) ρ vs w hr
  rw [if_neg h141] at hv
  by_cases h175 : f = 175
  · subst h175
    exact ext_count (fn := Tryz.f175) (by kernel_rfl) (by kernel_rfl) (by kernel_rfl) (by kernel_rfl) (by kernel_rfl) args v (by simpa using hv) ρ vs w hr
  rw [if_neg h175] at hv
  by_cases h203 : f = 203
  · subst h203
    exact ext_indexByte (fn := Tryz.f203) (by kernel_rfl) (by kernel_rfl) (by kernel_rfl) (by kernel_rfl) (by kernel_rfl) args v (by simpa using hv) ρ vs w hr
  rw [if_neg h203] at hv
  simp at hv

def extET (f : FuncId) (args : List AV) (h : AH) : Option (AV × AH) := if f = 110 then cloneA args h else none
theorem extE_ok (W : World) : ExtEOK Tryz.prog W extET := by
  intro f args h v h2 hv
  unfold extET at hv
  by_cases h110 : f = 110
  · subst h110
    exact ext_clone (fn := Tryz.f110) (by kernel_rfl) (by kernel_rfl) (by kernel_rfl) (by kernel_rfl) (by kernel_rfl) args h v h2 (by simpa using hv)
  rw [if_neg h110] at hv
  simp at hv

noncomputable def CC (W : World) : Cx := mkCxE Tryz.prog W tt 286 mask (fun _ _ => none) extT extET
theorem cc_ok (W : World) : (CC W).OK := mkCxE_ok tab_ok fn_ok (fun _ _ _ h => by simp at h) ext_ok (extE_ok W)
theorem extEU {W : World} {f : FuncId} {args : List AV} {h : AH} : (CC W).extE f args h = if f = 110 then cloneA args h else none := _root_.id rfl
theorem extU {W : World} {f : FuncId} {args : List AV} : (CC W).ext f args = if f = 141 then sameA args else if f = 175 then countA args else if f = 203 then indexByteA args else none := _root_.id rfl
theorem calls_cc {W : World} {f : FuncId} {args : List AV} {vs : Array Value} (ha : VsRel [] args vs.toList) (hc : RetA (CC W) f args (.bool true)) :
    Calls Tryz.prog f vs W fun e w' => e = .returned (.bool true) ∧ Below W.heap.size W w' := calls_of_acallE rfl rfl ha ((hc AH.empty).mono (fun _ _ h => h) fun _ _ h => h)
section
variable (W : World)
theorem ty0 : (CC W).ty 0 = some T0 := _root_.id rfl
theorem ty1 : (CC W).ty 1 = some T1 := _root_.id rfl
theorem ty2 : (CC W).ty 2 = some T2 := _root_.id rfl
theorem ty3 : (CC W).ty 3 = some T3 := _root_.id rfl
theorem ty4 : (CC W).ty 4 = some T4 := _root_.id rfl
theorem ty5 : (CC W).ty 5 = some T5 := _root_.id rfl
theorem ty6 : (CC W).ty 6 = some T6 := _root_.id rfl
theorem ty7 : (CC W).ty 7 = some T7 := _root_.id rfl
theorem ty8 : (CC W).ty 8 = some T8 := _root_.id rfl
theorem ty9 : (CC W).ty 9 = some T9 := _root_.id rfl
theorem ty10 : (CC W).ty 10 = some T10 := _root_.id rfl
theorem ty11 : (CC W).ty 11 = some T11 := _root_.id rfl
theorem ty12 : (CC W).ty 12 = some T12 := _root_.id rfl
theorem ty13 : (CC W).ty 13 = some T13 := _root_.id rfl
theorem ty14 : (CC W).ty 14 = some T14 := _root_.id rfl
theorem ty15 : (CC W).ty 15 = some T15 := _root_.id rfl
theorem ty16 : (CC W).ty 16 = some T16 := _root_.id rfl
theorem ty17 : (CC W).ty 17 = some T17 := _root_.id rfl
theorem ty18 : (CC W).ty 18 = some T18 := _root_.id rfl
theorem ty19 : (CC W).ty 19 = some T19 := _root_.id rfl
theorem ty20 : (CC W).ty 20 = some T20 := _root_.id rfl
theorem ty21 : (CC W).ty 21 = some T21 := _root_.id rfl
theorem ty22 : (CC W).ty 22 = some T22 := _root_.id rfl
theorem ty23 : (CC W).ty 23 = some T23 := _root_.id rfl
theorem ty24 : (CC W).ty 24 = some T24 := _root_.id rfl
theorem ty25 : (CC W).ty 25 = some T25 := _root_.id rfl
theorem ty26 : (CC W).ty 26 = some T26 := _root_.id rfl
theorem ty27 : (CC W).ty 27 = some T27 := _root_.id rfl
theorem ty28 : (CC W).ty 28 = some T28 := _root_.id rfl
theorem ty29 : (CC W).ty 29 = some T29 := _root_.id rfl
theorem ty30 : (CC W).ty 30 = some T30 := _root_.id rfl
theorem ty31 : (CC W).ty 31 = some T31 := _root_.id rfl
theorem ty32 : (CC W).ty 32 = some T32 := _root_.id rfl
theorem ty33 : (CC W).ty 33 = some T33 := _root_.id rfl
theorem ty34 : (CC W).ty 34 = some T34 := _root_.id rfl
theorem ty35 : (CC W).ty 35 = some T35 := _root_.id rfl
theorem ty36 : (CC W).ty 36 = some T36 := _root_.id rfl
theorem ty37 : (CC W).ty 37 = some T37 := _root_.id rfl
theorem ty38 : (CC W).ty 38 = some T38 := _root_.id rfl
theorem ty39 : (CC W).ty 39 = some T39 := _root_.id rfl
theorem ty40 : (CC W).ty 40 = some T40 := _root_.id rfl
theorem ty41 : (CC W).ty 41 = some T41 := _root_.id rfl
theorem ty42 : (CC W).ty 42 = some T42 := _root_.id rfl
theorem ty43 : (CC W).ty 43 = some T43 := _root_.id rfl
theorem ty44 : (CC W).ty 44 = some T44 := _root_.id rfl
theorem ty45 : (CC W).ty 45 = some T45 := _root_.id rfl
theorem ty46 : (CC W).ty 46 = some T46 := _root_.id rfl
theorem ty47 : (CC W).ty 47 = some T47 := _root_.id rfl
theorem ty48 : (CC W).ty 48 = some T48 := _root_.id rfl
theorem ty49 : (CC W).ty 49 = some T49 := _root_.id rfl
theorem ty50 : (CC W).ty 50 = some T50 := _root_.id rfl
theorem ty51 : (CC W).ty 51 = some T51 := _root_.id rfl
theorem ty52 : (CC W).ty 52 = some T52 := _root_.id rfl
theorem ty53 : (CC W).ty 53 = some T53 := _root_.id rfl
theorem ty54 : (CC W).ty 54 = some T54 := _root_.id rfl
theorem ty55 : (CC W).ty 55 = some T55 := _root_.id rfl
theorem ty56 : (CC W).ty 56 = some T56 := _root_.id rfl
theorem ty57 : (CC W).ty 57 = some T57 := _root_.id rfl
theorem ty58 : (CC W).ty 58 = some T58 := _root_.id rfl
theorem ty59 : (CC W).ty 59 = some T59 := _root_.id rfl
theorem ty60 : (CC W).ty 60 = some T60 := _root_.id rfl
theorem ty61 : (CC W).ty 61 = some T61 := _root_.id rfl
theorem ty62 : (CC W).ty 62 = some T62 := _root_.id rfl
theorem ty63 : (CC W).ty 63 = some T63 := _root_.id rfl
theorem ty64 : (CC W).ty 64 = some T64 := _root_.id rfl
theorem ty65 : (CC W).ty 65 = some T65 := _root_.id rfl
theorem ty66 : (CC W).ty 66 = some T66 := _root_.id rfl
theorem ty67 : (CC W).ty 67 = some T67 := _root_.id rfl
theorem ty68 : (CC W).ty 68 = some T68 := _root_.id rfl
theorem ty69 : (CC W).ty 69 = some T69 := _root_.id rfl
theorem ty70 : (CC W).ty 70 = some T70 := _root_.id rfl
theorem ty71 : (CC W).ty 71 = some T71 := _root_.id rfl
theorem ty72 : (CC W).ty 72 = some T72 := _root_.id rfl
theorem ty73 : (CC W).ty 73 = some T73 := _root_.id rfl
theorem ty74 : (CC W).ty 74 = some T74 := _root_.id rfl
theorem ty75 : (CC W).ty 75 = some T75 := _root_.id rfl
theorem ty76 : (CC W).ty 76 = some T76 := _root_.id rfl
theorem ty77 : (CC W).ty 77 = some T77 := _root_.id rfl
theorem ty78 : (CC W).ty 78 = some T78 := _root_.id rfl
theorem ty79 : (CC W).ty 79 = some T79 := _root_.id rfl
theorem ty80 : (CC W).ty 80 = some T80 := _root_.id rfl
theorem ty81 : (CC W).ty 81 = some T81 := _root_.id rfl
theorem ty82 : (CC W).ty 82 = some T82 := _root_.id rfl
theorem ty83 : (CC W).ty 83 = some T83 := _root_.id rfl
theorem ty84 : (CC W).ty 84 = some T84 := _root_.id rfl
theorem ty85 : (CC W).ty 85 = some T85 := _root_.id rfl
theorem ty86 : (CC W).ty 86 = some T86 := _root_.id rfl
theorem ty87 : (CC W).ty 87 = some T87 := _root_.id rfl
theorem ty88 : (CC W).ty 88 = some T88 := _root_.id rfl
theorem ty89 : (CC W).ty 89 = some T89 := _root_.id rfl
theorem ty90 : (CC W).ty 90 = some T90 := _root_.id rfl
theorem ty91 : (CC W).ty 91 = some T91 := _root_.id rfl
theorem ty92 : (CC W).ty 92 = some T92 := _root_.id rfl
theorem ty93 : (CC W).ty 93 = some T93 := _root_.id rfl
theorem ty94 : (CC W).ty 94 = some T94 := _root_.id rfl
theorem ty95 : (CC W).ty 95 = some T95 := _root_.id rfl
theorem ty96 : (CC W).ty 96 = some T96 := _root_.id rfl
theorem ty97 : (CC W).ty 97 = some T97 := _root_.id rfl
theorem ty98 : (CC W).ty 98 = some T98 := _root_.id rfl
theorem ty99 : (CC W).ty 99 = some T99 := _root_.id rfl
theorem ty100 : (CC W).ty 100 = some T100 := _root_.id rfl
theorem ty101 : (CC W).ty 101 = some T101 := _root_.id rfl
theorem ty102 : (CC W).ty 102 = some T102 := _root_.id rfl
theorem ty103 : (CC W).ty 103 = some T103 := _root_.id rfl
theorem ty104 : (CC W).ty 104 = some T104 := _root_.id rfl
theorem ty105 : (CC W).ty 105 = some T105 := _root_.id rfl
theorem ty106 : (CC W).ty 106 = some T106 := _root_.id rfl
theorem ty107 : (CC W).ty 107 = some T107 := _root_.id rfl
theorem ty108 : (CC W).ty 108 = some T108 := _root_.id rfl
theorem ty109 : (CC W).ty 109 = some T109 := _root_.id rfl
theorem ty110 : (CC W).ty 110 = some T110 := _root_.id rfl
theorem ty111 : (CC W).ty 111 = some T111 := _root_.id rfl
theorem ty112 : (CC W).ty 112 = some T112 := _root_.id rfl
theorem ty113 : (CC W).ty 113 = some T113 := _root_.id rfl
theorem ty114 : (CC W).ty 114 = some T114 := _root_.id rfl
theorem ty115 : (CC W).ty 115 = some T115 := _root_.id rfl
theorem ty116 : (CC W).ty 116 = some T116 := _root_.id rfl
theorem ty117 : (CC W).ty 117 = some T117 := _root_.id rfl
theorem ty118 : (CC W).ty 118 = some T118 := _root_.id rfl
theorem ty119 : (CC W).ty 119 = some T119 := _root_.id rfl
theorem ty120 : (CC W).ty 120 = some T120 := _root_.id rfl
theorem ty121 : (CC W).ty 121 = some T121 := _root_.id rfl
theorem ty122 : (CC W).ty 122 = some T122 := _root_.id rfl
theorem ty123 : (CC W).ty 123 = some T123 := _root_.id rfl
theorem ty124 : (CC W).ty 124 = some T124 := _root_.id rfl
theorem ty125 : (CC W).ty 125 = some T125 := _root_.id rfl
theorem ty126 : (CC W).ty 126 = some T126 := _root_.id rfl
theorem ty127 : (CC W).ty 127 = some T127 := _root_.id rfl
theorem ty128 : (CC W).ty 128 = some T128 := _root_.id rfl
theorem ty129 : (CC W).ty 129 = some T129 := _root_.id rfl
theorem ty130 : (CC W).ty 130 = some T130 := _root_.id rfl
theorem ty131 : (CC W).ty 131 = some T131 := _root_.id rfl
theorem ty132 : (CC W).ty 132 = some T132 := _root_.id rfl
theorem ty133 : (CC W).ty 133 = some T133 := _root_.id rfl
theorem ty134 : (CC W).ty 134 = some T134 := _root_.id rfl
theorem ty135 : (CC W).ty 135 = some T135 := _root_.id rfl
theorem ty136 : (CC W).ty 136 = some T136 := _root_.id rfl
theorem ty137 : (CC W).ty 137 = some T137 := _root_.id rfl
theorem ty138 : (CC W).ty 138 = some T138 := _root_.id rfl
theorem ty139 : (CC W).ty 139 = some T139 := _root_.id rfl
theorem ty140 : (CC W).ty 140 = some T140 := _root_.id rfl
theorem ty141 : (CC W).ty 141 = some T141 := _root_.id rfl
theorem ty142 : (CC W).ty 142 = some T142 := _root_.id rfl
theorem ty143 : (CC W).ty 143 = some T143 := _root_.id rfl
theorem ty144 : (CC W).ty 144 = some T144 := _root_.id rfl
theorem ty145 : (CC W).ty 145 = some T145 := _root_.id rfl
theorem ty146 : (CC W).ty 146 = some T146 := _root_.id rfl
theorem ty147 : (CC W).ty 147 = some T147 := _root_.id rfl
theorem ty148 : (CC W).ty 148 = some T148 := _root_.id rfl
theorem ty149 : (CC W).ty 149 = some T149 := _root_.id rfl
theorem ty150 : (CC W).ty 150 = some T150 := _root_.id rfl
theorem ty151 : (CC W).ty 151 = some T151 := _root_.id rfl
theorem ty152 : (CC W).ty 152 = some T152 := _root_.id rfl
theorem ty153 : (CC W).ty 153 = some T153 := _root_.id rfl
theorem ty154 : (CC W).ty 154 = some T154 := _root_.id rfl
theorem ty155 : (CC W).ty 155 = some T155 := _root_.id rfl
theorem ty156 : (CC W).ty 156 = some T156 := _root_.id rfl
theorem ty157 : (CC W).ty 157 = some T157 := _root_.id rfl
theorem ty158 : (CC W).ty 158 = some T158 := _root_.id rfl
theorem ty159 : (CC W).ty 159 = some T159 := _root_.id rfl
theorem ty160 : (CC W).ty 160 = some T160 := _root_.id rfl
theorem ty161 : (CC W).ty 161 = some T161 := _root_.id rfl
theorem ty162 : (CC W).ty 162 = some T162 := _root_.id rfl
theorem ty163 : (CC W).ty 163 = some T163 := _root_.id rfl
theorem ty164 : (CC W).ty 164 = some T164 := _root_.id rfl
theorem ty165 : (CC W).ty 165 = some T165 := _root_.id rfl
theorem ty166 : (CC W).ty 166 = some T166 := _root_.id rfl
theorem ty167 : (CC W).ty 167 = some T167 := _root_.id rfl
theorem ty168 : (CC W).ty 168 = some T168 := _root_.id rfl
theorem ty169 : (CC W).ty 169 = some T169 := _root_.id rfl
theorem ty170 : (CC W).ty 170 = some T170 := _root_.id rfl
theorem ty171 : (CC W).ty 171 = some T171 := _root_.id rfl
theorem ty172 : (CC W).ty 172 = some T172 := _root_.id rfl
theorem ty173 : (CC W).ty 173 = some T173 := _root_.id rfl
theorem ty174 : (CC W).ty 174 = some T174 := _root_.id rfl
theorem ty175 : (CC W).ty 175 = some T175 := _root_.id rfl
theorem ty176 : (CC W).ty 176 = some T176 := _root_.id rfl
theorem ty177 : (CC W).ty 177 = some T177 := _root_.id rfl
theorem ty178 : (CC W).ty 178 = some T178 := _root_.id rfl
theorem ty179 : (CC W).ty 179 = some T179 := _root_.id rfl
theorem ty180 : (CC W).ty 180 = some T180 := _root_.id rfl
theorem ty181 : (CC W).ty 181 = some T181 := _root_.id rfl
theorem ty182 : (CC W).ty 182 = some T182 := _root_.id rfl
theorem ty183 : (CC W).ty 183 = some T183 := _root_.id rfl
theorem ty184 : (CC W).ty 184 = some T184 := _root_.id rfl
theorem ty185 : (CC W).ty 185 = some T185 := _root_.id rfl
theorem ty186 : (CC W).ty 186 = some T186 := _root_.id rfl
theorem ty187 : (CC W).ty 187 = some T187 := _root_.id rfl
theorem ty188 : (CC W).ty 188 = some T188 := _root_.id rfl
theorem ty189 : (CC W).ty 189 = some T189 := _root_.id rfl
theorem ty190 : (CC W).ty 190 = some T190 := _root_.id rfl
theorem ty191 : (CC W).ty 191 = some T191 := _root_.id rfl
theorem ty192 : (CC W).ty 192 = some T192 := _root_.id rfl
theorem ty193 : (CC W).ty 193 = some T193 := _root_.id rfl
theorem ty194 : (CC W).ty 194 = some T194 := _root_.id rfl
theorem ty195 : (CC W).ty 195 = some T195 := _root_.id rfl
theorem ty196 : (CC W).ty 196 = some T196 := _root_.id rfl
theorem ty197 : (CC W).ty 197 = some T197 := _root_.id rfl
theorem ty198 : (CC W).ty 198 = some T198 := _root_.id rfl
theorem ty199 : (CC W).ty 199 = some T199 := _root_.id rfl
theorem ty200 : (CC W).ty 200 = some T200 := _root_.id rfl
theorem ty201 : (CC W).ty 201 = some T201 := _root_.id rfl
theorem ty202 : (CC W).ty 202 = some T202 := _root_.id rfl
theorem ty203 : (CC W).ty 203 = some T203 := _root_.id rfl
theorem ty204 : (CC W).ty 204 = some T204 := _root_.id rfl
theorem ty205 : (CC W).ty 205 = some T205 := _root_.id rfl
theorem ty206 : (CC W).ty 206 = some T206 := _root_.id rfl
theorem ty207 : (CC W).ty 207 = some T207 := _root_.id rfl
theorem ty208 : (CC W).ty 208 = some T208 := _root_.id rfl
theorem ty209 : (CC W).ty 209 = some T209 := _root_.id rfl
theorem ty210 : (CC W).ty 210 = some T210 := _root_.id rfl
theorem ty211 : (CC W).ty 211 = some T211 := _root_.id rfl
theorem ty212 : (CC W).ty 212 = some T212 := _root_.id rfl
theorem ty213 : (CC W).ty 213 = some T213 := _root_.id rfl
theorem ty214 : (CC W).ty 214 = some T214 := _root_.id rfl
theorem ty215 : (CC W).ty 215 = some T215 := _root_.id rfl
theorem ty216 : (CC W).ty 216 = some T216 := _root_.id rfl
theorem ty217 : (CC W).ty 217 = some T217 := _root_.id rfl
theorem ty218 : (CC W).ty 218 = some T218 := _root_.id rfl
theorem ty219 : (CC W).ty 219 = some T219 := _root_.id rfl
theorem ty220 : (CC W).ty 220 = some T220 := _root_.id rfl
theorem ty221 : (CC W).ty 221 = some T221 := _root_.id rfl
theorem ty222 : (CC W).ty 222 = some T222 := _root_.id rfl
theorem ty223 : (CC W).ty 223 = some T223 := _root_.id rfl
theorem ty224 : (CC W).ty 224 = some T224 := _root_.id rfl
theorem ty225 : (CC W).ty 225 = some T225 := _root_.id rfl
theorem ty226 : (CC W).ty 226 = some T226 := _root_.id rfl
theorem ty227 : (CC W).ty 227 = some T227 := _root_.id rfl
theorem ty228 : (CC W).ty 228 = some T228 := _root_.id rfl
theorem ty229 : (CC W).ty 229 = some T229 := _root_.id rfl
theorem ty230 : (CC W).ty 230 = some T230 := _root_.id rfl
theorem ty231 : (CC W).ty 231 = some T231 := _root_.id rfl
theorem ty232 : (CC W).ty 232 = some T232 := _root_.id rfl
theorem ty233 : (CC W).ty 233 = some T233 := _root_.id rfl
theorem ty234 : (CC W).ty 234 = some T234 := _root_.id rfl
theorem ty235 : (CC W).ty 235 = some T235 := _root_.id rfl
theorem ty236 : (CC W).ty 236 = some T236 := _root_.id rfl
theorem ty237 : (CC W).ty 237 = some T237 := _root_.id rfl
theorem ty238 : (CC W).ty 238 = some T238 := _root_.id rfl
theorem ty239 : (CC W).ty 239 = some T239 := _root_.id rfl
theorem ty240 : (CC W).ty 240 = some T240 := _root_.id rfl
theorem ty241 : (CC W).ty 241 = some T241 := _root_.id rfl
theorem ty242 : (CC W).ty 242 = some T242 := _root_.id rfl
theorem ty243 : (CC W).ty 243 = some T243 := _root_.id rfl
theorem ty244 : (CC W).ty 244 = some T244 := _root_.id rfl
theorem ty245 : (CC W).ty 245 = some T245 := _root_.id rfl
theorem ty246 : (CC W).ty 246 = some T246 := _root_.id rfl
theorem ty247 : (CC W).ty 247 = some T247 := _root_.id rfl
theorem ty248 : (CC W).ty 248 = some T248 := _root_.id rfl
theorem ty249 : (CC W).ty 249 = some T249 := _root_.id rfl
theorem ty250 : (CC W).ty 250 = some T250 := _root_.id rfl
theorem ty251 : (CC W).ty 251 = some T251 := _root_.id rfl
theorem ty252 : (CC W).ty 252 = some T252 := _root_.id rfl
theorem ty253 : (CC W).ty 253 = some T253 := _root_.id rfl
theorem ty254 : (CC W).ty 254 = some T254 := _root_.id rfl
theorem ty255 : (CC W).ty 255 = some T255 := _root_.id rfl
theorem ty256 : (CC W).ty 256 = some T256 := _root_.id rfl
theorem ty257 : (CC W).ty 257 = some T257 := _root_.id rfl
theorem ty258 : (CC W).ty 258 = some T258 := _root_.id rfl
theorem ty259 : (CC W).ty 259 = some T259 := _root_.id rfl
theorem ty260 : (CC W).ty 260 = some T260 := _root_.id rfl
theorem ty261 : (CC W).ty 261 = some T261 := _root_.id rfl
theorem ty262 : (CC W).ty 262 = some T262 := _root_.id rfl
theorem ty263 : (CC W).ty 263 = some T263 := _root_.id rfl
theorem ty264 : (CC W).ty 264 = some T264 := _root_.id rfl
theorem ty265 : (CC W).ty 265 = some T265 := _root_.id rfl
theorem ty266 : (CC W).ty 266 = some T266 := _root_.id rfl
theorem ty267 : (CC W).ty 267 = some T267 := _root_.id rfl
theorem ty268 : (CC W).ty 268 = some T268 := _root_.id rfl
theorem ty269 : (CC W).ty 269 = some T269 := _root_.id rfl
theorem ty270 : (CC W).ty 270 = some T270 := _root_.id rfl
theorem ty271 : (CC W).ty 271 = some T271 := _root_.id rfl
theorem ty272 : (CC W).ty 272 = some T272 := _root_.id rfl
theorem ty273 : (CC W).ty 273 = some T273 := _root_.id rfl
theorem ty274 : (CC W).ty 274 = some T274 := _root_.id rfl
theorem ty275 : (CC W).ty 275 = some T275 := _root_.id rfl
theorem ty276 : (CC W).ty 276 = some T276 := _root_.id rfl
theorem ty277 : (CC W).ty 277 = some T277 := _root_.id rfl
theorem ty278 : (CC W).ty 278 = some T278 := _root_.id rfl
theorem ty279 : (CC W).ty 279 = some T279 := _root_.id rfl
theorem ty280 : (CC W).ty 280 = some T280 := _root_.id rfl
theorem ty281 : (CC W).ty 281 = some T281 := _root_.id rfl
theorem ty282 : (CC W).ty 282 = some T282 := _root_.id rfl
theorem ty283 : (CC W).ty 283 = some T283 := _root_.id rfl
theorem ty284 : (CC W).ty 284 = some T284 := _root_.id rfl
theorem ty285 : (CC W).ty 285 = some T285 := _root_.id rfl
theorem kind0 : (CC W).kind 0 = .tuple := _root_.id rfl
theorem size0 : (CC W).size 0 = some 1 := _root_.id rfl
theorem kind1 : (CC W).kind 1 = .func := _root_.id rfl
theorem size1 : (CC W).size 1 = some 1 := _root_.id rfl
theorem zero1 : (CC W).zero 1 = (some [.nilfn]) := _root_.id rfl
theorem kind2 : (CC W).kind 2 = .int .i64 := _root_.id rfl
theorem size2 : (CC W).size 2 = some 1 := _root_.id rfl
theorem zero2 : (CC W).zero 2 = (some [.int .i64 0]) := _root_.id rfl
theorem kind3 : (CC W).kind 3 = .int .i64 := _root_.id rfl
theorem size3 : (CC W).size 3 = some 1 := _root_.id rfl
theorem zero3 : (CC W).zero 3 = (some [.int .i64 0]) := _root_.id rfl
theorem kind4 : (CC W).kind 4 = .bool := _root_.id rfl
theorem size4 : (CC W).size 4 = some 1 := _root_.id rfl
theorem zero4 : (CC W).zero 4 = (some [.bool false]) := _root_.id rfl
theorem kind5 : (CC W).kind 5 = .int .u8 := _root_.id rfl
theorem size5 : (CC W).size 5 = some 1 := _root_.id rfl
theorem zero5 : (CC W).zero 5 = (some [.int .u8 0]) := _root_.id rfl
theorem kind6 : (CC W).kind 6 = .int .u8 := _root_.id rfl
theorem size6 : (CC W).size 6 = some 1 := _root_.id rfl
theorem zero6 : (CC W).zero 6 = (some [.int .u8 0]) := _root_.id rfl
theorem kind7 : (CC W).kind 7 = .struct [(0, 2), (1, 3), (2, 4), (3, 6)] true := _root_.id rfl
theorem size7 : (CC W).size 7 = some 4 := _root_.id rfl
theorem zero7 : (CC W).zero 7 = (some [.int .i64 0, .int .i64 0, .bool false, .int .u8 0]) := _root_.id rfl
theorem kind8 : (CC W).kind 8 = .struct [(0, 2), (1, 3), (2, 4), (3, 6)] true := _root_.id rfl
theorem size8 : (CC W).size 8 = some 4 := _root_.id rfl
theorem zero8 : (CC W).zero 8 = (some [.int .i64 0, .int .i64 0, .bool false, .int .u8 0]) := _root_.id rfl
theorem kind9 : (CC W).kind 9 = .str := _root_.id rfl
theorem size9 : (CC W).size 9 = some 1 := _root_.id rfl
theorem zero9 : (CC W).zero 9 = (some [.str []]) := _root_.id rfl
theorem kind10 : (CC W).kind 10 = .str := _root_.id rfl
theorem size10 : (CC W).size 10 = some 1 := _root_.id rfl
theorem zero10 : (CC W).zero 10 = (some [.str []]) := _root_.id rfl
theorem kind11 : (CC W).kind 11 = .str := _root_.id rfl
theorem size11 : (CC W).size 11 = some 1 := _root_.id rfl
theorem zero11 : (CC W).zero 11 = (some [.str []]) := _root_.id rfl
theorem kind12 : (CC W).kind 12 = .int .u64 := _root_.id rfl
theorem size12 : (CC W).size 12 = some 1 := _root_.id rfl
theorem zero12 : (CC W).zero 12 = (some [.int .u64 0]) := _root_.id rfl
theorem kind13 : (CC W).kind 13 = .struct [(0, 9), (1, 12)] false := _root_.id rfl
theorem size13 : (CC W).size 13 = some 2 := _root_.id rfl
theorem zero13 : (CC W).zero 13 = (some [.str [], .int .u64 0]) := _root_.id rfl
theorem kind14 : (CC W).kind 14 = .struct [(0, 9), (1, 12)] false := _root_.id rfl
theorem size14 : (CC W).size 14 = some 2 := _root_.id rfl
theorem zero14 : (CC W).zero 14 = (some [.str [], .int .u64 0]) := _root_.id rfl
theorem kind15 : (CC W).kind 15 = .ptr 275 := _root_.id rfl
theorem size15 : (CC W).size 15 = some 1 := _root_.id rfl
theorem zero15 : (CC W).zero 15 = (some [.ptr none]) := _root_.id rfl
theorem kind16 : (CC W).kind 16 = .ptr 278 := _root_.id rfl
theorem size16 : (CC W).size 16 = some 1 := _root_.id rfl
theorem zero16 : (CC W).zero 16 = (some [.ptr none]) := _root_.id rfl
theorem kind17 : (CC W).kind 17 = .ptr 285 := _root_.id rfl
theorem size17 : (CC W).size 17 = some 1 := _root_.id rfl
theorem zero17 : (CC W).zero 17 = (some [.ptr none]) := _root_.id rfl
theorem kind18 : (CC W).kind 18 = .struct [(0, 17)] false := _root_.id rfl
theorem size18 : (CC W).size 18 = some 1 := _root_.id rfl
theorem zero18 : (CC W).zero 18 = (some [.ptr none]) := _root_.id rfl
theorem kind19 : (CC W).kind 19 = .struct [(0, 17)] false := _root_.id rfl
theorem size19 : (CC W).size 19 = some 1 := _root_.id rfl
theorem zero19 : (CC W).zero 19 = (some [.ptr none]) := _root_.id rfl
theorem kind20 : (CC W).kind 20 = .iface true := _root_.id rfl
theorem size20 : (CC W).size 20 = some 1 := _root_.id rfl
theorem zero20 : (CC W).zero 20 = (some [.nilifc]) := _root_.id rfl
theorem kind21 : (CC W).kind 21 = .int .i32 := _root_.id rfl
theorem size21 : (CC W).size 21 = some 1 := _root_.id rfl
theorem zero21 : (CC W).zero 21 = (some [.int .i32 0]) := _root_.id rfl
theorem kind22 : (CC W).kind 22 = .struct [(0, 3), (1, 3), (2, 3)] true := _root_.id rfl
theorem size22 : (CC W).size 22 = some 3 := _root_.id rfl
theorem zero22 : (CC W).zero 22 = (some [.int .i64 0, .int .i64 0, .int .i64 0]) := _root_.id rfl
theorem kind23 : (CC W).kind 23 = .struct [(0, 3), (1, 3), (2, 3)] true := _root_.id rfl
theorem size23 : (CC W).size 23 = some 3 := _root_.id rfl
theorem zero23 : (CC W).zero 23 = (some [.int .i64 0, .int .i64 0, .int .i64 0]) := _root_.id rfl
theorem kind24 : (CC W).kind 24 = .slice 35 := _root_.id rfl
theorem size24 : (CC W).size 24 = some 1 := _root_.id rfl
theorem zero24 : (CC W).zero 24 = (some [.sl none 0 0 none]) := _root_.id rfl
theorem kind25 : (CC W).kind 25 = .ptr 88 := _root_.id rfl
theorem size25 : (CC W).size 25 = some 1 := _root_.id rfl
theorem zero25 : (CC W).zero 25 = (some [.ptr none]) := _root_.id rfl
theorem kind26 : (CC W).kind 26 = .int .i64 := _root_.id rfl
theorem size26 : (CC W).size 26 = some 1 := _root_.id rfl
theorem zero26 : (CC W).zero 26 = (some [.int .i64 0]) := _root_.id rfl
theorem kind27 : (CC W).kind 27 = .tuple := _root_.id rfl
theorem size27 : (CC W).size 27 = some 1 := _root_.id rfl
theorem kind28 : (CC W).kind 28 = .func := _root_.id rfl
theorem size28 : (CC W).size 28 = some 1 := _root_.id rfl
theorem zero28 : (CC W).zero 28 = (some [.nilfn]) := _root_.id rfl
theorem kind29 : (CC W).kind 29 = .ptr 60 := _root_.id rfl
theorem size29 : (CC W).size 29 = some 1 := _root_.id rfl
theorem zero29 : (CC W).zero 29 = (some [.ptr none]) := _root_.id rfl
theorem kind30 : (CC W).kind 30 = .tuple := _root_.id rfl
theorem size30 : (CC W).size 30 = some 1 := _root_.id rfl
theorem kind31 : (CC W).kind 31 = .func := _root_.id rfl
theorem size31 : (CC W).size 31 = some 1 := _root_.id rfl
theorem zero31 : (CC W).zero 31 = (some [.nilfn]) := _root_.id rfl
theorem kind32 : (CC W).kind 32 = .func := _root_.id rfl
theorem size32 : (CC W).size 32 = some 1 := _root_.id rfl
theorem zero32 : (CC W).zero 32 = (some [.nilfn]) := _root_.id rfl
theorem kind33 : (CC W).kind 33 = .func := _root_.id rfl
theorem size33 : (CC W).size 33 = some 1 := _root_.id rfl
theorem zero33 : (CC W).zero 33 = (some [.nilfn]) := _root_.id rfl
theorem kind34 : (CC W).kind 34 = .struct [(0, 3), (1, 3), (2, 3), (3, 9), (4, 9), (5, 9)] true := _root_.id rfl
theorem size34 : (CC W).size 34 = some 6 := _root_.id rfl
theorem zero34 : (CC W).zero 34 = (some [.int .i64 0, .int .i64 0, .int .i64 0, .str [], .str [], .str []]) := _root_.id rfl
theorem kind35 : (CC W).kind 35 = .struct [(0, 3), (1, 3), (2, 3), (3, 9), (4, 9), (5, 9)] true := _root_.id rfl
theorem size35 : (CC W).size 35 = some 6 := _root_.id rfl
theorem zero35 : (CC W).zero 35 = (some [.int .i64 0, .int .i64 0, .int .i64 0, .str [], .str [], .str []]) := _root_.id rfl
theorem kind36 : (CC W).kind 36 = .func := _root_.id rfl
theorem size36 : (CC W).size 36 = some 1 := _root_.id rfl
theorem zero36 : (CC W).zero 36 = (some [.nilfn]) := _root_.id rfl
theorem kind37 : (CC W).kind 37 = .slice 9 := _root_.id rfl
theorem size37 : (CC W).size 37 = some 1 := _root_.id rfl
theorem zero37 : (CC W).zero 37 = (some [.sl none 0 0 none]) := _root_.id rfl
theorem kind38 : (CC W).kind 38 = .struct [(0, 26), (1, 9), (2, 3), (3, 3), (4, 3), (5, 37)] true := _root_.id rfl
theorem size38 : (CC W).size 38 = some 6 := _root_.id rfl
theorem zero38 : (CC W).zero 38 = (some [.int .i64 0, .str [], .int .i64 0, .int .i64 0, .int .i64 0, .sl none 0 0 none]) := _root_.id rfl
theorem kind39 : (CC W).kind 39 = .struct [(0, 26), (1, 9), (2, 3), (3, 3), (4, 3), (5, 37)] true := _root_.id rfl
theorem size39 : (CC W).size 39 = some 6 := _root_.id rfl
theorem zero39 : (CC W).zero 39 = (some [.int .i64 0, .str [], .int .i64 0, .int .i64 0, .int .i64 0, .sl none 0 0 none]) := _root_.id rfl
theorem kind40 : (CC W).kind 40 = .func := _root_.id rfl
theorem size40 : (CC W).size 40 = some 1 := _root_.id rfl
theorem zero40 : (CC W).zero 40 = (some [.nilfn]) := _root_.id rfl
theorem kind41 : (CC W).kind 41 = .tuple := _root_.id rfl
theorem size41 : (CC W).size 41 = some 1 := _root_.id rfl
theorem kind42 : (CC W).kind 42 = .func := _root_.id rfl
theorem size42 : (CC W).size 42 = some 1 := _root_.id rfl
theorem zero42 : (CC W).zero 42 = (some [.nilfn]) := _root_.id rfl
theorem kind43 : (CC W).kind 43 = .func := _root_.id rfl
theorem size43 : (CC W).size 43 = some 1 := _root_.id rfl
theorem zero43 : (CC W).zero 43 = (some [.nilfn]) := _root_.id rfl
theorem kind44 : (CC W).kind 44 = .slice 55 := _root_.id rfl
theorem size44 : (CC W).size 44 = some 1 := _root_.id rfl
theorem zero44 : (CC W).zero 44 = (some [.sl none 0 0 none]) := _root_.id rfl
theorem kind45 : (CC W).kind 45 = .func := _root_.id rfl
theorem size45 : (CC W).size 45 = some 1 := _root_.id rfl
theorem zero45 : (CC W).zero 45 = (some [.nilfn]) := _root_.id rfl
theorem kind46 : (CC W).kind 46 = .slice 108 := _root_.id rfl
theorem size46 : (CC W).size 46 = some 1 := _root_.id rfl
theorem zero46 : (CC W).zero 46 = (some [.sl none 0 0 none]) := _root_.id rfl
theorem kind47 : (CC W).kind 47 = .func := _root_.id rfl
theorem size47 : (CC W).size 47 = some 1 := _root_.id rfl
theorem zero47 : (CC W).zero 47 = (some [.nilfn]) := _root_.id rfl
theorem kind48 : (CC W).kind 48 = .func := _root_.id rfl
theorem size48 : (CC W).size 48 = some 1 := _root_.id rfl
theorem zero48 : (CC W).zero 48 = (some [.nilfn]) := _root_.id rfl
theorem kind49 : (CC W).kind 49 = .func := _root_.id rfl
theorem size49 : (CC W).size 49 = some 1 := _root_.id rfl
theorem zero49 : (CC W).zero 49 = (some [.nilfn]) := _root_.id rfl
theorem kind50 : (CC W).kind 50 = .func := _root_.id rfl
theorem size50 : (CC W).size 50 = some 1 := _root_.id rfl
theorem zero50 : (CC W).zero 50 = (some [.nilfn]) := _root_.id rfl
theorem kind51 : (CC W).kind 51 = .slice 5 := _root_.id rfl
theorem size51 : (CC W).size 51 = some 1 := _root_.id rfl
theorem zero51 : (CC W).zero 51 = (some [.sl none 0 0 none]) := _root_.id rfl
theorem kind52 : (CC W).kind 52 = .func := _root_.id rfl
theorem size52 : (CC W).size 52 = some 1 := _root_.id rfl
theorem zero52 : (CC W).zero 52 = (some [.nilfn]) := _root_.id rfl
theorem kind53 : (CC W).kind 53 = .slice 3 := _root_.id rfl
theorem size53 : (CC W).size 53 = some 1 := _root_.id rfl
theorem zero53 : (CC W).zero 53 = (some [.sl none 0 0 none]) := _root_.id rfl
theorem kind54 : (CC W).kind 54 = .struct [(0, 9), (1, 3), (2, 3), (3, 3), (4, 3), (5, 53), (6, 9)] true := _root_.id rfl
theorem size54 : (CC W).size 54 = some 7 := _root_.id rfl
theorem zero54 : (CC W).zero 54 = (some [.str [], .int .i64 0, .int .i64 0, .int .i64 0, .int .i64 0, .sl none 0 0 none, .str []]) := _root_.id rfl
theorem kind55 : (CC W).kind 55 = .struct [(0, 9), (1, 3), (2, 3), (3, 3), (4, 3), (5, 53), (6, 9)] true := _root_.id rfl
theorem size55 : (CC W).size 55 = some 7 := _root_.id rfl
theorem zero55 : (CC W).zero 55 = (some [.str [], .int .i64 0, .int .i64 0, .int .i64 0, .int .i64 0, .sl none 0 0 none, .str []]) := _root_.id rfl
theorem kind56 : (CC W).kind 56 = .func := _root_.id rfl
theorem size56 : (CC W).size 56 = some 1 := _root_.id rfl
theorem zero56 : (CC W).zero 56 = (some [.nilfn]) := _root_.id rfl
theorem kind57 : (CC W).kind 57 = .func := _root_.id rfl
theorem size57 : (CC W).size 57 = some 1 := _root_.id rfl
theorem zero57 : (CC W).zero 57 = (some [.nilfn]) := _root_.id rfl
theorem kind58 : (CC W).kind 58 = .slice 100 := _root_.id rfl
theorem size58 : (CC W).size 58 = some 1 := _root_.id rfl
theorem zero58 : (CC W).zero 58 = (some [.sl none 0 0 none]) := _root_.id rfl
theorem kind59 : (CC W).kind 59 = .struct [(0, 58), (1, 3)] true := _root_.id rfl
theorem size59 : (CC W).size 59 = some 2 := _root_.id rfl
theorem zero59 : (CC W).zero 59 = (some [.sl none 0 0 none, .int .i64 0]) := _root_.id rfl
theorem kind60 : (CC W).kind 60 = .struct [(0, 58), (1, 3)] true := _root_.id rfl
theorem size60 : (CC W).size 60 = some 2 := _root_.id rfl
theorem zero60 : (CC W).zero 60 = (some [.sl none 0 0 none, .int .i64 0]) := _root_.id rfl
theorem kind61 : (CC W).kind 61 = .func := _root_.id rfl
theorem size61 : (CC W).size 61 = some 1 := _root_.id rfl
theorem zero61 : (CC W).zero 61 = (some [.nilfn]) := _root_.id rfl
theorem kind62 : (CC W).kind 62 = .func := _root_.id rfl
theorem size62 : (CC W).size 62 = some 1 := _root_.id rfl
theorem zero62 : (CC W).zero 62 = (some [.nilfn]) := _root_.id rfl
theorem kind63 : (CC W).kind 63 = .slice 73 := _root_.id rfl
theorem size63 : (CC W).size 63 = some 1 := _root_.id rfl
theorem zero63 : (CC W).zero 63 = (some [.sl none 0 0 none]) := _root_.id rfl
theorem kind64 : (CC W).kind 64 = .func := _root_.id rfl
theorem size64 : (CC W).size 64 = some 1 := _root_.id rfl
theorem zero64 : (CC W).zero 64 = (some [.nilfn]) := _root_.id rfl
theorem kind65 : (CC W).kind 65 = .tuple := _root_.id rfl
theorem size65 : (CC W).size 65 = some 1 := _root_.id rfl
theorem kind66 : (CC W).kind 66 = .func := _root_.id rfl
theorem size66 : (CC W).size 66 = some 1 := _root_.id rfl
theorem zero66 : (CC W).zero 66 = (some [.nilfn]) := _root_.id rfl
theorem kind67 : (CC W).kind 67 = .func := _root_.id rfl
theorem size67 : (CC W).size 67 = some 1 := _root_.id rfl
theorem zero67 : (CC W).zero 67 = (some [.nilfn]) := _root_.id rfl
theorem kind68 : (CC W).kind 68 = .struct [(0, 3), (1, 3), (2, 3), (3, 3), (4, 3), (5, 3), (6, 35)] true := _root_.id rfl
theorem size68 : (CC W).size 68 = some 12 := _root_.id rfl
theorem zero68 : (CC W).zero 68 = (some [.int .i64 0, .int .i64 0, .int .i64 0, .int .i64 0, .int .i64 0, .int .i64 0, .int .i64 0, .int .i64 0, .int .i64 0, .str [], .str [], .str []]) := _root_.id rfl
theorem kind69 : (CC W).kind 69 = .struct [(0, 3), (1, 3), (2, 3), (3, 3), (4, 3), (5, 3), (6, 35)] true := _root_.id rfl
theorem size69 : (CC W).size 69 = some 12 := _root_.id rfl
theorem zero69 : (CC W).zero 69 = (some [.int .i64 0, .int .i64 0, .int .i64 0, .int .i64 0, .int .i64 0, .int .i64 0, .int .i64 0, .int .i64 0, .int .i64 0, .str [], .str [], .str []]) := _root_.id rfl
theorem kind70 : (CC W).kind 70 = .slice 75 := _root_.id rfl
theorem size70 : (CC W).size 70 = some 1 := _root_.id rfl
theorem zero70 : (CC W).zero 70 = (some [.sl none 0 0 none]) := _root_.id rfl
theorem kind71 : (CC W).kind 71 = .slice 78 := _root_.id rfl
theorem size71 : (CC W).size 71 = some 1 := _root_.id rfl
theorem zero71 : (CC W).zero 71 = (some [.sl none 0 0 none]) := _root_.id rfl
theorem kind72 : (CC W).kind 72 = .struct [(0, 69), (12, 70), (13, 71)] true := _root_.id rfl
theorem size72 : (CC W).size 72 = some 14 := _root_.id rfl
theorem zero72 : (CC W).zero 72 = (some [.int .i64 0, .int .i64 0, .int .i64 0, .int .i64 0, .int .i64 0, .int .i64 0, .int .i64 0, .int .i64 0, .int .i64 0, .str [], .str [], .str [], .sl none 0 0 none, .sl none 0 0 none]) := _root_.id rfl
theorem kind73 : (CC W).kind 73 = .struct [(0, 69), (12, 70), (13, 71)] true := _root_.id rfl
theorem size73 : (CC W).size 73 = some 14 := _root_.id rfl
theorem zero73 : (CC W).zero 73 = (some [.int .i64 0, .int .i64 0, .int .i64 0, .int .i64 0, .int .i64 0, .int .i64 0, .int .i64 0, .int .i64 0, .int .i64 0, .str [], .str [], .str [], .sl none 0 0 none, .sl none 0 0 none]) := _root_.id rfl
theorem kind74 : (CC W).kind 74 = .struct [(0, 3), (1, 3), (2, 3), (3, 39)] true := _root_.id rfl
theorem size74 : (CC W).size 74 = some 9 := _root_.id rfl
theorem zero74 : (CC W).zero 74 = (some [.int .i64 0, .int .i64 0, .int .i64 0, .int .i64 0, .str [], .int .i64 0, .int .i64 0, .int .i64 0, .sl none 0 0 none]) := _root_.id rfl
theorem kind75 : (CC W).kind 75 = .struct [(0, 3), (1, 3), (2, 3), (3, 39)] true := _root_.id rfl
theorem size75 : (CC W).size 75 = some 9 := _root_.id rfl
theorem zero75 : (CC W).zero 75 = (some [.int .i64 0, .int .i64 0, .int .i64 0, .int .i64 0, .str [], .int .i64 0, .int .i64 0, .int .i64 0, .sl none 0 0 none]) := _root_.id rfl
theorem kind76 : (CC W).kind 76 = .func := _root_.id rfl
theorem size76 : (CC W).size 76 = some 1 := _root_.id rfl
theorem zero76 : (CC W).zero 76 = (some [.nilfn]) := _root_.id rfl
theorem kind77 : (CC W).kind 77 = .struct [(0, 3), (1, 3), (2, 3), (3, 35)] true := _root_.id rfl
theorem size77 : (CC W).size 77 = some 9 := _root_.id rfl
theorem zero77 : (CC W).zero 77 = (some [.int .i64 0, .int .i64 0, .int .i64 0, .int .i64 0, .int .i64 0, .int .i64 0, .str [], .str [], .str []]) := _root_.id rfl
theorem kind78 : (CC W).kind 78 = .struct [(0, 3), (1, 3), (2, 3), (3, 35)] true := _root_.id rfl
theorem size78 : (CC W).size 78 = some 9 := _root_.id rfl
theorem zero78 : (CC W).zero 78 = (some [.int .i64 0, .int .i64 0, .int .i64 0, .int .i64 0, .int .i64 0, .int .i64 0, .str [], .str [], .str []]) := _root_.id rfl
theorem kind79 : (CC W).kind 79 = .func := _root_.id rfl
theorem size79 : (CC W).size 79 = some 1 := _root_.id rfl
theorem zero79 : (CC W).zero 79 = (some [.nilfn]) := _root_.id rfl
theorem kind80 : (CC W).kind 80 = .func := _root_.id rfl
theorem size80 : (CC W).size 80 = some 1 := _root_.id rfl
theorem zero80 : (CC W).zero 80 = (some [.nilfn]) := _root_.id rfl
theorem kind81 : (CC W).kind 81 = .struct [(0, 3), (1, 3), (2, 3), (3, 3), (4, 3)] true := _root_.id rfl
theorem size81 : (CC W).size 81 = some 5 := _root_.id rfl
theorem zero81 : (CC W).zero 81 = (some [.int .i64 0, .int .i64 0, .int .i64 0, .int .i64 0, .int .i64 0]) := _root_.id rfl
theorem kind82 : (CC W).kind 82 = .struct [(0, 3), (1, 3), (2, 3), (3, 3), (4, 3)] true := _root_.id rfl
theorem size82 : (CC W).size 82 = some 5 := _root_.id rfl
theorem zero82 : (CC W).zero 82 = (some [.int .i64 0, .int .i64 0, .int .i64 0, .int .i64 0, .int .i64 0]) := _root_.id rfl
theorem kind83 : (CC W).kind 83 = .tuple := _root_.id rfl
theorem size83 : (CC W).size 83 = some 1 := _root_.id rfl
theorem kind84 : (CC W).kind 84 = .func := _root_.id rfl
theorem size84 : (CC W).size 84 = some 1 := _root_.id rfl
theorem zero84 : (CC W).zero 84 = (some [.nilfn]) := _root_.id rfl
theorem kind85 : (CC W).kind 85 = .slice 89 := _root_.id rfl
theorem size85 : (CC W).size 85 = some 1 := _root_.id rfl
theorem zero85 : (CC W).zero 85 = (some [.sl none 0 0 none]) := _root_.id rfl
theorem kind86 : (CC W).kind 86 = .slice 96 := _root_.id rfl
theorem size86 : (CC W).size 86 = some 1 := _root_.id rfl
theorem zero86 : (CC W).zero 86 = (some [.sl none 0 0 none]) := _root_.id rfl
theorem kind87 : (CC W).kind 87 = .struct [(0, 85), (1, 3), (2, 86)] true := _root_.id rfl
theorem size87 : (CC W).size 87 = some 3 := _root_.id rfl
theorem zero87 : (CC W).zero 87 = (some [.sl none 0 0 none, .int .i64 0, .sl none 0 0 none]) := _root_.id rfl
theorem kind88 : (CC W).kind 88 = .struct [(0, 85), (1, 3), (2, 86)] true := _root_.id rfl
theorem size88 : (CC W).size 88 = some 3 := _root_.id rfl
theorem zero88 : (CC W).zero 88 = (some [.sl none 0 0 none, .int .i64 0, .sl none 0 0 none]) := _root_.id rfl
theorem kind89 : (CC W).kind 89 = .ptr 93 := _root_.id rfl
theorem size89 : (CC W).size 89 = some 1 := _root_.id rfl
theorem zero89 : (CC W).zero 89 = (some [.ptr none]) := _root_.id rfl
theorem kind90 : (CC W).kind 90 = .map 3 9 := _root_.id rfl
theorem size90 : (CC W).size 90 = some 1 := _root_.id rfl
theorem zero90 : (CC W).zero 90 = (some [.map none]) := _root_.id rfl
theorem kind91 : (CC W).kind 91 = .slice 159 := _root_.id rfl
theorem size91 : (CC W).size 91 = some 1 := _root_.id rfl
theorem zero91 : (CC W).zero 91 = (some [.sl none 0 0 none]) := _root_.id rfl
theorem kind92 : (CC W).kind 92 = .struct [(0, 3), (1, 3), (2, 3), (3, 90), (4, 91)] true := _root_.id rfl
theorem size92 : (CC W).size 92 = some 5 := _root_.id rfl
theorem zero92 : (CC W).zero 92 = (some [.int .i64 0, .int .i64 0, .int .i64 0, .map none, .sl none 0 0 none]) := _root_.id rfl
theorem kind93 : (CC W).kind 93 = .struct [(0, 3), (1, 3), (2, 3), (3, 90), (4, 91)] true := _root_.id rfl
theorem size93 : (CC W).size 93 = some 5 := _root_.id rfl
theorem zero93 : (CC W).zero 93 = (some [.int .i64 0, .int .i64 0, .int .i64 0, .map none, .sl none 0 0 none]) := _root_.id rfl
theorem kind94 : (CC W).kind 94 = .func := _root_.id rfl
theorem size94 : (CC W).size 94 = some 1 := _root_.id rfl
theorem zero94 : (CC W).zero 94 = (some [.nilfn]) := _root_.id rfl
theorem kind95 : (CC W).kind 95 = .struct [(0, 3), (1, 4), (2, 94)] true := _root_.id rfl
theorem size95 : (CC W).size 95 = some 3 := _root_.id rfl
theorem zero95 : (CC W).zero 95 = (some [.int .i64 0, .bool false, .nilfn]) := _root_.id rfl
theorem kind96 : (CC W).kind 96 = .struct [(0, 3), (1, 4), (2, 94)] true := _root_.id rfl
theorem size96 : (CC W).size 96 = some 3 := _root_.id rfl
theorem zero96 : (CC W).zero 96 = (some [.int .i64 0, .bool false, .nilfn]) := _root_.id rfl
theorem kind97 : (CC W).kind 97 = .func := _root_.id rfl
theorem size97 : (CC W).size 97 = some 1 := _root_.id rfl
theorem zero97 : (CC W).zero 97 = (some [.nilfn]) := _root_.id rfl
theorem kind98 : (CC W).kind 98 = .func := _root_.id rfl
theorem size98 : (CC W).size 98 = some 1 := _root_.id rfl
theorem zero98 : (CC W).zero 98 = (some [.nilfn]) := _root_.id rfl
theorem kind99 : (CC W).kind 99 = .struct [(0, 3), (1, 3), (2, 3), (3, 53), (4, 37), (5, 37), (6, 53)] true := _root_.id rfl
theorem size99 : (CC W).size 99 = some 7 := _root_.id rfl
theorem zero99 : (CC W).zero 99 = (some [.int .i64 0, .int .i64 0, .int .i64 0, .sl none 0 0 none, .sl none 0 0 none, .sl none 0 0 none, .sl none 0 0 none]) := _root_.id rfl
theorem kind100 : (CC W).kind 100 = .struct [(0, 3), (1, 3), (2, 3), (3, 53), (4, 37), (5, 37), (6, 53)] true := _root_.id rfl
theorem size100 : (CC W).size 100 = some 7 := _root_.id rfl
theorem zero100 : (CC W).zero 100 = (some [.int .i64 0, .int .i64 0, .int .i64 0, .sl none 0 0 none, .sl none 0 0 none, .sl none 0 0 none, .sl none 0 0 none]) := _root_.id rfl
theorem kind101 : (CC W).kind 101 = .func := _root_.id rfl
theorem size101 : (CC W).size 101 = some 1 := _root_.id rfl
theorem zero101 : (CC W).zero 101 = (some [.nilfn]) := _root_.id rfl
theorem kind102 : (CC W).kind 102 = .func := _root_.id rfl
theorem size102 : (CC W).size 102 = some 1 := _root_.id rfl
theorem zero102 : (CC W).zero 102 = (some [.nilfn]) := _root_.id rfl
theorem kind103 : (CC W).kind 103 = .func := _root_.id rfl
theorem size103 : (CC W).size 103 = some 1 := _root_.id rfl
theorem zero103 : (CC W).zero 103 = (some [.nilfn]) := _root_.id rfl
theorem kind104 : (CC W).kind 104 = .func := _root_.id rfl
theorem size104 : (CC W).size 104 = some 1 := _root_.id rfl
theorem zero104 : (CC W).zero 104 = (some [.nilfn]) := _root_.id rfl
theorem kind105 : (CC W).kind 105 = .tuple := _root_.id rfl
theorem size105 : (CC W).size 105 = some 1 := _root_.id rfl
theorem kind106 : (CC W).kind 106 = .func := _root_.id rfl
theorem size106 : (CC W).size 106 = some 1 := _root_.id rfl
theorem zero106 : (CC W).zero 106 = (some [.nilfn]) := _root_.id rfl
theorem kind107 : (CC W).kind 107 = .func := _root_.id rfl
theorem size107 : (CC W).size 107 = some 1 := _root_.id rfl
theorem zero107 : (CC W).zero 107 = (some [.nilfn]) := _root_.id rfl
theorem kind108 : (CC W).kind 108 = .struct [(0, 9), (1, 3), (2, 3), (3, 3), (4, 3), (5, 53), (6, 9)] true := _root_.id rfl
theorem size108 : (CC W).size 108 = some 7 := _root_.id rfl
theorem zero108 : (CC W).zero 108 = (some [.str [], .int .i64 0, .int .i64 0, .int .i64 0, .int .i64 0, .sl none 0 0 none, .str []]) := _root_.id rfl
theorem kind109 : (CC W).kind 109 = .func := _root_.id rfl
theorem size109 : (CC W).size 109 = some 1 := _root_.id rfl
theorem zero109 : (CC W).zero 109 = (some [.nilfn]) := _root_.id rfl
theorem kind110 : (CC W).kind 110 = .func := _root_.id rfl
theorem size110 : (CC W).size 110 = some 1 := _root_.id rfl
theorem zero110 : (CC W).zero 110 = (some [.nilfn]) := _root_.id rfl
theorem kind111 : (CC W).kind 111 = .func := _root_.id rfl
theorem size111 : (CC W).size 111 = some 1 := _root_.id rfl
theorem zero111 : (CC W).zero 111 = (some [.nilfn]) := _root_.id rfl
theorem kind112 : (CC W).kind 112 = .func := _root_.id rfl
theorem size112 : (CC W).size 112 = some 1 := _root_.id rfl
theorem zero112 : (CC W).zero 112 = (some [.nilfn]) := _root_.id rfl
theorem kind113 : (CC W).kind 113 = .func := _root_.id rfl
theorem size113 : (CC W).size 113 = some 1 := _root_.id rfl
theorem zero113 : (CC W).zero 113 = (some [.nilfn]) := _root_.id rfl
theorem kind114 : (CC W).kind 114 = .func := _root_.id rfl
theorem size114 : (CC W).size 114 = some 1 := _root_.id rfl
theorem zero114 : (CC W).zero 114 = (some [.nilfn]) := _root_.id rfl
theorem kind115 : (CC W).kind 115 = .func := _root_.id rfl
theorem size115 : (CC W).size 115 = some 1 := _root_.id rfl
theorem zero115 : (CC W).zero 115 = (some [.nilfn]) := _root_.id rfl
theorem kind116 : (CC W).kind 116 = .func := _root_.id rfl
theorem size116 : (CC W).size 116 = some 1 := _root_.id rfl
theorem zero116 : (CC W).zero 116 = (some [.nilfn]) := _root_.id rfl
theorem kind117 : (CC W).kind 117 = .func := _root_.id rfl
theorem size117 : (CC W).size 117 = some 1 := _root_.id rfl
theorem zero117 : (CC W).zero 117 = (some [.nilfn]) := _root_.id rfl
theorem kind118 : (CC W).kind 118 = .ptr 126 := _root_.id rfl
theorem size118 : (CC W).size 118 = some 1 := _root_.id rfl
theorem zero118 : (CC W).zero 118 = (some [.ptr none]) := _root_.id rfl
theorem kind119 : (CC W).kind 119 = .func := _root_.id rfl
theorem size119 : (CC W).size 119 = some 1 := _root_.id rfl
theorem zero119 : (CC W).zero 119 = (some [.nilfn]) := _root_.id rfl
theorem kind120 : (CC W).kind 120 = .func := _root_.id rfl
theorem size120 : (CC W).size 120 = some 1 := _root_.id rfl
theorem zero120 : (CC W).zero 120 = (some [.nilfn]) := _root_.id rfl
theorem kind121 : (CC W).kind 121 = .func := _root_.id rfl
theorem size121 : (CC W).size 121 = some 1 := _root_.id rfl
theorem zero121 : (CC W).zero 121 = (some [.nilfn]) := _root_.id rfl
theorem kind122 : (CC W).kind 122 = .map 128 129 := _root_.id rfl
theorem size122 : (CC W).size 122 = some 1 := _root_.id rfl
theorem zero122 : (CC W).zero 122 = (some [.map none]) := _root_.id rfl
theorem kind123 : (CC W).kind 123 = .slice 128 := _root_.id rfl
theorem size123 : (CC W).size 123 = some 1 := _root_.id rfl
theorem zero123 : (CC W).zero 123 = (some [.sl none 0 0 none]) := _root_.id rfl
theorem kind124 : (CC W).kind 124 = .map 128 3 := _root_.id rfl
theorem size124 : (CC W).size 124 = some 1 := _root_.id rfl
theorem zero124 : (CC W).zero 124 = (some [.map none]) := _root_.id rfl
theorem kind125 : (CC W).kind 125 = .struct [(0, 23), (3, 122), (4, 123), (5, 71), (6, 3), (7, 73), (21, 124)] true := _root_.id rfl
theorem size125 : (CC W).size 125 = some 22 := _root_.id rfl
theorem zero125 : (CC W).zero 125 = (some [.int .i64 0, .int .i64 0, .int .i64 0, .map none, .sl none 0 0 none, .sl none 0 0 none, .int .i64 0, .int .i64 0, .int .i64 0, .int .i64 0, .int .i64 0, .int .i64 0, .int .i64 0, .int .i64 0, .int .i64 0, .int .i64 0, .str [], .str [], .str [], .sl none 0 0 none, .sl none 0 0 none, .map none]) := _root_.id rfl
theorem kind126 : (CC W).kind 126 = .struct [(0, 23), (3, 122), (4, 123), (5, 71), (6, 3), (7, 73), (21, 124)] true := _root_.id rfl
theorem size126 : (CC W).size 126 = some 22 := _root_.id rfl
theorem zero126 : (CC W).zero 126 = (some [.int .i64 0, .int .i64 0, .int .i64 0, .map none, .sl none 0 0 none, .sl none 0 0 none, .int .i64 0, .int .i64 0, .int .i64 0, .int .i64 0, .int .i64 0, .int .i64 0, .int .i64 0, .int .i64 0, .int .i64 0, .int .i64 0, .str [], .str [], .str [], .sl none 0 0 none, .sl none 0 0 none, .map none]) := _root_.id rfl
theorem kind127 : (CC W).kind 127 = .struct [(0, 3), (1, 3)] true := _root_.id rfl
theorem size127 : (CC W).size 127 = some 2 := _root_.id rfl
theorem zero127 : (CC W).zero 127 = (some [.int .i64 0, .int .i64 0]) := _root_.id rfl
theorem kind128 : (CC W).kind 128 = .struct [(0, 3), (1, 3)] true := _root_.id rfl
theorem size128 : (CC W).size 128 = some 2 := _root_.id rfl
theorem zero128 : (CC W).zero 128 = (some [.int .i64 0, .int .i64 0]) := _root_.id rfl
theorem kind129 : (CC W).kind 129 = .ptr 131 := _root_.id rfl
theorem size129 : (CC W).size 129 = some 1 := _root_.id rfl
theorem zero129 : (CC W).zero 129 = (some [.ptr none]) := _root_.id rfl
theorem kind130 : (CC W).kind 130 = .struct [(0, 35), (6, 3), (7, 53), (8, 3)] true := _root_.id rfl
theorem size130 : (CC W).size 130 = some 9 := _root_.id rfl
theorem zero130 : (CC W).zero 130 = (some [.int .i64 0, .int .i64 0, .int .i64 0, .str [], .str [], .str [], .int .i64 0, .sl none 0 0 none, .int .i64 0]) := _root_.id rfl
theorem kind131 : (CC W).kind 131 = .struct [(0, 35), (6, 3), (7, 53), (8, 3)] true := _root_.id rfl
theorem size131 : (CC W).size 131 = some 9 := _root_.id rfl
theorem zero131 : (CC W).zero 131 = (some [.int .i64 0, .int .i64 0, .int .i64 0, .str [], .str [], .str [], .int .i64 0, .sl none 0 0 none, .int .i64 0]) := _root_.id rfl
theorem kind132 : (CC W).kind 132 = .func := _root_.id rfl
theorem size132 : (CC W).size 132 = some 1 := _root_.id rfl
theorem zero132 : (CC W).zero 132 = (some [.nilfn]) := _root_.id rfl
theorem kind133 : (CC W).kind 133 = .tuple := _root_.id rfl
theorem size133 : (CC W).size 133 = some 1 := _root_.id rfl
theorem kind134 : (CC W).kind 134 = .func := _root_.id rfl
theorem size134 : (CC W).size 134 = some 1 := _root_.id rfl
theorem zero134 : (CC W).zero 134 = (some [.nilfn]) := _root_.id rfl
theorem kind135 : (CC W).kind 135 = .func := _root_.id rfl
theorem size135 : (CC W).size 135 = some 1 := _root_.id rfl
theorem zero135 : (CC W).zero 135 = (some [.nilfn]) := _root_.id rfl
theorem kind136 : (CC W).kind 136 = .func := _root_.id rfl
theorem size136 : (CC W).size 136 = some 1 := _root_.id rfl
theorem zero136 : (CC W).zero 136 = (some [.nilfn]) := _root_.id rfl
theorem kind137 : (CC W).kind 137 = .func := _root_.id rfl
theorem size137 : (CC W).size 137 = some 1 := _root_.id rfl
theorem zero137 : (CC W).zero 137 = (some [.nilfn]) := _root_.id rfl
theorem kind138 : (CC W).kind 138 = .tuple := _root_.id rfl
theorem size138 : (CC W).size 138 = some 1 := _root_.id rfl
theorem kind139 : (CC W).kind 139 = .func := _root_.id rfl
theorem size139 : (CC W).size 139 = some 1 := _root_.id rfl
theorem zero139 : (CC W).zero 139 = (some [.nilfn]) := _root_.id rfl
theorem kind140 : (CC W).kind 140 = .func := _root_.id rfl
theorem size140 : (CC W).size 140 = some 1 := _root_.id rfl
theorem zero140 : (CC W).zero 140 = (some [.nilfn]) := _root_.id rfl
theorem kind141 : (CC W).kind 141 = .tuple := _root_.id rfl
theorem size141 : (CC W).size 141 = some 1 := _root_.id rfl
theorem kind142 : (CC W).kind 142 = .func := _root_.id rfl
theorem size142 : (CC W).size 142 = some 1 := _root_.id rfl
theorem zero142 : (CC W).zero 142 = (some [.nilfn]) := _root_.id rfl
theorem kind143 : (CC W).kind 143 = .func := _root_.id rfl
theorem size143 : (CC W).size 143 = some 1 := _root_.id rfl
theorem zero143 : (CC W).zero 143 = (some [.nilfn]) := _root_.id rfl
theorem kind144 : (CC W).kind 144 = .ptr 146 := _root_.id rfl
theorem size144 : (CC W).size 144 = some 1 := _root_.id rfl
theorem zero144 : (CC W).zero 144 = (some [.ptr none]) := _root_.id rfl
theorem kind145 : (CC W).kind 145 = .struct [(0, 144), (1, 51)] true := _root_.id rfl
theorem size145 : (CC W).size 145 = some 2 := _root_.id rfl
theorem zero145 : (CC W).zero 145 = (some [.ptr none, .sl none 0 0 none]) := _root_.id rfl
theorem kind146 : (CC W).kind 146 = .struct [(0, 144), (1, 51)] true := _root_.id rfl
theorem size146 : (CC W).size 146 = some 2 := _root_.id rfl
theorem zero146 : (CC W).zero 146 = (some [.ptr none, .sl none 0 0 none]) := _root_.id rfl
theorem kind147 : (CC W).kind 147 = .iface false := _root_.id rfl
theorem size147 : (CC W).size 147 = some 1 := _root_.id rfl
theorem zero147 : (CC W).zero 147 = (some [.nilifc]) := _root_.id rfl
theorem kind148 : (CC W).kind 148 = .iface false := _root_.id rfl
theorem size148 : (CC W).size 148 = some 1 := _root_.id rfl
theorem zero148 : (CC W).zero 148 = (some [.nilifc]) := _root_.id rfl
theorem kind149 : (CC W).kind 149 = .func := _root_.id rfl
theorem size149 : (CC W).size 149 = some 1 := _root_.id rfl
theorem zero149 : (CC W).zero 149 = (some [.nilfn]) := _root_.id rfl
theorem kind150 : (CC W).kind 150 = .func := _root_.id rfl
theorem size150 : (CC W).size 150 = some 1 := _root_.id rfl
theorem zero150 : (CC W).zero 150 = (some [.nilfn]) := _root_.id rfl
theorem kind151 : (CC W).kind 151 = .tuple := _root_.id rfl
theorem size151 : (CC W).size 151 = some 1 := _root_.id rfl
theorem kind152 : (CC W).kind 152 = .func := _root_.id rfl
theorem size152 : (CC W).size 152 = some 1 := _root_.id rfl
theorem zero152 : (CC W).zero 152 = (some [.nilfn]) := _root_.id rfl
theorem kind153 : (CC W).kind 153 = .func := _root_.id rfl
theorem size153 : (CC W).size 153 = some 1 := _root_.id rfl
theorem zero153 : (CC W).zero 153 = (some [.nilfn]) := _root_.id rfl
theorem kind154 : (CC W).kind 154 = .func := _root_.id rfl
theorem size154 : (CC W).size 154 = some 1 := _root_.id rfl
theorem zero154 : (CC W).zero 154 = (some [.nilfn]) := _root_.id rfl
theorem kind155 : (CC W).kind 155 = .tuple := _root_.id rfl
theorem size155 : (CC W).size 155 = some 1 := _root_.id rfl
theorem kind156 : (CC W).kind 156 = .func := _root_.id rfl
theorem size156 : (CC W).size 156 = some 1 := _root_.id rfl
theorem zero156 : (CC W).zero 156 = (some [.nilfn]) := _root_.id rfl
theorem kind157 : (CC W).kind 157 = .func := _root_.id rfl
theorem size157 : (CC W).size 157 = some 1 := _root_.id rfl
theorem zero157 : (CC W).zero 157 = (some [.nilfn]) := _root_.id rfl
theorem kind158 : (CC W).kind 158 = .struct [(0, 9), (1, 3)] true := _root_.id rfl
theorem size158 : (CC W).size 158 = some 2 := _root_.id rfl
theorem zero158 : (CC W).zero 158 = (some [.str [], .int .i64 0]) := _root_.id rfl
theorem kind159 : (CC W).kind 159 = .struct [(0, 9), (1, 3)] true := _root_.id rfl
theorem size159 : (CC W).size 159 = some 2 := _root_.id rfl
theorem zero159 : (CC W).zero 159 = (some [.str [], .int .i64 0]) := _root_.id rfl
theorem kind160 : (CC W).kind 160 = .func := _root_.id rfl
theorem size160 : (CC W).size 160 = some 1 := _root_.id rfl
theorem zero160 : (CC W).zero 160 = (some [.nilfn]) := _root_.id rfl
theorem kind161 : (CC W).kind 161 = .func := _root_.id rfl
theorem size161 : (CC W).size 161 = some 1 := _root_.id rfl
theorem zero161 : (CC W).zero 161 = (some [.nilfn]) := _root_.id rfl
theorem kind162 : (CC W).kind 162 = .func := _root_.id rfl
theorem size162 : (CC W).size 162 = some 1 := _root_.id rfl
theorem zero162 : (CC W).zero 162 = (some [.nilfn]) := _root_.id rfl
theorem kind163 : (CC W).kind 163 = .func := _root_.id rfl
theorem size163 : (CC W).size 163 = some 1 := _root_.id rfl
theorem zero163 : (CC W).zero 163 = (some [.nilfn]) := _root_.id rfl
theorem kind164 : (CC W).kind 164 = .func := _root_.id rfl
theorem size164 : (CC W).size 164 = some 1 := _root_.id rfl
theorem zero164 : (CC W).zero 164 = (some [.nilfn]) := _root_.id rfl
theorem kind165 : (CC W).kind 165 = .tuple := _root_.id rfl
theorem size165 : (CC W).size 165 = some 1 := _root_.id rfl
theorem kind166 : (CC W).kind 166 = .func := _root_.id rfl
theorem size166 : (CC W).size 166 = some 1 := _root_.id rfl
theorem zero166 : (CC W).zero 166 = (some [.nilfn]) := _root_.id rfl
theorem kind167 : (CC W).kind 167 = .func := _root_.id rfl
theorem size167 : (CC W).size 167 = some 1 := _root_.id rfl
theorem zero167 : (CC W).zero 167 = (some [.nilfn]) := _root_.id rfl
theorem kind168 : (CC W).kind 168 = .func := _root_.id rfl
theorem size168 : (CC W).size 168 = some 1 := _root_.id rfl
theorem zero168 : (CC W).zero 168 = (some [.nilfn]) := _root_.id rfl
theorem kind169 : (CC W).kind 169 = .func := _root_.id rfl
theorem size169 : (CC W).size 169 = some 1 := _root_.id rfl
theorem zero169 : (CC W).zero 169 = (some [.nilfn]) := _root_.id rfl
theorem kind170 : (CC W).kind 170 = .func := _root_.id rfl
theorem size170 : (CC W).size 170 = some 1 := _root_.id rfl
theorem zero170 : (CC W).zero 170 = (some [.nilfn]) := _root_.id rfl
theorem kind171 : (CC W).kind 171 = .func := _root_.id rfl
theorem size171 : (CC W).size 171 = some 1 := _root_.id rfl
theorem zero171 : (CC W).zero 171 = (some [.nilfn]) := _root_.id rfl
theorem kind172 : (CC W).kind 172 = .func := _root_.id rfl
theorem size172 : (CC W).size 172 = some 1 := _root_.id rfl
theorem zero172 : (CC W).zero 172 = (some [.nilfn]) := _root_.id rfl
theorem kind173 : (CC W).kind 173 = .tuple := _root_.id rfl
theorem size173 : (CC W).size 173 = some 1 := _root_.id rfl
theorem kind174 : (CC W).kind 174 = .func := _root_.id rfl
theorem size174 : (CC W).size 174 = some 1 := _root_.id rfl
theorem zero174 : (CC W).zero 174 = (some [.nilfn]) := _root_.id rfl
theorem kind175 : (CC W).kind 175 = .func := _root_.id rfl
theorem size175 : (CC W).size 175 = some 1 := _root_.id rfl
theorem zero175 : (CC W).zero 175 = (some [.nilfn]) := _root_.id rfl
theorem kind176 : (CC W).kind 176 = .func := _root_.id rfl
theorem size176 : (CC W).size 176 = some 1 := _root_.id rfl
theorem zero176 : (CC W).zero 176 = (some [.nilfn]) := _root_.id rfl
theorem kind177 : (CC W).kind 177 = .struct [(0, 3), (1, 33)] true := _root_.id rfl
theorem size177 : (CC W).size 177 = some 2 := _root_.id rfl
theorem zero177 : (CC W).zero 177 = (some [.int .i64 0, .nilfn]) := _root_.id rfl
theorem kind178 : (CC W).kind 178 = .struct [(0, 3), (1, 33)] true := _root_.id rfl
theorem size178 : (CC W).size 178 = some 2 := _root_.id rfl
theorem zero178 : (CC W).zero 178 = (some [.int .i64 0, .nilfn]) := _root_.id rfl
theorem kind179 : (CC W).kind 179 = .slice 178 := _root_.id rfl
theorem size179 : (CC W).size 179 = some 1 := _root_.id rfl
theorem zero179 : (CC W).zero 179 = (some [.sl none 0 0 none]) := _root_.id rfl
theorem kind180 : (CC W).kind 180 = .func := _root_.id rfl
theorem size180 : (CC W).size 180 = some 1 := _root_.id rfl
theorem zero180 : (CC W).zero 180 = (some [.nilfn]) := _root_.id rfl
theorem kind181 : (CC W).kind 181 = .ptr 5 := _root_.id rfl
theorem size181 : (CC W).size 181 = some 1 := _root_.id rfl
theorem zero181 : (CC W).zero 181 = (some [.ptr none]) := _root_.id rfl
theorem kind182 : (CC W).kind 182 = .func := _root_.id rfl
theorem size182 : (CC W).size 182 = some 1 := _root_.id rfl
theorem zero182 : (CC W).zero 182 = (some [.nilfn]) := _root_.id rfl
theorem kind183 : (CC W).kind 183 = .func := _root_.id rfl
theorem size183 : (CC W).size 183 = some 1 := _root_.id rfl
theorem zero183 : (CC W).zero 183 = (some [.nilfn]) := _root_.id rfl
theorem kind184 : (CC W).kind 184 = .func := _root_.id rfl
theorem size184 : (CC W).size 184 = some 1 := _root_.id rfl
theorem zero184 : (CC W).zero 184 = (some [.nilfn]) := _root_.id rfl
theorem kind185 : (CC W).kind 185 = .func := _root_.id rfl
theorem size185 : (CC W).size 185 = some 1 := _root_.id rfl
theorem zero185 : (CC W).zero 185 = (some [.nilfn]) := _root_.id rfl
theorem kind186 : (CC W).kind 186 = .func := _root_.id rfl
theorem size186 : (CC W).size 186 = some 1 := _root_.id rfl
theorem zero186 : (CC W).zero 186 = (some [.nilfn]) := _root_.id rfl
theorem kind187 : (CC W).kind 187 = .func := _root_.id rfl
theorem size187 : (CC W).size 187 = some 1 := _root_.id rfl
theorem zero187 : (CC W).zero 187 = (some [.nilfn]) := _root_.id rfl
theorem kind188 : (CC W).kind 188 = .func := _root_.id rfl
theorem size188 : (CC W).size 188 = some 1 := _root_.id rfl
theorem zero188 : (CC W).zero 188 = (some [.nilfn]) := _root_.id rfl
theorem kind189 : (CC W).kind 189 = .func := _root_.id rfl
theorem size189 : (CC W).size 189 = some 1 := _root_.id rfl
theorem zero189 : (CC W).zero 189 = (some [.nilfn]) := _root_.id rfl
theorem kind190 : (CC W).kind 190 = .func := _root_.id rfl
theorem size190 : (CC W).size 190 = some 1 := _root_.id rfl
theorem zero190 : (CC W).zero 190 = (some [.nilfn]) := _root_.id rfl
theorem kind191 : (CC W).kind 191 = .func := _root_.id rfl
theorem size191 : (CC W).size 191 = some 1 := _root_.id rfl
theorem zero191 : (CC W).zero 191 = (some [.nilfn]) := _root_.id rfl
theorem kind192 : (CC W).kind 192 = .func := _root_.id rfl
theorem size192 : (CC W).size 192 = some 1 := _root_.id rfl
theorem zero192 : (CC W).zero 192 = (some [.nilfn]) := _root_.id rfl
theorem kind193 : (CC W).kind 193 = .map 196 4 := _root_.id rfl
theorem size193 : (CC W).size 193 = some 1 := _root_.id rfl
theorem zero193 : (CC W).zero 193 = (some [.map none]) := _root_.id rfl
theorem kind194 : (CC W).kind 194 = .tuple := _root_.id rfl
theorem size194 : (CC W).size 194 = some 1 := _root_.id rfl
theorem kind195 : (CC W).kind 195 = .func := _root_.id rfl
theorem size195 : (CC W).size 195 = some 1 := _root_.id rfl
theorem zero195 : (CC W).zero 195 = (some [.nilfn]) := _root_.id rfl
theorem kind196 : (CC W).kind 196 = .array 2 3 := _root_.id rfl
theorem size196 : (CC W).size 196 = some 2 := _root_.id rfl
theorem zero196 : (CC W).zero 196 = (some [.int .i64 0, .int .i64 0]) := _root_.id rfl
theorem kind197 : (CC W).kind 197 = .func := _root_.id rfl
theorem size197 : (CC W).size 197 = some 1 := _root_.id rfl
theorem zero197 : (CC W).zero 197 = (some [.nilfn]) := _root_.id rfl
theorem kind198 : (CC W).kind 198 = .func := _root_.id rfl
theorem size198 : (CC W).size 198 = some 1 := _root_.id rfl
theorem zero198 : (CC W).zero 198 = (some [.nilfn]) := _root_.id rfl
theorem kind199 : (CC W).kind 199 = .func := _root_.id rfl
theorem size199 : (CC W).size 199 = some 1 := _root_.id rfl
theorem zero199 : (CC W).zero 199 = (some [.nilfn]) := _root_.id rfl
theorem kind200 : (CC W).kind 200 = .func := _root_.id rfl
theorem size200 : (CC W).size 200 = some 1 := _root_.id rfl
theorem zero200 : (CC W).zero 200 = (some [.nilfn]) := _root_.id rfl
theorem kind201 : (CC W).kind 201 = .func := _root_.id rfl
theorem size201 : (CC W).size 201 = some 1 := _root_.id rfl
theorem zero201 : (CC W).zero 201 = (some [.nilfn]) := _root_.id rfl
theorem kind202 : (CC W).kind 202 = .tuple := _root_.id rfl
theorem size202 : (CC W).size 202 = some 1 := _root_.id rfl
theorem kind203 : (CC W).kind 203 = .func := _root_.id rfl
theorem size203 : (CC W).size 203 = some 1 := _root_.id rfl
theorem zero203 : (CC W).zero 203 = (some [.nilfn]) := _root_.id rfl
theorem kind204 : (CC W).kind 204 = .map 3 3 := _root_.id rfl
theorem size204 : (CC W).size 204 = some 1 := _root_.id rfl
theorem zero204 : (CC W).zero 204 = (some [.map none]) := _root_.id rfl
theorem kind205 : (CC W).kind 205 = .tuple := _root_.id rfl
theorem size205 : (CC W).size 205 = some 1 := _root_.id rfl
theorem kind206 : (CC W).kind 206 = .func := _root_.id rfl
theorem size206 : (CC W).size 206 = some 1 := _root_.id rfl
theorem zero206 : (CC W).zero 206 = (some [.nilfn]) := _root_.id rfl
theorem kind207 : (CC W).kind 207 = .func := _root_.id rfl
theorem size207 : (CC W).size 207 = some 1 := _root_.id rfl
theorem zero207 : (CC W).zero 207 = (some [.nilfn]) := _root_.id rfl
theorem kind208 : (CC W).kind 208 = .func := _root_.id rfl
theorem size208 : (CC W).size 208 = some 1 := _root_.id rfl
theorem zero208 : (CC W).zero 208 = (some [.nilfn]) := _root_.id rfl
theorem kind209 : (CC W).kind 209 = .func := _root_.id rfl
theorem size209 : (CC W).size 209 = some 1 := _root_.id rfl
theorem zero209 : (CC W).zero 209 = (some [.nilfn]) := _root_.id rfl
theorem kind210 : (CC W).kind 210 = .slice 39 := _root_.id rfl
theorem size210 : (CC W).size 210 = some 1 := _root_.id rfl
theorem zero210 : (CC W).zero 210 = (some [.sl none 0 0 none]) := _root_.id rfl
theorem kind211 : (CC W).kind 211 = .uptr := _root_.id rfl
theorem size211 : (CC W).size 211 = some 1 := _root_.id rfl
theorem zero211 : (CC W).zero 211 = (some [.ptr none]) := _root_.id rfl
theorem kind212 : (CC W).kind 212 = .func := _root_.id rfl
theorem size212 : (CC W).size 212 = some 1 := _root_.id rfl
theorem zero212 : (CC W).zero 212 = (some [.nilfn]) := _root_.id rfl
theorem kind213 : (CC W).kind 213 = .func := _root_.id rfl
theorem size213 : (CC W).size 213 = some 1 := _root_.id rfl
theorem zero213 : (CC W).zero 213 = (some [.nilfn]) := _root_.id rfl
theorem kind214 : (CC W).kind 214 = .func := _root_.id rfl
theorem size214 : (CC W).size 214 = some 1 := _root_.id rfl
theorem zero214 : (CC W).zero 214 = (some [.nilfn]) := _root_.id rfl
theorem kind215 : (CC W).kind 215 = .int .u64 := _root_.id rfl
theorem size215 : (CC W).size 215 = some 1 := _root_.id rfl
theorem zero215 : (CC W).zero 215 = (some [.int .u64 0]) := _root_.id rfl
theorem kind216 : (CC W).kind 216 = .slice 26 := _root_.id rfl
theorem size216 : (CC W).size 216 = some 1 := _root_.id rfl
theorem zero216 : (CC W).zero 216 = (some [.sl none 0 0 none]) := _root_.id rfl
theorem kind217 : (CC W).kind 217 = .func := _root_.id rfl
theorem size217 : (CC W).size 217 = some 1 := _root_.id rfl
theorem zero217 : (CC W).zero 217 = (some [.nilfn]) := _root_.id rfl
theorem kind218 : (CC W).kind 218 = .func := _root_.id rfl
theorem size218 : (CC W).size 218 = some 1 := _root_.id rfl
theorem zero218 : (CC W).zero 218 = (some [.nilfn]) := _root_.id rfl
theorem kind219 : (CC W).kind 219 = .func := _root_.id rfl
theorem size219 : (CC W).size 219 = some 1 := _root_.id rfl
theorem zero219 : (CC W).zero 219 = (some [.nilfn]) := _root_.id rfl
theorem kind220 : (CC W).kind 220 = .func := _root_.id rfl
theorem size220 : (CC W).size 220 = some 1 := _root_.id rfl
theorem zero220 : (CC W).zero 220 = (some [.nilfn]) := _root_.id rfl
theorem kind221 : (CC W).kind 221 = .func := _root_.id rfl
theorem size221 : (CC W).size 221 = some 1 := _root_.id rfl
theorem zero221 : (CC W).zero 221 = (some [.nilfn]) := _root_.id rfl
theorem kind222 : (CC W).kind 222 = .func := _root_.id rfl
theorem size222 : (CC W).size 222 = some 1 := _root_.id rfl
theorem zero222 : (CC W).zero 222 = (some [.nilfn]) := _root_.id rfl
theorem kind223 : (CC W).kind 223 = .func := _root_.id rfl
theorem size223 : (CC W).size 223 = some 1 := _root_.id rfl
theorem zero223 : (CC W).zero 223 = (some [.nilfn]) := _root_.id rfl
theorem kind224 : (CC W).kind 224 = .ptr 248 := _root_.id rfl
theorem size224 : (CC W).size 224 = some 1 := _root_.id rfl
theorem zero224 : (CC W).zero 224 = (some [.ptr none]) := _root_.id rfl
theorem kind225 : (CC W).kind 225 = .func := _root_.id rfl
theorem size225 : (CC W).size 225 = some 1 := _root_.id rfl
theorem zero225 : (CC W).zero 225 = (some [.nilfn]) := _root_.id rfl
theorem kind226 : (CC W).kind 226 = .func := _root_.id rfl
theorem size226 : (CC W).size 226 = some 1 := _root_.id rfl
theorem zero226 : (CC W).zero 226 = (some [.nilfn]) := _root_.id rfl
theorem kind227 : (CC W).kind 227 = .func := _root_.id rfl
theorem size227 : (CC W).size 227 = some 1 := _root_.id rfl
theorem zero227 : (CC W).zero 227 = (some [.nilfn]) := _root_.id rfl
theorem kind228 : (CC W).kind 228 = .func := _root_.id rfl
theorem size228 : (CC W).size 228 = some 1 := _root_.id rfl
theorem zero228 : (CC W).zero 228 = (some [.nilfn]) := _root_.id rfl
theorem kind229 : (CC W).kind 229 = .int .i64 := _root_.id rfl
theorem size229 : (CC W).size 229 = some 1 := _root_.id rfl
theorem zero229 : (CC W).zero 229 = (some [.int .i64 0]) := _root_.id rfl
theorem kind230 : (CC W).kind 230 = .tuple := _root_.id rfl
theorem size230 : (CC W).size 230 = some 1 := _root_.id rfl
theorem kind231 : (CC W).kind 231 = .func := _root_.id rfl
theorem size231 : (CC W).size 231 = some 1 := _root_.id rfl
theorem zero231 : (CC W).zero 231 = (some [.nilfn]) := _root_.id rfl
theorem kind232 : (CC W).kind 232 = .func := _root_.id rfl
theorem size232 : (CC W).size 232 = some 1 := _root_.id rfl
theorem zero232 : (CC W).zero 232 = (some [.nilfn]) := _root_.id rfl
theorem kind233 : (CC W).kind 233 = .func := _root_.id rfl
theorem size233 : (CC W).size 233 = some 1 := _root_.id rfl
theorem zero233 : (CC W).zero 233 = (some [.nilfn]) := _root_.id rfl
theorem kind234 : (CC W).kind 234 = .tuple := _root_.id rfl
theorem size234 : (CC W).size 234 = some 1 := _root_.id rfl
theorem kind235 : (CC W).kind 235 = .func := _root_.id rfl
theorem size235 : (CC W).size 235 = some 1 := _root_.id rfl
theorem zero235 : (CC W).zero 235 = (some [.nilfn]) := _root_.id rfl
theorem kind236 : (CC W).kind 236 = .func := _root_.id rfl
theorem size236 : (CC W).size 236 = some 1 := _root_.id rfl
theorem zero236 : (CC W).zero 236 = (some [.nilfn]) := _root_.id rfl
theorem kind237 : (CC W).kind 237 = .int .u32 := _root_.id rfl
theorem size237 : (CC W).size 237 = some 1 := _root_.id rfl
theorem zero237 : (CC W).zero 237 = (some [.int .u32 0]) := _root_.id rfl
theorem kind238 : (CC W).kind 238 = .func := _root_.id rfl
theorem size238 : (CC W).size 238 = some 1 := _root_.id rfl
theorem zero238 : (CC W).zero 238 = (some [.nilfn]) := _root_.id rfl
theorem kind239 : (CC W).kind 239 = .int .u64 := _root_.id rfl
theorem size239 : (CC W).size 239 = some 1 := _root_.id rfl
theorem zero239 : (CC W).zero 239 = (some [.int .u64 0]) := _root_.id rfl
theorem kind240 : (CC W).kind 240 = .tuple := _root_.id rfl
theorem size240 : (CC W).size 240 = some 1 := _root_.id rfl
theorem kind241 : (CC W).kind 241 = .func := _root_.id rfl
theorem size241 : (CC W).size 241 = some 1 := _root_.id rfl
theorem zero241 : (CC W).zero 241 = (some [.nilfn]) := _root_.id rfl
theorem kind242 : (CC W).kind 242 = .func := _root_.id rfl
theorem size242 : (CC W).size 242 = some 1 := _root_.id rfl
theorem zero242 : (CC W).zero 242 = (some [.nilfn]) := _root_.id rfl
theorem kind243 : (CC W).kind 243 = .func := _root_.id rfl
theorem size243 : (CC W).size 243 = some 1 := _root_.id rfl
theorem zero243 : (CC W).zero 243 = (some [.nilfn]) := _root_.id rfl
theorem kind244 : (CC W).kind 244 = .func := _root_.id rfl
theorem size244 : (CC W).size 244 = some 1 := _root_.id rfl
theorem zero244 : (CC W).zero 244 = (some [.nilfn]) := _root_.id rfl
theorem kind245 : (CC W).kind 245 = .func := _root_.id rfl
theorem size245 : (CC W).size 245 = some 1 := _root_.id rfl
theorem zero245 : (CC W).zero 245 = (some [.nilfn]) := _root_.id rfl
theorem kind246 : (CC W).kind 246 = .func := _root_.id rfl
theorem size246 : (CC W).size 246 = some 1 := _root_.id rfl
theorem zero246 : (CC W).zero 246 = (some [.nilfn]) := _root_.id rfl
theorem kind247 : (CC W).kind 247 = .struct [(0, 51)] true := _root_.id rfl
theorem size247 : (CC W).size 247 = some 1 := _root_.id rfl
theorem zero247 : (CC W).zero 247 = (some [.sl none 0 0 none]) := _root_.id rfl
theorem kind248 : (CC W).kind 248 = .struct [(0, 51)] true := _root_.id rfl
theorem size248 : (CC W).size 248 = some 1 := _root_.id rfl
theorem zero248 : (CC W).zero 248 = (some [.sl none 0 0 none]) := _root_.id rfl
theorem kind249 : (CC W).kind 249 = .func := _root_.id rfl
theorem size249 : (CC W).size 249 = some 1 := _root_.id rfl
theorem zero249 : (CC W).zero 249 = (some [.nilfn]) := _root_.id rfl
theorem kind250 : (CC W).kind 250 = .int .u64 := _root_.id rfl
theorem size250 : (CC W).size 250 = some 1 := _root_.id rfl
theorem zero250 : (CC W).zero 250 = (some [.int .u64 0]) := _root_.id rfl
theorem kind251 : (CC W).kind 251 = .func := _root_.id rfl
theorem size251 : (CC W).size 251 = some 1 := _root_.id rfl
theorem zero251 : (CC W).zero 251 = (some [.nilfn]) := _root_.id rfl
theorem kind252 : (CC W).kind 252 = .func := _root_.id rfl
theorem size252 : (CC W).size 252 = some 1 := _root_.id rfl
theorem zero252 : (CC W).zero 252 = (some [.nilfn]) := _root_.id rfl
theorem kind253 : (CC W).kind 253 = .func := _root_.id rfl
theorem size253 : (CC W).size 253 = some 1 := _root_.id rfl
theorem zero253 : (CC W).zero 253 = (some [.nilfn]) := _root_.id rfl
theorem kind254 : (CC W).kind 254 = .ptr 3 := _root_.id rfl
theorem size254 : (CC W).size 254 = some 1 := _root_.id rfl
theorem zero254 : (CC W).zero 254 = (some [.ptr none]) := _root_.id rfl
theorem kind255 : (CC W).kind 255 = .func := _root_.id rfl
theorem size255 : (CC W).size 255 = some 1 := _root_.id rfl
theorem zero255 : (CC W).zero 255 = (some [.nilfn]) := _root_.id rfl
theorem kind256 : (CC W).kind 256 = .func := _root_.id rfl
theorem size256 : (CC W).size 256 = some 1 := _root_.id rfl
theorem zero256 : (CC W).zero 256 = (some [.nilfn]) := _root_.id rfl
theorem kind257 : (CC W).kind 257 = .func := _root_.id rfl
theorem size257 : (CC W).size 257 = some 1 := _root_.id rfl
theorem zero257 : (CC W).zero 257 = (some [.nilfn]) := _root_.id rfl
theorem kind258 : (CC W).kind 258 = .func := _root_.id rfl
theorem size258 : (CC W).size 258 = some 1 := _root_.id rfl
theorem zero258 : (CC W).zero 258 = (some [.nilfn]) := _root_.id rfl
theorem kind259 : (CC W).kind 259 = .func := _root_.id rfl
theorem size259 : (CC W).size 259 = some 1 := _root_.id rfl
theorem zero259 : (CC W).zero 259 = (some [.nilfn]) := _root_.id rfl
theorem kind260 : (CC W).kind 260 = .func := _root_.id rfl
theorem size260 : (CC W).size 260 = some 1 := _root_.id rfl
theorem zero260 : (CC W).zero 260 = (some [.nilfn]) := _root_.id rfl
theorem kind261 : (CC W).kind 261 = .func := _root_.id rfl
theorem size261 : (CC W).size 261 = some 1 := _root_.id rfl
theorem zero261 : (CC W).zero 261 = (some [.nilfn]) := _root_.id rfl
theorem kind262 : (CC W).kind 262 = .func := _root_.id rfl
theorem size262 : (CC W).size 262 = some 1 := _root_.id rfl
theorem zero262 : (CC W).zero 262 = (some [.nilfn]) := _root_.id rfl
theorem kind263 : (CC W).kind 263 = .ptr 250 := _root_.id rfl
theorem size263 : (CC W).size 263 = some 1 := _root_.id rfl
theorem zero263 : (CC W).zero 263 = (some [.ptr none]) := _root_.id rfl
theorem kind264 : (CC W).kind 264 = .func := _root_.id rfl
theorem size264 : (CC W).size 264 = some 1 := _root_.id rfl
theorem zero264 : (CC W).zero 264 = (some [.nilfn]) := _root_.id rfl
theorem kind265 : (CC W).kind 265 = .array 256 5 := _root_.id rfl
theorem size265 : (CC W).size 265 = some 256 := _root_.id rfl
theorem kind266 : (CC W).kind 266 = .struct [(0, 5), (1, 5)] true := _root_.id rfl
theorem size266 : (CC W).size 266 = some 2 := _root_.id rfl
theorem zero266 : (CC W).zero 266 = (some [.int .u8 0, .int .u8 0]) := _root_.id rfl
theorem kind267 : (CC W).kind 267 = .struct [(0, 5), (1, 5)] true := _root_.id rfl
theorem size267 : (CC W).size 267 = some 2 := _root_.id rfl
theorem zero267 : (CC W).zero 267 = (some [.int .u8 0, .int .u8 0]) := _root_.id rfl
theorem kind268 : (CC W).kind 268 = .array 16 267 := _root_.id rfl
theorem size268 : (CC W).size 268 = some 32 := _root_.id rfl
theorem kind269 : (CC W).kind 269 = .tuple := _root_.id rfl
theorem size269 : (CC W).size 269 = some 1 := _root_.id rfl
theorem kind270 : (CC W).kind 270 = .func := _root_.id rfl
theorem size270 : (CC W).size 270 = some 1 := _root_.id rfl
theorem zero270 : (CC W).zero 270 = (some [.nilfn]) := _root_.id rfl
theorem kind271 : (CC W).kind 271 = .func := _root_.id rfl
theorem size271 : (CC W).size 271 = some 1 := _root_.id rfl
theorem zero271 : (CC W).zero 271 = (some [.nilfn]) := _root_.id rfl
theorem kind272 : (CC W).kind 272 = .func := _root_.id rfl
theorem size272 : (CC W).size 272 = some 1 := _root_.id rfl
theorem zero272 : (CC W).zero 272 = (some [.nilfn]) := _root_.id rfl
theorem kind273 : (CC W).kind 273 = .func := _root_.id rfl
theorem size273 : (CC W).size 273 = some 1 := _root_.id rfl
theorem zero273 : (CC W).zero 273 = (some [.nilfn]) := _root_.id rfl
theorem kind274 : (CC W).kind 274 = .struct [(0, 17), (1, 17), (2, 17), (3, 9)] false := _root_.id rfl
theorem size274 : (CC W).size 274 = some 4 := _root_.id rfl
theorem zero274 : (CC W).zero 274 = (some [.ptr none, .ptr none, .ptr none, .str []]) := _root_.id rfl
theorem kind275 : (CC W).kind 275 = .struct [(0, 17), (1, 17), (2, 17), (3, 9)] false := _root_.id rfl
theorem size275 : (CC W).size 275 = some 4 := _root_.id rfl
theorem zero275 : (CC W).zero 275 = (some [.ptr none, .ptr none, .ptr none, .str []]) := _root_.id rfl
theorem kind276 : (CC W).kind 276 = .array 0 16 := _root_.id rfl
theorem size276 : (CC W).size 276 = some 0 := _root_.id rfl
theorem zero276 : (CC W).zero 276 = (some []) := _root_.id rfl
theorem kind277 : (CC W).kind 277 = .struct [(0, 276)] false := _root_.id rfl
theorem size277 : (CC W).size 277 = some 0 := _root_.id rfl
theorem zero277 : (CC W).zero 277 = (some []) := _root_.id rfl
theorem kind278 : (CC W).kind 278 = .struct [(0, 276)] false := _root_.id rfl
theorem size278 : (CC W).size 278 = some 0 := _root_.id rfl
theorem zero278 : (CC W).zero 278 = (some []) := _root_.id rfl
theorem kind279 : (CC W).kind 279 = .int .u8 := _root_.id rfl
theorem size279 : (CC W).size 279 = some 1 := _root_.id rfl
theorem zero279 : (CC W).zero 279 = (some [.int .u8 0]) := _root_.id rfl
theorem kind280 : (CC W).kind 280 = .int .u8 := _root_.id rfl
theorem size280 : (CC W).size 280 = some 1 := _root_.id rfl
theorem zero280 : (CC W).zero 280 = (some [.int .u8 0]) := _root_.id rfl
theorem kind281 : (CC W).kind 281 = .func := _root_.id rfl
theorem size281 : (CC W).size 281 = some 1 := _root_.id rfl
theorem zero281 : (CC W).zero 281 = (some [.nilfn]) := _root_.id rfl
theorem kind282 : (CC W).kind 282 = .int .i32 := _root_.id rfl
theorem size282 : (CC W).size 282 = some 1 := _root_.id rfl
theorem zero282 : (CC W).zero 282 = (some [.int .i32 0]) := _root_.id rfl
theorem kind283 : (CC W).kind 283 = .int .i32 := _root_.id rfl
theorem size283 : (CC W).size 283 = some 1 := _root_.id rfl
theorem zero283 : (CC W).zero 283 = (some [.int .i32 0]) := _root_.id rfl
theorem kind284 : (CC W).kind 284 = .struct [(0, 12), (1, 12), (2, 237), (3, 279), (4, 5), (5, 5), (6, 280), (7, 281), (8, 181), (9, 282), (10, 283)] false := _root_.id rfl
theorem size284 : (CC W).size 284 = some 11 := _root_.id rfl
theorem zero284 : (CC W).zero 284 = (some [.int .u64 0, .int .u64 0, .int .u32 0, .int .u8 0, .int .u8 0, .int .u8 0, .int .u8 0, .nilfn, .ptr none, .int .i32 0, .int .i32 0]) := _root_.id rfl
theorem kind285 : (CC W).kind 285 = .struct [(0, 12), (1, 12), (2, 237), (3, 279), (4, 5), (5, 5), (6, 280), (7, 281), (8, 181), (9, 282), (10, 283)] false := _root_.id rfl
theorem size285 : (CC W).size 285 = some 11 := _root_.id rfl
theorem zero285 : (CC W).zero 285 = (some [.int .u64 0, .int .u64 0, .int .u32 0, .int .u8 0, .int .u8 0, .int .u8 0, .int .u8 0, .nilfn, .ptr none, .int .i32 0, .int .i32 0]) := _root_.id rfl
theorem fn2 : (CC W).fn 2 = some Tryz.f2 := _root_.id rfl
theorem fn3 : (CC W).fn 3 = some Tryz.f3 := _root_.id rfl
theorem fn4 : (CC W).fn 4 = some Tryz.f4 := _root_.id rfl
theorem fn5 : (CC W).fn 5 = some Tryz.f5 := _root_.id rfl
theorem fn6 : (CC W).fn 6 = some Tryz.f6 := _root_.id rfl
theorem fn7 : (CC W).fn 7 = some Tryz.f7 := _root_.id rfl
theorem fn8 : (CC W).fn 8 = some Tryz.f8 := _root_.id rfl
theorem fn9 : (CC W).fn 9 = some Tryz.f9 := _root_.id rfl
theorem fn10 : (CC W).fn 10 = some Tryz.f10 := _root_.id rfl
theorem fn11 : (CC W).fn 11 = some Tryz.f11 := _root_.id rfl
theorem fn12 : (CC W).fn 12 = some Tryz.f12 := _root_.id rfl
theorem fn13 : (CC W).fn 13 = some Tryz.f13 := _root_.id rfl
theorem fn14 : (CC W).fn 14 = some Tryz.f14 := _root_.id rfl
theorem fn15 : (CC W).fn 15 = some Tryz.f15 := _root_.id rfl
theorem fn16 : (CC W).fn 16 = some Tryz.f16 := _root_.id rfl
theorem fn17 : (CC W).fn 17 = some Tryz.f17 := _root_.id rfl
theorem fn18 : (CC W).fn 18 = some Tryz.f18 := _root_.id rfl
theorem fn19 : (CC W).fn 19 = some Tryz.f19 := _root_.id rfl
theorem fn20 : (CC W).fn 20 = some Tryz.f20 := _root_.id rfl
theorem fn21 : (CC W).fn 21 = some Tryz.f21 := _root_.id rfl
theorem fn22 : (CC W).fn 22 = some Tryz.f22 := _root_.id rfl
theorem fn23 : (CC W).fn 23 = some Tryz.f23 := _root_.id rfl
theorem fn24 : (CC W).fn 24 = some Tryz.f24 := _root_.id rfl
theorem fn25 : (CC W).fn 25 = some Tryz.f25 := _root_.id rfl
theorem fn26 : (CC W).fn 26 = some Tryz.f26 := _root_.id rfl
theorem fn27 : (CC W).fn 27 = some Tryz.f27 := _root_.id rfl
theorem fn28 : (CC W).fn 28 = some Tryz.f28 := _root_.id rfl
theorem fn29 : (CC W).fn 29 = some Tryz.f29 := _root_.id rfl
theorem fn30 : (CC W).fn 30 = some Tryz.f30 := _root_.id rfl
theorem fn31 : (CC W).fn 31 = some Tryz.f31 := _root_.id rfl
theorem fn32 : (CC W).fn 32 = some Tryz.f32 := _root_.id rfl
theorem fn33 : (CC W).fn 33 = some Tryz.f33 := _root_.id rfl
theorem fn34 : (CC W).fn 34 = some Tryz.f34 := _root_.id rfl
theorem fn35 : (CC W).fn 35 = some Tryz.f35 := _root_.id rfl
theorem fn36 : (CC W).fn 36 = some Tryz.f36 := _root_.id rfl
theorem fn37 : (CC W).fn 37 = some Tryz.f37 := _root_.id rfl
theorem fn38 : (CC W).fn 38 = some Tryz.f38 := _root_.id rfl
theorem fn39 : (CC W).fn 39 = some Tryz.f39 := _root_.id rfl
theorem fn40 : (CC W).fn 40 = some Tryz.f40 := _root_.id rfl
theorem fn41 : (CC W).fn 41 = some Tryz.f41 := _root_.id rfl
theorem fn42 : (CC W).fn 42 = some Tryz.f42 := _root_.id rfl
theorem fn43 : (CC W).fn 43 = some Tryz.f43 := _root_.id rfl
theorem fn44 : (CC W).fn 44 = some Tryz.f44 := _root_.id rfl
theorem fn45 : (CC W).fn 45 = some Tryz.f45 := _root_.id rfl
theorem fn46 : (CC W).fn 46 = some Tryz.f46 := _root_.id rfl
theorem fn47 : (CC W).fn 47 = some Tryz.f47 := _root_.id rfl
theorem fn48 : (CC W).fn 48 = some Tryz.f48 := _root_.id rfl
theorem fn49 : (CC W).fn 49 = some Tryz.f49 := _root_.id rfl
theorem fn50 : (CC W).fn 50 = some Tryz.f50 := _root_.id rfl
theorem fn51 : (CC W).fn 51 = some Tryz.f51 := _root_.id rfl
theorem fn52 : (CC W).fn 52 = some Tryz.f52 := _root_.id rfl
theorem fn53 : (CC W).fn 53 = some Tryz.f53 := _root_.id rfl
theorem fn54 : (CC W).fn 54 = some Tryz.f54 := _root_.id rfl
theorem fn55 : (CC W).fn 55 = some Tryz.f55 := _root_.id rfl
theorem fn56 : (CC W).fn 56 = some Tryz.f56 := _root_.id rfl
theorem fn57 : (CC W).fn 57 = some Tryz.f57 := _root_.id rfl
theorem fn58 : (CC W).fn 58 = some Tryz.f58 := _root_.id rfl
theorem fn59 : (CC W).fn 59 = some Tryz.f59 := _root_.id rfl
theorem fn60 : (CC W).fn 60 = some Tryz.f60 := _root_.id rfl
theorem fn61 : (CC W).fn 61 = some Tryz.f61 := _root_.id rfl
theorem fn62 : (CC W).fn 62 = some Tryz.f62 := _root_.id rfl
theorem fn63 : (CC W).fn 63 = some Tryz.f63 := _root_.id rfl
theorem fn64 : (CC W).fn 64 = some Tryz.f64 := _root_.id rfl
theorem fn65 : (CC W).fn 65 = some Tryz.f65 := _root_.id rfl
theorem fn66 : (CC W).fn 66 = some Tryz.f66 := _root_.id rfl
theorem fn67 : (CC W).fn 67 = some Tryz.f67 := _root_.id rfl
theorem fn68 : (CC W).fn 68 = some Tryz.f68 := _root_.id rfl
theorem fn69 : (CC W).fn 69 = some Tryz.f69 := _root_.id rfl
theorem fn70 : (CC W).fn 70 = some Tryz.f70 := _root_.id rfl
theorem fn71 : (CC W).fn 71 = some Tryz.f71 := _root_.id rfl
theorem fn72 : (CC W).fn 72 = some Tryz.f72 := _root_.id rfl
theorem fn73 : (CC W).fn 73 = some Tryz.f73 := _root_.id rfl
theorem fn74 : (CC W).fn 74 = some Tryz.f74 := _root_.id rfl
theorem fn75 : (CC W).fn 75 = some Tryz.f75 := _root_.id rfl
theorem fn76 : (CC W).fn 76 = some Tryz.f76 := _root_.id rfl
theorem fn77 : (CC W).fn 77 = some Tryz.f77 := _root_.id rfl
theorem fn78 : (CC W).fn 78 = some Tryz.f78 := _root_.id rfl
theorem fn79 : (CC W).fn 79 = some Tryz.f79 := _root_.id rfl
theorem fn80 : (CC W).fn 80 = some Tryz.f80 := _root_.id rfl
theorem fn81 : (CC W).fn 81 = some Tryz.f81 := _root_.id rfl
theorem fn82 : (CC W).fn 82 = some Tryz.f82 := _root_.id rfl
theorem fn83 : (CC W).fn 83 = some Tryz.f83 := _root_.id rfl
theorem fn84 : (CC W).fn 84 = some Tryz.f84 := _root_.id rfl
theorem fn85 : (CC W).fn 85 = some Tryz.f85 := _root_.id rfl
theorem fn86 : (CC W).fn 86 = some Tryz.f86 := _root_.id rfl
theorem fn87 : (CC W).fn 87 = some Tryz.f87 := _root_.id rfl
theorem fn88 : (CC W).fn 88 = some Tryz.f88 := _root_.id rfl
theorem fn89 : (CC W).fn 89 = some Tryz.f89 := _root_.id rfl
theorem fn90 : (CC W).fn 90 = some Tryz.f90 := _root_.id rfl
theorem fn91 : (CC W).fn 91 = some Tryz.f91 := _root_.id rfl
theorem fn92 : (CC W).fn 92 = some Tryz.f92 := _root_.id rfl
theorem fn93 : (CC W).fn 93 = some Tryz.f93 := _root_.id rfl
theorem fn94 : (CC W).fn 94 = some Tryz.f94 := _root_.id rfl
theorem fn95 : (CC W).fn 95 = some Tryz.f95 := _root_.id rfl
theorem fn96 : (CC W).fn 96 = some Tryz.f96 := _root_.id rfl
theorem fn97 : (CC W).fn 97 = some Tryz.f97 := _root_.id rfl
theorem fn98 : (CC W).fn 98 = some Tryz.f98 := _root_.id rfl
theorem fn99 : (CC W).fn 99 = some Tryz.f99 := _root_.id rfl
theorem fn100 : (CC W).fn 100 = some Tryz.f100 := _root_.id rfl
theorem fn101 : (CC W).fn 101 = some Tryz.f101 := _root_.id rfl
theorem fn102 : (CC W).fn 102 = some Tryz.f102 := _root_.id rfl
theorem fn103 : (CC W).fn 103 = some Tryz.f103 := _root_.id rfl
theorem fn104 : (CC W).fn 104 = some Tryz.f104 := _root_.id rfl
theorem fn105 : (CC W).fn 105 = some Tryz.f105 := _root_.id rfl
theorem fn106 : (CC W).fn 106 = some Tryz.f106 := _root_.id rfl
theorem fn107 : (CC W).fn 107 = some Tryz.f107 := _root_.id rfl
theorem fn108 : (CC W).fn 108 = some Tryz.f108 := _root_.id rfl
theorem fn109 : (CC W).fn 109 = some Tryz.f109 := _root_.id rfl
theorem fn111 : (CC W).fn 111 = some Tryz.f111 := _root_.id rfl
theorem fn112 : (CC W).fn 112 = some Tryz.f112 := _root_.id rfl
theorem fn113 : (CC W).fn 113 = some Tryz.f113 := _root_.id rfl
theorem fn114 : (CC W).fn 114 = some Tryz.f114 := _root_.id rfl
theorem fn115 : (CC W).fn 115 = some Tryz.f115 := _root_.id rfl
theorem fn116 : (CC W).fn 116 = some Tryz.f116 := _root_.id rfl
theorem fn117 : (CC W).fn 117 = some Tryz.f117 := _root_.id rfl
theorem fn118 : (CC W).fn 118 = some Tryz.f118 := _root_.id rfl
theorem fn119 : (CC W).fn 119 = some Tryz.f119 := _root_.id rfl
theorem fn120 : (CC W).fn 120 = some Tryz.f120 := _root_.id rfl
theorem fn121 : (CC W).fn 121 = some Tryz.f121 := _root_.id rfl
theorem fn122 : (CC W).fn 122 = some Tryz.f122 := _root_.id rfl
theorem fn123 : (CC W).fn 123 = some Tryz.f123 := _root_.id rfl
theorem fn124 : (CC W).fn 124 = some Tryz.f124 := _root_.id rfl
theorem fn125 : (CC W).fn 125 = some Tryz.f125 := _root_.id rfl
theorem fn126 : (CC W).fn 126 = some Tryz.f126 := _root_.id rfl
theorem fn127 : (CC W).fn 127 = some Tryz.f127 := _root_.id rfl
theorem fn128 : (CC W).fn 128 = some Tryz.f128 := _root_.id rfl
theorem fn129 : (CC W).fn 129 = some Tryz.f129 := _root_.id rfl
theorem fn130 : (CC W).fn 130 = some Tryz.f130 := _root_.id rfl
theorem fn131 : (CC W).fn 131 = some Tryz.f131 := _root_.id rfl
theorem fn132 : (CC W).fn 132 = some Tryz.f132 := _root_.id rfl
theorem fn133 : (CC W).fn 133 = some Tryz.f133 := _root_.id rfl
theorem fn134 : (CC W).fn 134 = some Tryz.f134 := _root_.id rfl
theorem fn135 : (CC W).fn 135 = some Tryz.f135 := _root_.id rfl
theorem fn136 : (CC W).fn 136 = some Tryz.f136 := _root_.id rfl
theorem fn137 : (CC W).fn 137 = some Tryz.f137 := _root_.id rfl
theorem fn138 : (CC W).fn 138 = some Tryz.f138 := _root_.id rfl
theorem fn139 : (CC W).fn 139 = some Tryz.f139 := _root_.id rfl
theorem fn140 : (CC W).fn 140 = some Tryz.f140 := _root_.id rfl
theorem fn142 : (CC W).fn 142 = some Tryz.f142 := _root_.id rfl
theorem fn143 : (CC W).fn 143 = some Tryz.f143 := _root_.id rfl
theorem fn144 : (CC W).fn 144 = some Tryz.f144 := _root_.id rfl
theorem fn145 : (CC W).fn 145 = some Tryz.f145 := _root_.id rfl
theorem fn146 : (CC W).fn 146 = some Tryz.f146 := _root_.id rfl
theorem fn147 : (CC W).fn 147 = some Tryz.f147 := _root_.id rfl
theorem fn148 : (CC W).fn 148 = some Tryz.f148 := _root_.id rfl
theorem fn149 : (CC W).fn 149 = some Tryz.f149 := _root_.id rfl
theorem fn150 : (CC W).fn 150 = some Tryz.f150 := _root_.id rfl
theorem fn151 : (CC W).fn 151 = some Tryz.f151 := _root_.id rfl
theorem fn152 : (CC W).fn 152 = some Tryz.f152 := _root_.id rfl
theorem fn153 : (CC W).fn 153 = some Tryz.f153 := _root_.id rfl
theorem fn154 : (CC W).fn 154 = some Tryz.f154 := _root_.id rfl
theorem fn155 : (CC W).fn 155 = some Tryz.f155 := _root_.id rfl
theorem fn156 : (CC W).fn 156 = some Tryz.f156 := _root_.id rfl
theorem fn157 : (CC W).fn 157 = some Tryz.f157 := _root_.id rfl
theorem fn158 : (CC W).fn 158 = some Tryz.f158 := _root_.id rfl
theorem fn159 : (CC W).fn 159 = some Tryz.f159 := _root_.id rfl
theorem fn160 : (CC W).fn 160 = some Tryz.f160 := _root_.id rfl
theorem fn161 : (CC W).fn 161 = some Tryz.f161 := _root_.id rfl
theorem fn162 : (CC W).fn 162 = some Tryz.f162 := _root_.id rfl
theorem fn163 : (CC W).fn 163 = some Tryz.f163 := _root_.id rfl
theorem fn164 : (CC W).fn 164 = some Tryz.f164 := _root_.id rfl
theorem fn165 : (CC W).fn 165 = some Tryz.f165 := _root_.id rfl
theorem fn166 : (CC W).fn 166 = some Tryz.f166 := _root_.id rfl
theorem fn167 : (CC W).fn 167 = some Tryz.f167 := _root_.id rfl
theorem fn168 : (CC W).fn 168 = some Tryz.f168 := _root_.id rfl
theorem fn169 : (CC W).fn 169 = some Tryz.f169 := _root_.id rfl
theorem fn170 : (CC W).fn 170 = some Tryz.f170 := _root_.id rfl
theorem fn171 : (CC W).fn 171 = some Tryz.f171 := _root_.id rfl
theorem fn172 : (CC W).fn 172 = some Tryz.f172 := _root_.id rfl
theorem fn173 : (CC W).fn 173 = some Tryz.f173 := _root_.id rfl
theorem fn174 : (CC W).fn 174 = some Tryz.f174 := _root_.id rfl
theorem fn176 : (CC W).fn 176 = some Tryz.f176 := _root_.id rfl
theorem fn177 : (CC W).fn 177 = some Tryz.f177 := _root_.id rfl
theorem fn178 : (CC W).fn 178 = some Tryz.f178 := _root_.id rfl
theorem fn180 : (CC W).fn 180 = some Tryz.f180 := _root_.id rfl
theorem fn181 : (CC W).fn 181 = some Tryz.f181 := _root_.id rfl
theorem fn182 : (CC W).fn 182 = some Tryz.f182 := _root_.id rfl
theorem fn183 : (CC W).fn 183 = some Tryz.f183 := _root_.id rfl
theorem fn184 : (CC W).fn 184 = some Tryz.f184 := _root_.id rfl
theorem fn185 : (CC W).fn 185 = some Tryz.f185 := _root_.id rfl
theorem fn186 : (CC W).fn 186 = some Tryz.f186 := _root_.id rfl
theorem fn187 : (CC W).fn 187 = some Tryz.f187 := _root_.id rfl
theorem fn188 : (CC W).fn 188 = some Tryz.f188 := _root_.id rfl
theorem fn189 : (CC W).fn 189 = some Tryz.f189 := _root_.id rfl
theorem fn191 : (CC W).fn 191 = some Tryz.f191 := _root_.id rfl
theorem fn192 : (CC W).fn 192 = some Tryz.f192 := _root_.id rfl
theorem fn193 : (CC W).fn 193 = some Tryz.f193 := _root_.id rfl
theorem fn194 : (CC W).fn 194 = some Tryz.f194 := _root_.id rfl
theorem fn195 : (CC W).fn 195 = some Tryz.f195 := _root_.id rfl
theorem fn196 : (CC W).fn 196 = some Tryz.f196 := _root_.id rfl
theorem fn197 : (CC W).fn 197 = some Tryz.f197 := _root_.id rfl
theorem fn198 : (CC W).fn 198 = some Tryz.f198 := _root_.id rfl
theorem fn199 : (CC W).fn 199 = some Tryz.f199 := _root_.id rfl
theorem fn200 : (CC W).fn 200 = some Tryz.f200 := _root_.id rfl
theorem fn201 : (CC W).fn 201 = some Tryz.f201 := _root_.id rfl
theorem fn202 : (CC W).fn 202 = some Tryz.f202 := _root_.id rfl
theorem fn204 : (CC W).fn 204 = some Tryz.f204 := _root_.id rfl
theorem fn205 : (CC W).fn 205 = some Tryz.f205 := _root_.id rfl
theorem fn206 : (CC W).fn 206 = some Tryz.f206 := _root_.id rfl
theorem fn207 : (CC W).fn 207 = some Tryz.f207 := _root_.id rfl
theorem fn208 : (CC W).fn 208 = some Tryz.f208 := _root_.id rfl
theorem fn209 : (CC W).fn 209 = some Tryz.f209 := _root_.id rfl
theorem fn232 : (CC W).fn 232 = some Tryz.f232 := _root_.id rfl
end
end Go.Proofs.YtbofhlifobjolaaGreatDoor.Ax
end
