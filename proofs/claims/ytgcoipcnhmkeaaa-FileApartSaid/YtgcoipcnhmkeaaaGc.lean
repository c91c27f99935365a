/- The texts Tab, as one. -/
import Derived.Test.YtgcoipcnhmkeaaaProg
import Derived.Test.YtgcoipcnhmkeaaaGba
import Derived.KernelRfl

/-! The tables of the program, for AX: what its types are, which of its functions have a body -/
section
set_option linter.unusedVariables false
set_option linter.unusedSimpArgs false
set_option maxRecDepth 100000
namespace Go.Proofs.Ytgcoipcnhmkeaaa.Ax
open Go.RowKit
def T0 : ATy := ⟨.tuple, 1, 0, none⟩
def T1 : ATy := ⟨.func, 1, 8, (some [.nilfn])⟩
def T2 : ATy := ⟨.int .i64, 1, 8, (some [.int .i64 0])⟩
def T3 : ATy := ⟨.int .i64, 1, 8, (some [.int .i64 0])⟩
def T4 : ATy := ⟨.bool, 1, 1, (some [.bool false])⟩
def T5 : ATy := ⟨.int .u8, 1, 1, (some [.int .u8 0])⟩
def T6 : ATy := ⟨.int .u8, 1, 1, (some [.int .u8 0])⟩
def T7 : ATy := ⟨.struct [(0, 2), (1, 3), (2, 4), (3, 6)] true, 4, 24, (some [.int .i64 0, .int .i64 0, .bool false, .int .u8 0])⟩
def T8 : ATy := ⟨.struct [(0, 2), (1, 3), (2, 4), (3, 6)] true, 4, 24, (some [.int .i64 0, .int .i64 0, .bool false, .int .u8 0])⟩
def T9 : ATy := ⟨.str, 1, 16, (some [.str []])⟩
def T10 : ATy := ⟨.str, 1, 16, (some [.str []])⟩
def T11 : ATy := ⟨.str, 1, 16, (some [.str []])⟩
def T12 : ATy := ⟨.int .u64, 1, 8, (some [.int .u64 0])⟩
def T13 : ATy := ⟨.struct [(0, 9), (1, 12)] false, 2, 24, (some [.str [], .int .u64 0])⟩
def T14 : ATy := ⟨.struct [(0, 9), (1, 12)] false, 2, 24, (some [.str [], .int .u64 0])⟩
def T15 : ATy := ⟨.ptr 192, 1, 8, (some [.ptr none])⟩
def T16 : ATy := ⟨.ptr 195, 1, 8, (some [.ptr none])⟩
def T17 : ATy := ⟨.ptr 203, 1, 8, (some [.ptr none])⟩
def T18 : ATy := ⟨.struct [(0, 17)] false, 1, 8, (some [.ptr none])⟩
def T19 : ATy := ⟨.struct [(0, 17)] false, 1, 8, (some [.ptr none])⟩
def T20 : ATy := ⟨.iface true, 1, 16, (some [.nilifc])⟩
def T21 : ATy := ⟨.int .i32, 1, 4, (some [.int .i32 0])⟩
def T22 : ATy := ⟨.struct [(0, 3), (1, 3), (2, 3)] true, 3, 24, (some [.int .i64 0, .int .i64 0, .int .i64 0])⟩
def T23 : ATy := ⟨.struct [(0, 3), (1, 3), (2, 3)] true, 3, 24, (some [.int .i64 0, .int .i64 0, .int .i64 0])⟩
def T24 : ATy := ⟨.slice 9, 1, 24, (some [.sl none 0 0 none])⟩
def T25 : ATy := ⟨.slice 35, 1, 24, (some [.sl none 0 0 none])⟩
def T26 : ATy := ⟨.ptr 85, 1, 8, (some [.ptr none])⟩
def T27 : ATy := ⟨.int .i64, 1, 8, (some [.int .i64 0])⟩
def T28 : ATy := ⟨.tuple, 1, 0, none⟩
def T29 : ATy := ⟨.func, 1, 8, (some [.nilfn])⟩
def T30 : ATy := ⟨.func, 1, 8, (some [.nilfn])⟩
def T31 : ATy := ⟨.array 6 3, 6, 48, (some [.int .i64 0, .int .i64 0, .int .i64 0, .int .i64 0, .int .i64 0, .int .i64 0])⟩
def T32 : ATy := ⟨.struct [(0, 3), (1, 3), (2, 3), (3, 31), (9, 3), (10, 3)] true, 11, 88, (some [.int .i64 0, .int .i64 0, .int .i64 0, .int .i64 0, .int .i64 0, .int .i64 0, .int .i64 0, .int .i64 0, .int .i64 0, .int .i64 0, .int .i64 0])⟩
def T33 : ATy := ⟨.struct [(0, 3), (1, 3), (2, 3), (3, 31), (9, 3), (10, 3)] true, 11, 88, (some [.int .i64 0, .int .i64 0, .int .i64 0, .int .i64 0, .int .i64 0, .int .i64 0, .int .i64 0, .int .i64 0, .int .i64 0, .int .i64 0, .int .i64 0])⟩
def T34 : ATy := ⟨.struct [(0, 3), (1, 3), (2, 3), (3, 3), (4, 9), (5, 33)] true, 16, 136, (some [.int .i64 0, .int .i64 0, .int .i64 0, .int .i64 0, .str [], .int .i64 0, .int .i64 0, .int .i64 0, .int .i64 0, .int .i64 0, .int .i64 0, .int .i64 0, .int .i64 0, .int .i64 0, .int .i64 0, .int .i64 0])⟩
def T35 : ATy := ⟨.struct [(0, 3), (1, 3), (2, 3), (3, 3), (4, 9), (5, 33)] true, 16, 136, (some [.int .i64 0, .int .i64 0, .int .i64 0, .int .i64 0, .str [], .int .i64 0, .int .i64 0, .int .i64 0, .int .i64 0, .int .i64 0, .int .i64 0, .int .i64 0, .int .i64 0, .int .i64 0, .int .i64 0, .int .i64 0])⟩
def T36 : ATy := ⟨.slice 91, 1, 24, (some [.sl none 0 0 none])⟩
def T37 : ATy := ⟨.func, 1, 8, (some [.nilfn])⟩
def T38 : ATy := ⟨.func, 1, 8, (some [.nilfn])⟩
def T39 : ATy := ⟨.func, 1, 8, (some [.nilfn])⟩
def T40 : ATy := ⟨.func, 1, 8, (some [.nilfn])⟩
def T41 : ATy := ⟨.func, 1, 8, (some [.nilfn])⟩
def T42 : ATy := ⟨.func, 1, 8, (some [.nilfn])⟩
def T43 : ATy := ⟨.func, 1, 8, (some [.nilfn])⟩
def T44 : ATy := ⟨.func, 1, 8, (some [.nilfn])⟩
def T45 : ATy := ⟨.slice 5, 1, 24, (some [.sl none 0 0 none])⟩
def T46 : ATy := ⟨.array 3 45, 3, 72, (some [.sl none 0 0 none, .sl none 0 0 none, .sl none 0 0 none])⟩
def T47 : ATy := ⟨.tuple, 1, 0, none⟩
def T48 : ATy := ⟨.func, 1, 8, (some [.nilfn])⟩
def T49 : ATy := ⟨.func, 1, 8, (some [.nilfn])⟩
def T50 : ATy := ⟨.func, 1, 8, (some [.nilfn])⟩
def T51 : ATy := ⟨.array 40 4, 40, 40, (some (List.replicate 40 (.bool false)))⟩
def T52 : ATy := ⟨.tuple, 1, 0, none⟩
def T53 : ATy := ⟨.func, 1, 8, (some [.nilfn])⟩
def T54 : ATy := ⟨.tuple, 1, 0, none⟩
def T55 : ATy := ⟨.func, 1, 8, (some [.nilfn])⟩
def T56 : ATy := ⟨.func, 1, 8, (some [.nilfn])⟩
def T57 : ATy := ⟨.slice 3, 1, 24, (some [.sl none 0 0 none])⟩
def T58 : ATy := ⟨.tuple, 1, 0, none⟩
def T59 : ATy := ⟨.func, 1, 8, (some [.nilfn])⟩
def T60 : ATy := ⟨.slice 64, 1, 24, (some [.sl none 0 0 none])⟩
def T61 : ATy := ⟨.func, 1, 8, (some [.nilfn])⟩
def T62 : ATy := ⟨.slice 66, 1, 24, (some [.sl none 0 0 none])⟩
def T63 : ATy := ⟨.struct [(0, 3), (1, 3), (2, 3), (3, 9)] true, 4, 40, (some [.int .i64 0, .int .i64 0, .int .i64 0, .str []])⟩
def T64 : ATy := ⟨.struct [(0, 3), (1, 3), (2, 3), (3, 9)] true, 4, 40, (some [.int .i64 0, .int .i64 0, .int .i64 0, .str []])⟩
def T65 : ATy := ⟨.struct [(0, 9), (1, 3)] true, 2, 24, (some [.str [], .int .i64 0])⟩
def T66 : ATy := ⟨.struct [(0, 9), (1, 3)] true, 2, 24, (some [.str [], .int .i64 0])⟩
def T67 : ATy := ⟨.func, 1, 8, (some [.nilfn])⟩
def T68 : ATy := ⟨.func, 1, 8, (some [.nilfn])⟩
def T69 : ATy := ⟨.func, 1, 8, (some [.nilfn])⟩
def T70 : ATy := ⟨.tuple, 1, 0, none⟩
def T71 : ATy := ⟨.func, 1, 8, (some [.nilfn])⟩
def T72 : ATy := ⟨.func, 1, 8, (some [.nilfn])⟩
def T73 : ATy := ⟨.tuple, 1, 0, none⟩
def T74 : ATy := ⟨.func, 1, 8, (some [.nilfn])⟩
def T75 : ATy := ⟨.func, 1, 8, (some [.nilfn])⟩
def T76 : ATy := ⟨.struct [(0, 3), (1, 3), (2, 3), (3, 3), (4, 3)] true, 5, 40, (some [.int .i64 0, .int .i64 0, .int .i64 0, .int .i64 0, .int .i64 0])⟩
def T77 : ATy := ⟨.struct [(0, 3), (1, 3), (2, 3), (3, 3), (4, 3)] true, 5, 40, (some [.int .i64 0, .int .i64 0, .int .i64 0, .int .i64 0, .int .i64 0])⟩
def T78 : ATy := ⟨.tuple, 1, 0, none⟩
def T79 : ATy := ⟨.func, 1, 8, (some [.nilfn])⟩
def T80 : ATy := ⟨.func, 1, 8, (some [.nilfn])⟩
def T81 : ATy := ⟨.func, 1, 8, (some [.nilfn])⟩
def T82 : ATy := ⟨.func, 1, 8, (some [.nilfn])⟩
def T83 : ATy := ⟨.map 3 9, 1, 8, (some [.map none])⟩
def T84 : ATy := ⟨.struct [(0, 23), (3, 77), (8, 24), (9, 83), (10, 83)] true, 11, 104, (some [.int .i64 0, .int .i64 0, .int .i64 0, .int .i64 0, .int .i64 0, .int .i64 0, .int .i64 0, .int .i64 0, .sl none 0 0 none, .map none, .map none])⟩
def T85 : ATy := ⟨.struct [(0, 23), (3, 77), (8, 24), (9, 83), (10, 83)] true, 11, 104, (some [.int .i64 0, .int .i64 0, .int .i64 0, .int .i64 0, .int .i64 0, .int .i64 0, .int .i64 0, .int .i64 0, .sl none 0 0 none, .map none, .map none])⟩
def T86 : ATy := ⟨.func, 1, 8, (some [.nilfn])⟩
def T87 : ATy := ⟨.func, 1, 8, (some [.nilfn])⟩
def T88 : ATy := ⟨.func, 1, 8, (some [.nilfn])⟩
def T89 : ATy := ⟨.func, 1, 8, (some [.nilfn])⟩
def T90 : ATy := ⟨.struct [(0, 3), (1, 9)] true, 2, 24, (some [.int .i64 0, .str []])⟩
def T91 : ATy := ⟨.struct [(0, 3), (1, 9)] true, 2, 24, (some [.int .i64 0, .str []])⟩
def T92 : ATy := ⟨.func, 1, 8, (some [.nilfn])⟩
def T93 : ATy := ⟨.func, 1, 8, (some [.nilfn])⟩
def T94 : ATy := ⟨.ptr 33, 1, 8, (some [.ptr none])⟩
def T95 : ATy := ⟨.func, 1, 8, (some [.nilfn])⟩
def T96 : ATy := ⟨.func, 1, 8, (some [.nilfn])⟩
def T97 : ATy := ⟨.func, 1, 8, (some [.nilfn])⟩
def T98 : ATy := ⟨.func, 1, 8, (some [.nilfn])⟩
def T99 : ATy := ⟨.func, 1, 8, (some [.nilfn])⟩
def T100 : ATy := ⟨.func, 1, 8, (some [.nilfn])⟩
def T101 : ATy := ⟨.func, 1, 8, (some [.nilfn])⟩
def T102 : ATy := ⟨.tuple, 1, 0, none⟩
def T103 : ATy := ⟨.func, 1, 8, (some [.nilfn])⟩
def T104 : ATy := ⟨.func, 1, 8, (some [.nilfn])⟩
def T105 : ATy := ⟨.tuple, 1, 0, none⟩
def T106 : ATy := ⟨.func, 1, 8, (some [.nilfn])⟩
def T107 : ATy := ⟨.tuple, 1, 0, none⟩
def T108 : ATy := ⟨.func, 1, 8, (some [.nilfn])⟩
def T109 : ATy := ⟨.slice 114, 1, 24, (some [.sl none 0 0 none])⟩
def T110 : ATy := ⟨.tuple, 1, 0, none⟩
def T111 : ATy := ⟨.func, 1, 8, (some [.nilfn])⟩
def T112 : ATy := ⟨.func, 1, 8, (some [.nilfn])⟩
def T113 : ATy := ⟨.array 32 5, 32, 32, (some (List.replicate 32 (.int .u8 0)))⟩
def T114 : ATy := ⟨.array 32 5, 32, 32, (some (List.replicate 32 (.int .u8 0)))⟩
def T115 : ATy := ⟨.func, 1, 8, (some [.nilfn])⟩
def T116 : ATy := ⟨.int .u64, 1, 8, (some [.int .u64 0])⟩
def T117 : ATy := ⟨.tuple, 1, 0, none⟩
def T118 : ATy := ⟨.func, 1, 8, (some [.nilfn])⟩
def T119 : ATy := ⟨.tuple, 1, 0, none⟩
def T120 : ATy := ⟨.func, 1, 8, (some [.nilfn])⟩
def T121 : ATy := ⟨.func, 1, 8, (some [.nilfn])⟩
def T122 : ATy := ⟨.func, 1, 8, (some [.nilfn])⟩
def T123 : ATy := ⟨.func, 1, 8, (some [.nilfn])⟩
def T124 : ATy := ⟨.func, 1, 8, (some [.nilfn])⟩
def T125 : ATy := ⟨.func, 1, 8, (some [.nilfn])⟩
def T126 : ATy := ⟨.func, 1, 8, (some [.nilfn])⟩
def T127 : ATy := ⟨.func, 1, 8, (some [.nilfn])⟩
def T128 : ATy := ⟨.func, 1, 8, (some [.nilfn])⟩
def T129 : ATy := ⟨.ptr 3, 1, 8, (some [.ptr none])⟩
def T130 : ATy := ⟨.func, 1, 8, (some [.nilfn])⟩
def T131 : ATy := ⟨.func, 1, 8, (some [.nilfn])⟩
def T132 : ATy := ⟨.func, 1, 8, (some [.nilfn])⟩
def T133 : ATy := ⟨.func, 1, 8, (some [.nilfn])⟩
def T134 : ATy := ⟨.array 2 129, 2, 16, (some [.ptr none, .ptr none])⟩
def T135 : ATy := ⟨.func, 1, 8, (some [.nilfn])⟩
def T136 : ATy := ⟨.func, 1, 8, (some [.nilfn])⟩
def T137 : ATy := ⟨.func, 1, 8, (some [.nilfn])⟩
def T138 : ATy := ⟨.func, 1, 8, (some [.nilfn])⟩
def T139 : ATy := ⟨.func, 1, 8, (some [.nilfn])⟩
def T140 : ATy := ⟨.func, 1, 8, (some [.nilfn])⟩
def T141 : ATy := ⟨.func, 1, 8, (some [.nilfn])⟩
def T142 : ATy := ⟨.func, 1, 8, (some [.nilfn])⟩
def T143 : ATy := ⟨.func, 1, 8, (some [.nilfn])⟩
def T144 : ATy := ⟨.func, 1, 8, (some [.nilfn])⟩
def T145 : ATy := ⟨.func, 1, 8, (some [.nilfn])⟩
def T146 : ATy := ⟨.func, 1, 8, (some [.nilfn])⟩
def T147 : ATy := ⟨.func, 1, 8, (some [.nilfn])⟩
def T148 : ATy := ⟨.ptr 175, 1, 8, (some [.ptr none])⟩
def T149 : ATy := ⟨.func, 1, 8, (some [.nilfn])⟩
def T150 : ATy := ⟨.func, 1, 8, (some [.nilfn])⟩
def T151 : ATy := ⟨.ptr 177, 1, 8, (some [.ptr none])⟩
def T152 : ATy := ⟨.func, 1, 8, (some [.nilfn])⟩
def T153 : ATy := ⟨.func, 1, 8, (some [.nilfn])⟩
def T154 : ATy := ⟨.func, 1, 8, (some [.nilfn])⟩
def T155 : ATy := ⟨.int .i64, 1, 8, (some [.int .i64 0])⟩
def T156 : ATy := ⟨.tuple, 1, 0, none⟩
def T157 : ATy := ⟨.func, 1, 8, (some [.nilfn])⟩
def T158 : ATy := ⟨.func, 1, 8, (some [.nilfn])⟩
def T159 : ATy := ⟨.func, 1, 8, (some [.nilfn])⟩
def T160 : ATy := ⟨.tuple, 1, 0, none⟩
def T161 : ATy := ⟨.func, 1, 8, (some [.nilfn])⟩
def T162 : ATy := ⟨.func, 1, 8, (some [.nilfn])⟩
def T163 : ATy := ⟨.int .u32, 1, 4, (some [.int .u32 0])⟩
def T164 : ATy := ⟨.func, 1, 8, (some [.nilfn])⟩
def T165 : ATy := ⟨.int .u64, 1, 8, (some [.int .u64 0])⟩
def T166 : ATy := ⟨.func, 1, 8, (some [.nilfn])⟩
def T167 : ATy := ⟨.func, 1, 8, (some [.nilfn])⟩
def T168 : ATy := ⟨.func, 1, 8, (some [.nilfn])⟩
def T169 : ATy := ⟨.func, 1, 8, (some [.nilfn])⟩
def T170 : ATy := ⟨.func, 1, 8, (some [.nilfn])⟩
def T171 : ATy := ⟨.func, 1, 8, (some [.nilfn])⟩
def T172 : ATy := ⟨.tuple, 1, 0, none⟩
def T173 : ATy := ⟨.func, 1, 8, (some [.nilfn])⟩
def T174 : ATy := ⟨.struct [(0, 45)] true, 1, 24, (some [.sl none 0 0 none])⟩
def T175 : ATy := ⟨.struct [(0, 45)] true, 1, 24, (some [.sl none 0 0 none])⟩
def T176 : ATy := ⟨.struct [(0, 9), (1, 27)] true, 2, 24, (some [.str [], .int .i64 0])⟩
def T177 : ATy := ⟨.struct [(0, 9), (1, 27)] true, 2, 24, (some [.str [], .int .i64 0])⟩
def T178 : ATy := ⟨.func, 1, 8, (some [.nilfn])⟩
def T179 : ATy := ⟨.func, 1, 8, (some [.nilfn])⟩
def T180 : ATy := ⟨.int .u64, 1, 8, (some [.int .u64 0])⟩
def T181 : ATy := ⟨.func, 1, 8, (some [.nilfn])⟩
def T182 : ATy := ⟨.func, 1, 8, (some [.nilfn])⟩
def T183 : ATy := ⟨.func, 1, 8, (some [.nilfn])⟩
def T184 : ATy := ⟨.func, 1, 8, (some [.nilfn])⟩
def T185 : ATy := ⟨.func, 1, 8, (some [.nilfn])⟩
def T186 : ATy := ⟨.func, 1, 8, (some [.nilfn])⟩
def T187 : ATy := ⟨.func, 1, 8, (some [.nilfn])⟩
def T188 : ATy := ⟨.ptr 180, 1, 8, (some [.ptr none])⟩
def T189 : ATy := ⟨.func, 1, 8, (some [.nilfn])⟩
def T190 : ATy := ⟨.func, 1, 8, (some [.nilfn])⟩
def T191 : ATy := ⟨.struct [(0, 17), (1, 17), (2, 17), (3, 9)] false, 4, 40, (some [.ptr none, .ptr none, .ptr none, .str []])⟩
def T192 : ATy := ⟨.struct [(0, 17), (1, 17), (2, 17), (3, 9)] false, 4, 40, (some [.ptr none, .ptr none, .ptr none, .str []])⟩
def T193 : ATy := ⟨.array 0 16, 0, 0, (some [])⟩
def T194 : ATy := ⟨.struct [(0, 193)] false, 0, 0, (some [])⟩
def T195 : ATy := ⟨.struct [(0, 193)] false, 0, 0, (some [])⟩
def T196 : ATy := ⟨.int .u8, 1, 1, (some [.int .u8 0])⟩
def T197 : ATy := ⟨.int .u8, 1, 1, (some [.int .u8 0])⟩
def T198 : ATy := ⟨.func, 1, 8, (some [.nilfn])⟩
def T199 : ATy := ⟨.ptr 5, 1, 8, (some [.ptr none])⟩
def T200 : ATy := ⟨.int .i32, 1, 4, (some [.int .i32 0])⟩
def T201 : ATy := ⟨.int .i32, 1, 4, (some [.int .i32 0])⟩
def T202 : ATy := ⟨.struct [(0, 12), (1, 12), (2, 163), (3, 196), (4, 5), (5, 5), (6, 197), (7, 198), (8, 199), (9, 200), (10, 201)] false, 11, 48, (some [.int .u64 0, .int .u64 0, .int .u32 0, .int .u8 0, .int .u8 0, .int .u8 0, .int .u8 0, .nilfn, .ptr none, .int .i32 0, .int .i32 0])⟩
def T203 : ATy := ⟨.struct [(0, 12), (1, 12), (2, 163), (3, 196), (4, 5), (5, 5), (6, 197), (7, 198), (8, 199), (9, 200), (10, 201)] false, 11, 48, (some [.int .u64 0, .int .u64 0, .int .u32 0, .int .u8 0, .int .u8 0, .int .u8 0, .int .u8 0, .nilfn, .ptr none, .int .i32 0, .int .i32 0])⟩
def T204 : ATy := ⟨.uptr, 1, 8, (some [.ptr none])⟩
def tt : Tr ATy := (.node (some T0) (.node (some T1) (.node (some T3) (.node (some T7) (.node (some T15) (.node (some T31) (.node (some T63) (.node (some T127) .leaf .leaf) (.node (some T191) .leaf .leaf)) (.node (some T95) (.node (some T159) .leaf .leaf) .leaf)) (.node (some T47) (.node (some T79) (.node (some T143) .leaf .leaf) .leaf) (.node (some T111) (.node (some T175) .leaf .leaf) .leaf))) (.node (some T23) (.node (some T39) (.node (some T71) (.node (some T135) .leaf .leaf) (.node (some T199) .leaf .leaf)) (.node (some T103) (.node (some T167) .leaf .leaf) .leaf)) (.node (some T55) (.node (some T87) (.node (some T151) .leaf .leaf) .leaf) (.node (some T119) (.node (some T183) .leaf .leaf) .leaf)))) (.node (some T11) (.node (some T19) (.node (some T35) (.node (some T67) (.node (some T131) .leaf .leaf) (.node (some T195) .leaf .leaf)) (.node (some T99) (.node (some T163) .leaf .leaf) .leaf)) (.node (some T51) (.node (some T83) (.node (some T147) .leaf .leaf) .leaf) (.node (some T115) (.node (some T179) .leaf .leaf) .leaf))) (.node (some T27) (.node (some T43) (.node (some T75) (.node (some T139) .leaf .leaf) (.node (some T203) .leaf .leaf)) (.node (some T107) (.node (some T171) .leaf .leaf) .leaf)) (.node (some T59) (.node (some T91) (.node (some T155) .leaf .leaf) .leaf) (.node (some T123) (.node (some T187) .leaf .leaf) .leaf))))) (.node (some T5) (.node (some T9) (.node (some T17) (.node (some T33) (.node (some T65) (.node (some T129) .leaf .leaf) (.node (some T193) .leaf .leaf)) (.node (some T97) (.node (some T161) .leaf .leaf) .leaf)) (.node (some T49) (.node (some T81) (.node (some T145) .leaf .leaf) .leaf) (.node (some T113) (.node (some T177) .leaf .leaf) .leaf))) (.node (some T25) (.node (some T41) (.node (some T73) (.node (some T137) .leaf .leaf) (.node (some T201) .leaf .leaf)) (.node (some T105) (.node (some T169) .leaf .leaf) .leaf)) (.node (some T57) (.node (some T89) (.node (some T153) .leaf .leaf) .leaf) (.node (some T121) (.node (some T185) .leaf .leaf) .leaf)))) (.node (some T13) (.node (some T21) (.node (some T37) (.node (some T69) (.node (some T133) .leaf .leaf) (.node (some T197) .leaf .leaf)) (.node (some T101) (.node (some T165) .leaf .leaf) .leaf)) (.node (some T53) (.node (some T85) (.node (some T149) .leaf .leaf) .leaf) (.node (some T117) (.node (some T181) .leaf .leaf) .leaf))) (.node (some T29) (.node (some T45) (.node (some T77) (.node (some T141) .leaf .leaf) .leaf) (.node (some T109) (.node (some T173) .leaf .leaf) .leaf)) (.node (some T61) (.node (some T93) (.node (some T157) .leaf .leaf) .leaf) (.node (some T125) (.node (some T189) .leaf .leaf) .leaf)))))) (.node (some T2) (.node (some T4) (.node (some T8) (.node (some T16) (.node (some T32) (.node (some T64) (.node (some T128) .leaf .leaf) (.node (some T192) .leaf .leaf)) (.node (some T96) (.node (some T160) .leaf .leaf) .leaf)) (.node (some T48) (.node (some T80) (.node (some T144) .leaf .leaf) .leaf) (.node (some T112) (.node (some T176) .leaf .leaf) .leaf))) (.node (some T24) (.node (some T40) (.node (some T72) (.node (some T136) .leaf .leaf) (.node (some T200) .leaf .leaf)) (.node (some T104) (.node (some T168) .leaf .leaf) .leaf)) (.node (some T56) (.node (some T88) (.node (some T152) .leaf .leaf) .leaf) (.node (some T120) (.node (some T184) .leaf .leaf) .leaf)))) (.node (some T12) (.node (some T20) (.node (some T36) (.node (some T68) (.node (some T132) .leaf .leaf) (.node (some T196) .leaf .leaf)) (.node (some T100) (.node (some T164) .leaf .leaf) .leaf)) (.node (some T52) (.node (some T84) (.node (some T148) .leaf .leaf) .leaf) (.node (some T116) (.node (some T180) .leaf .leaf) .leaf))) (.node (some T28) (.node (some T44) (.node (some T76) (.node (some T140) .leaf .leaf) (.node (some T204) .leaf .leaf)) (.node (some T108) (.node (some T172) .leaf .leaf) .leaf)) (.node (some T60) (.node (some T92) (.node (some T156) .leaf .leaf) .leaf) (.node (some T124) (.node (some T188) .leaf .leaf) .leaf))))) (.node (some T6) (.node (some T10) (.node (some T18) (.node (some T34) (.node (some T66) (.node (some T130) .leaf .leaf) (.node (some T194) .leaf .leaf)) (.node (some T98) (.node (some T162) .leaf .leaf) .leaf)) (.node (some T50) (.node (some T82) (.node (some T146) .leaf .leaf) .leaf) (.node (some T114) (.node (some T178) .leaf .leaf) .leaf))) (.node (some T26) (.node (some T42) (.node (some T74) (.node (some T138) .leaf .leaf) (.node (some T202) .leaf .leaf)) (.node (some T106) (.node (some T170) .leaf .leaf) .leaf)) (.node (some T58) (.node (some T90) (.node (some T154) .leaf .leaf) .leaf) (.node (some T122) (.node (some T186) .leaf .leaf) .leaf)))) (.node (some T14) (.node (some T22) (.node (some T38) (.node (some T70) (.node (some T134) .leaf .leaf) (.node (some T198) .leaf .leaf)) (.node (some T102) (.node (some T166) .leaf .leaf) .leaf)) (.node (some T54) (.node (some T86) (.node (some T150) .leaf .leaf) .leaf) (.node (some T118) (.node (some T182) .leaf .leaf) .leaf))) (.node (some T30) (.node (some T46) (.node (some T78) (.node (some T142) .leaf .leaf) .leaf) (.node (some T110) (.node (some T174) .leaf .leaf) .leaf)) (.node (some T62) (.node (some T94) (.node (some T158) .leaf .leaf) .leaf) (.node (some T126) (.node (some T190) .leaf .leaf) .leaf)))))))
def mask : Nat := 0x3ffffffbfffffffffdffffffffffffffffc
theorem tab_ok : tabOK Try.prog tt 205 = true := by decide +kernel
theorem fn_ok : fnOK Try.prog mask 156 = true := by decide +kernel
def extT (f : FuncId) (args : List AV) : Option AV := if f = 110 then cmpA args else none
theorem ext_ok : ∀ f, ExtOK Try.prog f (extT f) := by
  intro f args v hv ρ vs w hr
  unfold extT at hv
  by_cases h110 : f = 110
  · subst h110
    exact ext_cmp (fn := Try.f110) (by kernel_rfl) (by kernel_rfl) (by kernel_rfl) (by kernel_rfl) (by kernel_rfl) args v (by simpa using hv) ρ vs w hr
  rw [if_neg h110] at hv
  simp at hv

def extET (f : FuncId) (args : List AV) (h : AH) : Option (AV × AH) := if f = 69 then cloneA args h else none
theorem extE_ok (W : World) : ExtEOK Try.prog W extET := by
  intro f args h v h2 hv
  unfold extET at hv
  by_cases h69 : f = 69
  · subst h69
    exact ext_clone (fn := Try.f69) (by kernel_rfl) (by kernel_rfl) (by kernel_rfl) (by kernel_rfl) (by kernel_rfl) args h v h2 (by simpa using hv)
  rw [if_neg h69] at hv
  simp at hv

noncomputable def CC (W : World) : Cx := mkCxE Try.prog W tt 205 mask (fun _ _ => none) extT extET
theorem cc_ok (W : World) : (CC W).OK := mkCxE_ok tab_ok fn_ok (fun _ _ _ h => by simp at h) ext_ok (extE_ok W)
theorem zs9 {W : World} {f : FuncId} {args : List AV} {h : AH} : (CC W).extE f args h = if f = 69 then cloneA args h else none := _root_.id rfl
theorem zr9 {W : World} {f : FuncId} {args : List AV} : (CC W).ext f args = if f = 110 then cmpA args else none := _root_.id rfl
section
variable (W : World)
theorem ty3 : (CC W).ty 3 = some T3 := _root_.id rfl
theorem ty4 : (CC W).ty 4 = some T4 := _root_.id rfl
theorem ty5 : (CC W).ty 5 = some T5 := _root_.id rfl
theorem ty9 : (CC W).ty 9 = some T9 := _root_.id rfl
theorem ty23 : (CC W).ty 23 = some T23 := _root_.id rfl
theorem ty27 : (CC W).ty 27 = some T27 := _root_.id rfl
theorem ty31 : (CC W).ty 31 = some T31 := _root_.id rfl
theorem ty33 : (CC W).ty 33 = some T33 := _root_.id rfl
theorem ty45 : (CC W).ty 45 = some T45 := _root_.id rfl
theorem ty77 : (CC W).ty 77 = some T77 := _root_.id rfl
theorem size3 : (CC W).size 3 = some 1 := _root_.id rfl
theorem size4 : (CC W).size 4 = some 1 := _root_.id rfl
theorem kind5 : (CC W).kind 5 = .int .u8 := _root_.id rfl
theorem size5 : (CC W).size 5 = some 1 := _root_.id rfl
theorem zero5 : (CC W).zero 5 = (some [.int .u8 0]) := _root_.id rfl
theorem kind9 : (CC W).kind 9 = .str := _root_.id rfl
theorem size9 : (CC W).size 9 = some 1 := _root_.id rfl
theorem zero9 : (CC W).zero 9 = (some [.str []]) := _root_.id rfl
theorem kind23 : (CC W).kind 23 = .struct [(0, 3), (1, 3), (2, 3)] true := _root_.id rfl
theorem size23 : (CC W).size 23 = some 3 := _root_.id rfl
theorem kind24 : (CC W).kind 24 = .slice 9 := _root_.id rfl
theorem kind25 : (CC W).kind 25 = .slice 35 := _root_.id rfl
theorem kind26 : (CC W).kind 26 = .ptr 85 := _root_.id rfl
theorem kind33 : (CC W).kind 33 = .struct [(0, 3), (1, 3), (2, 3), (3, 31), (9, 3), (10, 3)] true := _root_.id rfl
theorem kind35 : (CC W).kind 35 = .struct [(0, 3), (1, 3), (2, 3), (3, 3), (4, 9), (5, 33)] true := _root_.id rfl
theorem size35 : (CC W).size 35 = some 16 := _root_.id rfl
theorem kind45 : (CC W).kind 45 = .slice 5 := _root_.id rfl
theorem size45 : (CC W).size 45 = some 1 := _root_.id rfl
theorem kind77 : (CC W).kind 77 = .struct [(0, 3), (1, 3), (2, 3), (3, 3), (4, 3)] true := _root_.id rfl
theorem size77 : (CC W).size 77 = some 5 := _root_.id rfl
theorem kind83 : (CC W).kind 83 = .map 3 9 := _root_.id rfl
theorem kind85 : (CC W).kind 85 = .struct [(0, 23), (3, 77), (8, 24), (9, 83), (10, 83)] true := _root_.id rfl
theorem kind148 : (CC W).kind 148 = .ptr 175 := _root_.id rfl
theorem kind151 : (CC W).kind 151 = .ptr 177 := _root_.id rfl
theorem kind175 : (CC W).kind 175 = .struct [(0, 45)] true := _root_.id rfl
theorem kind177 : (CC W).kind 177 = .struct [(0, 9), (1, 27)] true := _root_.id rfl
theorem fn5 : (CC W).fn 5 = some Try.f5 := _root_.id rfl
theorem fn11 : (CC W).fn 11 = some Try.f11 := _root_.id rfl
theorem fn12 : (CC W).fn 12 = some Try.f12 := _root_.id rfl
theorem fn14 : (CC W).fn 14 = some Try.f14 := _root_.id rfl
theorem fn15 : (CC W).fn 15 = some Try.f15 := _root_.id rfl
theorem fn16 : (CC W).fn 16 = some Try.f16 := _root_.id rfl
theorem fn18 : (CC W).fn 18 = some Try.f18 := _root_.id rfl
theorem fn19 : (CC W).fn 19 = some Try.f19 := _root_.id rfl
theorem fn21 : (CC W).fn 21 = some Try.f21 := _root_.id rfl
theorem fn22 : (CC W).fn 22 = some Try.f22 := _root_.id rfl
theorem fn23 : (CC W).fn 23 = some Try.f23 := _root_.id rfl
theorem fn34 : (CC W).fn 34 = some Try.f34 := _root_.id rfl
theorem fn35 : (CC W).fn 35 = some Try.f35 := _root_.id rfl
theorem fn36 : (CC W).fn 36 = some Try.f36 := _root_.id rfl
theorem fn37 : (CC W).fn 37 = some Try.f37 := _root_.id rfl
theorem fn40 : (CC W).fn 40 = some Try.f40 := _root_.id rfl
theorem fn41 : (CC W).fn 41 = some Try.f41 := _root_.id rfl
theorem fn42 : (CC W).fn 42 = some Try.f42 := _root_.id rfl
theorem fn43 : (CC W).fn 43 = some Try.f43 := _root_.id rfl
theorem fn44 : (CC W).fn 44 = some Try.f44 := _root_.id rfl
theorem fn45 : (CC W).fn 45 = some Try.f45 := _root_.id rfl
theorem fn46 : (CC W).fn 46 = some Try.f46 := _root_.id rfl
theorem fn47 : (CC W).fn 47 = some Try.f47 := _root_.id rfl
theorem fn48 : (CC W).fn 48 = some Try.f48 := _root_.id rfl
theorem fn49 : (CC W).fn 49 = some Try.f49 := _root_.id rfl
theorem fn50 : (CC W).fn 50 = some Try.f50 := _root_.id rfl
theorem fn51 : (CC W).fn 51 = some Try.f51 := _root_.id rfl
theorem fn52 : (CC W).fn 52 = some Try.f52 := _root_.id rfl
theorem fn64 : (CC W).fn 64 = some Try.f64 := _root_.id rfl
theorem fn65 : (CC W).fn 65 = some Try.f65 := _root_.id rfl
theorem fn70 : (CC W).fn 70 = some Try.f70 := _root_.id rfl
theorem fn71 : (CC W).fn 71 = some Try.f71 := _root_.id rfl
theorem fn72 : (CC W).fn 72 = some Try.f72 := _root_.id rfl
theorem fn73 : (CC W).fn 73 = some Try.f73 := _root_.id rfl
theorem fn74 : (CC W).fn 74 = some Try.f74 := _root_.id rfl
theorem fn75 : (CC W).fn 75 = some Try.f75 := _root_.id rfl
theorem fn76 : (CC W).fn 76 = some Try.f76 := _root_.id rfl
theorem fn77 : (CC W).fn 77 = some Try.f77 := _root_.id rfl
theorem fn78 : (CC W).fn 78 = some Try.f78 := _root_.id rfl
theorem fn79 : (CC W).fn 79 = some Try.f79 := _root_.id rfl
theorem fn80 : (CC W).fn 80 = some Try.f80 := _root_.id rfl
theorem fn81 : (CC W).fn 81 = some Try.f81 := _root_.id rfl
theorem fn82 : (CC W).fn 82 = some Try.f82 := _root_.id rfl
theorem fn90 : (CC W).fn 90 = some Try.f90 := _root_.id rfl
theorem fn91 : (CC W).fn 91 = some Try.f91 := _root_.id rfl
theorem fn92 : (CC W).fn 92 = some Try.f92 := _root_.id rfl
theorem fn93 : (CC W).fn 93 = some Try.f93 := _root_.id rfl
theorem fn94 : (CC W).fn 94 = some Try.f94 := _root_.id rfl
theorem fn95 : (CC W).fn 95 = some Try.f95 := _root_.id rfl
theorem fn96 : (CC W).fn 96 = some Try.f96 := _root_.id rfl
theorem fn97 : (CC W).fn 97 = some Try.f97 := _root_.id rfl
theorem fn98 : (CC W).fn 98 = some Try.f98 := _root_.id rfl
theorem fn99 : (CC W).fn 99 = some Try.f99 := _root_.id rfl
theorem fn120 : (CC W).fn 120 = some Try.f120 := _root_.id rfl
theorem fn121 : (CC W).fn 121 = some Try.f121 := _root_.id rfl
theorem fn122 : (CC W).fn 122 = some Try.f122 := _root_.id rfl
theorem fn123 : (CC W).fn 123 = some Try.f123 := _root_.id rfl
theorem fn124 : (CC W).fn 124 = some Try.f124 := _root_.id rfl
theorem fn135 : (CC W).fn 135 = some Try.f135 := _root_.id rfl
end
attribute [push_cast] qa9 qb9 qc9 qd9 qe9 qf9 qg9 qh9 qi9 qj9 qk9 ql9 qm9 qn9 qo9 qp9 qq9 qr9 qs9 qt9 qu9 qv9 qw9 qx9 ev qy9 qz9 za9 zb9 zc9 zd9 ze9 zf9 zg9 zh9 zi9 zj9 zk9 zl9 zm9 zn9 zo9 zp9 zq9 zr9 zs9 zt9 zu9 zv9 zw9
end Go.Proofs.Ytgcoipcnhmkeaaa.Ax
end
