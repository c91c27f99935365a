/- The tables of the program, for AX: what its types are, which of its functions have a body. -/
import Derived.Test.YtgcoipcnhmkeaaaProg
import Derived.Test.YtgcoipcnhmkeaaaAx24
import Derived.KernelRfl
set_option linter.unusedVariables false
set_option linter.unusedSimpArgs false
set_option maxRecDepth 100000
namespace Go.Proofs.Ytgcoipcnhmkeaaa.Ax
open Go.RowKit
def T0 : ATy := ⟨.tuple, 1, 0, none⟩
def T1 : ATy := ⟨.func, 1, 8, (some [.nilfn])⟩
def T2 : ATy := ⟨.int .i64, 1, 8, (some [.int .i64 0])⟩
def T3 : ATy := ⟨.int .i64, 1, 8, (some [.int .i64 0])⟩
def T4 : ATy := ⟨.bool, 1, 1, (some [.bool false])⟩
def T5 : ATy := ⟨.int .u8, 1, 1, (some [.int .u8 0])⟩
def T6 : ATy := ⟨.int .u8, 1, 1, (some [.int .u8 0])⟩
def T7 : ATy := ⟨.struct [(0, 2), (1, 3), (2, 4), (3, 6)] true, 4, 24, (some [.int .i64 0, .int .i64 0, .bool false, .int .u8 0])⟩
def T8 : ATy := ⟨.struct [(0, 2), (1, 3), (2, 4), (3, 6)] true, 4, 24, (some [.int .i64 0, .int .i64 0, .bool false, .int .u8 0])⟩
def T9 : ATy := ⟨.str, 1, 16, (some [.str []])⟩
def T10 : ATy := ⟨.str, 1, 16, (some [.str []])⟩
def T11 : ATy := ⟨.str, 1, 16, (some [.str []])⟩
def T12 : ATy := ⟨.int .u64, 1, 8, (some [.int .u64 0])⟩
def T13 : ATy := ⟨.struct [(0, 9), (1, 12)] false, 2, 24, (some [.str [], .int .u64 0])⟩
def T14 : ATy := ⟨.struct [(0, 9), (1, 12)] false, 2, 24, (some [.str [], .int .u64 0])⟩
def T15 : ATy := ⟨.ptr 192, 1, 8, (some [.ptr none])⟩
def T16 : ATy := ⟨.ptr 195, 1, 8, (some [.ptr none])⟩
def T17 : ATy := ⟨.ptr 203, 1, 8, (some [.ptr none])⟩
def T18 : ATy := ⟨.struct [(0, 17)] false, 1, 8, (some [.ptr none])⟩
def T19 : ATy := ⟨.struct [(0, 17)] false, 1, 8, (some [.ptr none])⟩
def T20 : ATy := ⟨.iface true, 1, 16, (some [.nilifc])⟩
def T21 : ATy := ⟨.int .i32, 1, 4, (some [.int .i32 0])⟩
def T22 : ATy := ⟨.struct [(0, 3), (1, 3), (2, 3)] true, 3, 24, (some [.int .i64 0, .int .i64 0, .int .i64 0])⟩
def T23 : ATy := ⟨.struct [(0, 3), (1, 3), (2, 3)] true, 3, 24, (some [.int .i64 0, .int .i64 0, .int .i64 0])⟩
def T24 : ATy := ⟨.slice 9, 1, 24, (some [.sl none 0 0 none])⟩
def T25 : ATy := ⟨.slice 35, 1, 24, (some [.sl none 0 0 none])⟩
def T26 : ATy := ⟨.ptr 85, 1, 8, (some [.ptr none])⟩
def T27 : ATy := ⟨.int .i64, 1, 8, (some [.int .i64 0])⟩
def T28 : ATy := ⟨.tuple, 1, 0, none⟩
def T29 : ATy := ⟨.func, 1, 8, (some [.nilfn])⟩
def T30 : ATy := ⟨.func, 1, 8, (some [.nilfn])⟩
def T31 : ATy := ⟨.array 6 3, 6, 48, (some [.int .i64 0, .int .i64 0, .int .i64 0, .int .i64 0, .int .i64 0, .int .i64 0])⟩
def T32 : ATy := ⟨.struct [(0, 3), (1, 3), (2, 3), (3, 31), (9, 3), (10, 3)] true, 11, 88, (some [.int .i64 0, .int .i64 0, .int .i64 0, .int .i64 0, .int .i64 0, .int .i64 0, .int .i64 0, .int .i64 0, .int .i64 0, .int .i64 0, .int .i64 0])⟩
def T33 : ATy := ⟨.struct [(0, 3), (1, 3), (2, 3), (3, 31), (9, 3), (10, 3)] true, 11, 88, (some [.int .i64 0, .int .i64 0, .int .i64 0, .int .i64 0, .int .i64 0, .int .i64 0, .int .i64 0, .int .i64 0, .int .i64 0, .int .i64 0, .int .i64 0])⟩
def T34 : ATy := ⟨.struct [(0, 3), (1, 3), (2, 3), (3, 3), (4, 9), (5, 33)] true, 16, 136, (some [.int .i64 0, .int .i64 0, .int .i64 0, .int .i64 0, .str [], .int .i64 0, .int .i64 0, .int .i64 0, .int .i64 0, .int .i64 0, .int .i64 0, .int .i64 0, .int .i64 0, .int .i64 0, .int .i64 0, .int .i64 0])⟩
def T35 : ATy := ⟨.struct [(0, 3), (1, 3), (2, 3), (3, 3), (4, 9), (5, 33)] true, 16, 136, (some [.int .i64 0, .int .i64 0, .int .i64 0, .int .i64 0, .str [], .int .i64 0, .int .i64 0, .int .i64 0, .int .i64 0, .int .i64 0, .int .i64 0, .int .i64 0, .int .i64 0, .int .i64 0, .int .i64 0, .int .i64 0])⟩
def T36 : ATy := ⟨.slice 91, 1, 24, (some [.sl none 0 0 none])⟩
def T37 : ATy := ⟨.func, 1, 8, (some [.nilfn])⟩
def T38 : ATy := ⟨.func, 1, 8, (some [.nilfn])⟩
def T39 : ATy := ⟨.func, 1, 8, (some [.nilfn])⟩
def T40 : ATy := ⟨.func, 1, 8, (some [.nilfn])⟩
def T41 : ATy := ⟨.func, 1, 8, (some [.nilfn])⟩
def T42 : ATy := ⟨.func, 1, 8, (some [.nilfn])⟩
def T43 : ATy := ⟨.func, 1, 8, (some [.nilfn])⟩
def T44 : ATy := ⟨.func, 1, 8, (some [.nilfn])⟩
def T45 : ATy := ⟨.slice 5, 1, 24, (some [.sl none 0 0 none])⟩
def T46 : ATy := ⟨.array 3 45, 3, 72, (some [.sl none 0 0 none, .sl none 0 0 none, .sl none 0 0 none])⟩
def T47 : ATy := ⟨.tuple, 1, 0, none⟩
def T48 : ATy := ⟨.func, 1, 8, (some [.nilfn])⟩
def T49 : ATy := ⟨.func, 1, 8, (some [.nilfn])⟩
def T50 : ATy := ⟨.func, 1, 8, (some [.nilfn])⟩
def T51 : ATy := ⟨.array 40 4, 40, 40, (some (List.replicate 40 (.bool false)))⟩
def T52 : ATy := ⟨.tuple, 1, 0, none⟩
def T53 : ATy := ⟨.func, 1, 8, (some [.nilfn])⟩
def T54 : ATy := ⟨.tuple, 1, 0, none⟩
def T55 : ATy := ⟨.func, 1, 8, (some [.nilfn])⟩
def T56 : ATy := ⟨.func, 1, 8, (some [.nilfn])⟩
def T57 : ATy := ⟨.slice 3, 1, 24, (some [.sl none 0 0 none])⟩
def T58 : ATy := ⟨.tuple, 1, 0, none⟩
def T59 : ATy := ⟨.func, 1, 8, (some [.nilfn])⟩
def T60 : ATy := ⟨.slice 64, 1, 24, (some [.sl none 0 0 none])⟩
def T61 : ATy := ⟨.func, 1, 8, (some [.nilfn])⟩
def T62 : ATy := ⟨.slice 66, 1, 24, (some [.sl none 0 0 none])⟩
def T63 : ATy := ⟨.struct [(0, 3), (1, 3), (2, 3), (3, 9)] true, 4, 40, (some [.int .i64 0, .int .i64 0, .int .i64 0, .str []])⟩
def T64 : ATy := ⟨.struct [(0, 3), (1, 3), (2, 3), (3, 9)] true, 4, 40, (some [.int .i64 0, .int .i64 0, .int .i64 0, .str []])⟩
def T65 : ATy := ⟨.struct [(0, 9), (1, 3)] true, 2, 24, (some [.str [], .int .i64 0])⟩
def T66 : ATy := ⟨.struct [(0, 9), (1, 3)] true, 2, 24, (some [.str [], .int .i64 0])⟩
def T67 : ATy := ⟨.func, 1, 8, (some [.nilfn])⟩
def T68 : ATy := ⟨.func, 1, 8, (some [.nilfn])⟩
def T69 : ATy := ⟨.func, 1, 8, (some [.nilfn])⟩
def T70 : ATy := ⟨.tuple, 1, 0, none⟩
def T71 : ATy := ⟨.func, 1, 8, (some [.nilfn])⟩
def T72 : ATy := ⟨.func, 1, 8, (some [.nilfn])⟩
def T73 : ATy := ⟨.tuple, 1, 0, none⟩
def T74 : ATy := ⟨.func, 1, 8, (some [.nilfn])⟩
def T75 : ATy := ⟨.func, 1, 8, (some [.nilfn])⟩
def T76 : ATy := ⟨.struct [(0, 3), (1, 3), (2, 3), (3, 3), (4, 3)] true, 5, 40, (some [.int .i64 0, .int .i64 0, .int .i64 0, .int .i64 0, .int .i64 0])⟩
def T77 : ATy := ⟨.struct [(0, 3), (1, 3), (2, 3), (3, 3), (4, 3)] true, 5, 40, (some [.int .i64 0, .int .i64 0, .int .i64 0, .int .i64 0, .int .i64 0])⟩
def T78 : ATy := ⟨.tuple, 1, 0, none⟩
def T79 : ATy := ⟨.func, 1, 8, (some [.nilfn])⟩
def T80 : ATy := ⟨.func, 1, 8, (some [.nilfn])⟩
def T81 : ATy := ⟨.func, 1, 8, (some [.nilfn])⟩
def T82 : ATy := ⟨.func, 1, 8, (some [.nilfn])⟩
def T83 : ATy := ⟨.map 3 9, 1, 8, (some [.map none])⟩
def T84 : ATy := ⟨.struct [(0, 23), (3, 77), (8, 24), (9, 83), (10, 83)] true, 11, 104, (some [.int .i64 0, .int .i64 0, .int .i64 0, .int .i64 0, .int .i64 0, .int .i64 0, .int .i64 0, .int .i64 0, .sl none 0 0 none, .map none, .map none])⟩
def T85 : ATy := ⟨.struct [(0, 23), (3, 77), (8, 24), (9, 83), (10, 83)] true, 11, 104, (some [.int .i64 0, .int .i64 0, .int .i64 0, .int .i64 0, .int .i64 0, .int .i64 0, .int .i64 0, .int .i64 0, .sl none 0 0 none, .map none, .map none])⟩
def T86 : ATy := ⟨.func, 1, 8, (some [.nilfn])⟩
def T87 : ATy := ⟨.func, 1, 8, (some [.nilfn])⟩
def T88 : ATy := ⟨.func, 1, 8, (some [.nilfn])⟩
def T89 : ATy := ⟨.func, 1, 8, (some [.nilfn])⟩
def T90 : ATy := ⟨.struct [(0, 3), (1, 9)] true, 2, 24, (some [.int .i64 0, .str []])⟩
def T91 : ATy := ⟨.struct [(0, 3), (1, 9)] true, 2, 24, (some [.int .i64 0, .str []])⟩
def T92 : ATy := ⟨.func, 1, 8, (some [.nilfn])⟩
def T93 : ATy := ⟨.func, 1, 8, (some [.nilfn])⟩
def T94 : ATy := ⟨.ptr 33, 1, 8, (some [.ptr none])⟩
def T95 : ATy := ⟨.func, 1, 8, (some [.nilfn])⟩
def T96 : ATy := ⟨.func, 1, 8, (some [.nilfn])⟩
def T97 : ATy := ⟨.func, 1, 8, (some [.nilfn])⟩
def T98 : ATy := ⟨.func, 1, 8, (some [.nilfn])⟩
def T99 : ATy := ⟨.func, 1, 8, (some [.nilfn])⟩
def T100 : ATy := ⟨.func, 1, 8, (some [.nilfn])⟩
def T101 : ATy := ⟨.func, 1, 8, (some [.nilfn])⟩
def T102 : ATy := ⟨.tuple, 1, 0, none⟩
def T103 : ATy := ⟨.func, 1, 8, (some [.nilfn])⟩
def T104 : ATy := ⟨.func, 1, 8, (some [.nilfn])⟩
def T105 : ATy := ⟨.tuple, 1, 0, none⟩
def T106 : ATy := ⟨.func, 1, 8, (some [.nilfn])⟩
def T107 : ATy := ⟨.tuple, 1, 0, none⟩
def T108 : ATy := ⟨.func, 1, 8, (some [.nilfn])⟩
def T109 : ATy := ⟨.slice 114, 1, 24, (some [.sl none 0 0 none])⟩
def T110 : ATy := ⟨.tuple, 1, 0, none⟩
def T111 : ATy := ⟨.func, 1, 8, (some [.nilfn])⟩
def T112 : ATy := ⟨.func, 1, 8, (some [.nilfn])⟩
def T113 : ATy := ⟨.array 32 5, 32, 32, (some (List.replicate 32 (.int .u8 0)))⟩
def T114 : ATy := ⟨.array 32 5, 32, 32, (some (List.replicate 32 (.int .u8 0)))⟩
def T115 : ATy := ⟨.func, 1, 8, (some [.nilfn])⟩
def T116 : ATy := ⟨.int .u64, 1, 8, (some [.int .u64 0])⟩
def T117 : ATy := ⟨.tuple, 1, 0, none⟩
def T118 : ATy := ⟨.func, 1, 8, (some [.nilfn])⟩
def T119 : ATy := ⟨.tuple, 1, 0, none⟩
def T120 : ATy := ⟨.func, 1, 8, (some [.nilfn])⟩
def T121 : ATy := ⟨.func, 1, 8, (some [.nilfn])⟩
def T122 : ATy := ⟨.func, 1, 8, (some [.nilfn])⟩
def T123 : ATy := ⟨.func, 1, 8, (some [.nilfn])⟩
def T124 : ATy := ⟨.func, 1, 8, (some [.nilfn])⟩
def T125 : ATy := ⟨.func, 1, 8, (some [.nilfn])⟩
def T126 : ATy := ⟨.func, 1, 8, (some [.nilfn])⟩
def T127 : ATy := ⟨.func, 1, 8, (some [.nilfn])⟩
def T128 : ATy := ⟨.func, 1, 8, (some [.nilfn])⟩
def T129 : ATy := ⟨.ptr 3, 1, 8, (some [.ptr none])⟩
def T130 : ATy := ⟨.func, 1, 8, (some [.nilfn])⟩
def T131 : ATy := ⟨.func, 1, 8, (some [.nilfn])⟩
def T132 : ATy := ⟨.func, 1, 8, (some [.nilfn])⟩
def T133 : ATy := ⟨.func, 1, 8, (some [.nilfn])⟩
def T134 : ATy := ⟨.array 2 129, 2, 16, (some [.ptr none, .ptr none])⟩
def T135 : ATy := ⟨.func, 1, 8, (some [.nilfn])⟩
def T136 : ATy := ⟨.func, 1, 8, (some [.nilfn])⟩
def T137 : ATy := ⟨.func, 1, 8, (some [.nilfn])⟩
def T138 : ATy := ⟨.func, 1, 8, (some [.nilfn])⟩
def T139 : ATy := ⟨.func, 1, 8, (some [.nilfn])⟩
def T140 : ATy := ⟨.func, 1, 8, (some [.nilfn])⟩
def T141 : ATy := ⟨.func, 1, 8, (some [.nilfn])⟩
def T142 : ATy := ⟨.func, 1, 8, (some [.nilfn])⟩
def T143 : ATy := ⟨.func, 1, 8, (some [.nilfn])⟩
def T144 : ATy := ⟨.func, 1, 8, (some [.nilfn])⟩
def T145 : ATy := ⟨.func, 1, 8, (some [.nilfn])⟩
def T146 : ATy := ⟨.func, 1, 8, (some [.nilfn])⟩
def T147 : ATy := ⟨.func, 1, 8, (some [.nilfn])⟩
def T148 : ATy := ⟨.ptr 175, 1, 8, (some [.ptr none])⟩
def T149 : ATy := ⟨.func, 1, 8, (some [.nilfn])⟩
def T150 : ATy := ⟨.func, 1, 8, (some [.nilfn])⟩
def T151 : ATy := ⟨.ptr 177, 1, 8, (some [.ptr none])⟩
def T152 : ATy := ⟨.func, 1, 8, (some [.nilfn])⟩
def T153 : ATy := ⟨.func, 1, 8, (some [.nilfn])⟩
def T154 : ATy := ⟨.func, 1, 8, (some [.nilfn])⟩
def T155 : ATy := ⟨.int .i64, 1, 8, (some [.int .i64 0])⟩
def T156 : ATy := ⟨.tuple, 1, 0, none⟩
def T157 : ATy := ⟨.func, 1, 8, (some [.nilfn])⟩
def T158 : ATy := ⟨.func, 1, 8, (some [.nilfn])⟩
def T159 : ATy := ⟨.func, 1, 8, (some [.nilfn])⟩
def T160 : ATy := ⟨.tuple, 1, 0, none⟩
def T161 : ATy := ⟨.func, 1, 8, (some [.nilfn])⟩
def T162 : ATy := ⟨.func, 1, 8, (some [.nilfn])⟩
def T163 : ATy := ⟨.int .u32, 1, 4, (some [.int .u32 0])⟩
def T164 : ATy := ⟨.func, 1, 8, (some [.nilfn])⟩
def T165 : ATy := ⟨.int .u64, 1, 8, (some [.int .u64 0])⟩
def T166 : ATy := ⟨.func, 1, 8, (some [.nilfn])⟩
def T167 : ATy := ⟨.func, 1, 8, (some [.nilfn])⟩
def T168 : ATy := ⟨.func, 1, 8, (some [.nilfn])⟩
def T169 : ATy := ⟨.func, 1, 8, (some [.nilfn])⟩
def T170 : ATy := ⟨.func, 1, 8, (some [.nilfn])⟩
def T171 : ATy := ⟨.func, 1, 8, (some [.nilfn])⟩
def T172 : ATy := ⟨.tuple, 1, 0, none⟩
def T173 : ATy := ⟨.func, 1, 8, (some [.nilfn])⟩
def T174 : ATy := ⟨.struct [(0, 45)] true, 1, 24, (some [.sl none 0 0 none])⟩
def T175 : ATy := ⟨.struct [(0, 45)] true, 1, 24, (some [.sl none 0 0 none])⟩
def T176 : ATy := ⟨.struct [(0, 9), (1, 27)] true, 2, 24, (some [.str [], .int .i64 0])⟩
def T177 : ATy := ⟨.struct [(0, 9), (1, 27)] true, 2, 24, (some [.str [], .int .i64 0])⟩
def T178 : ATy := ⟨.func, 1, 8, (some [.nilfn])⟩
def T179 : ATy := ⟨.func, 1, 8, (some [.nilfn])⟩
def T180 : ATy := ⟨.int .u64, 1, 8, (some [.int .u64 0])⟩
def T181 : ATy := ⟨.func, 1, 8, (some [.nilfn])⟩
def T182 : ATy := ⟨.func, 1, 8, (some [.nilfn])⟩
def T183 : ATy := ⟨.func, 1, 8, (some [.nilfn])⟩
def T184 : ATy := ⟨.func, 1, 8, (some [.nilfn])⟩
def T185 : ATy := ⟨.func, 1, 8, (some [.nilfn])⟩
def T186 : ATy := ⟨.func, 1, 8, (some [.nilfn])⟩
def T187 : ATy := ⟨.func, 1, 8, (some [.nilfn])⟩
def T188 : ATy := ⟨.ptr 180, 1, 8, (some [.ptr none])⟩
def T189 : ATy := ⟨.func, 1, 8, (some [.nilfn])⟩
def T190 : ATy := ⟨.func, 1, 8, (some [.nilfn])⟩
def T191 : ATy := ⟨.struct [(0, 17), (1, 17), (2, 17), (3, 9)] false, 4, 40, (some [.ptr none, .ptr none, .ptr none, .str []])⟩
def T192 : ATy := ⟨.struct [(0, 17), (1, 17), (2, 17), (3, 9)] false, 4, 40, (some [.ptr none, .ptr none, .ptr none, .str []])⟩
def T193 : ATy := ⟨.array 0 16, 0, 0, (some [])⟩
def T194 : ATy := ⟨.struct [(0, 193)] false, 0, 0, (some [])⟩
def T195 : ATy := ⟨.struct [(0, 193)] false, 0, 0, (some [])⟩
def T196 : ATy := ⟨.int .u8, 1, 1, (some [.int .u8 0])⟩
def T197 : ATy := ⟨.int .u8, 1, 1, (some [.int .u8 0])⟩
def T198 : ATy := ⟨.func, 1, 8, (some [.nilfn])⟩
def T199 : ATy := ⟨.ptr 5, 1, 8, (some [.ptr none])⟩
def T200 : ATy := ⟨.int .i32, 1, 4, (some [.int .i32 0])⟩
def T201 : ATy := ⟨.int .i32, 1, 4, (some [.int .i32 0])⟩
def T202 : ATy := ⟨.struct [(0, 12), (1, 12), (2, 163), (3, 196), (4, 5), (5, 5), (6, 197), (7, 198), (8, 199), (9, 200), (10, 201)] false, 11, 48, (some [.int .u64 0, .int .u64 0, .int .u32 0, .int .u8 0, .int .u8 0, .int .u8 0, .int .u8 0, .nilfn, .ptr none, .int .i32 0, .int .i32 0])⟩
def T203 : ATy := ⟨.struct [(0, 12), (1, 12), (2, 163), (3, 196), (4, 5), (5, 5), (6, 197), (7, 198), (8, 199), (9, 200), (10, 201)] false, 11, 48, (some [.int .u64 0, .int .u64 0, .int .u32 0, .int .u8 0, .int .u8 0, .int .u8 0, .int .u8 0, .nilfn, .ptr none, .int .i32 0, .int .i32 0])⟩
def T204 : ATy := ⟨.uptr, 1, 8, (some [.ptr none])⟩
def tt : Tr ATy := (.node (some T0) (.node (some T1) (.node (some T3) (.node (some T7) (.node (some T15) (.node (some T31) (.node (some T63) (.node (some T127) .leaf .leaf) (.node (some T191) .leaf .leaf)) (.node (some T95) (.node (some T159) .leaf .leaf) .leaf)) (.node (some T47) (.node (some T79) (.node (some T143) .leaf .leaf) .leaf) (.node (some T111) (.node (some T175) .leaf .leaf) .leaf))) (.node (some T23) (.node (some T39) (.node (some T71) (.node (some T135) .leaf .leaf) (.node (some T199) .leaf .leaf)) (.node (some T103) (.node (some T167) .leaf .leaf) .leaf)) (.node (some T55) (.node (some T87) (.node (some T151) .leaf .leaf) .leaf) (.node (some T119) (.node (some T183) .leaf .leaf) .leaf)))) (.node (some T11) (.node (some T19) (.node (some T35) (.node (some T67) (.node (some T131) .leaf .leaf) (.node (some T195) .leaf .leaf)) (.node (some T99) (.node (some T163) .leaf .leaf) .leaf)) (.node (some T51) (.node (some T83) (.node (some T147) .leaf .leaf) .leaf) (.node (some T115) (.node (some T179) .leaf .leaf) .leaf))) (.node (some T27) (.node (some T43) (.node (some T75) (.node (some T139) .leaf .leaf) (.node (some T203) .leaf .leaf)) (.node (some T107) (.node (some T171) .leaf .leaf) .leaf)) (.node (some T59) (.node (some T91) (.node (some T155) .leaf .leaf) .leaf) (.node (some T123) (.node (some T187) .leaf .leaf) .leaf))))) (.node (some T5) (.node (some T9) (.node (some T17) (.node (some T33) (.node (some T65) (.node (some T129) .leaf .leaf) (.node (some T193) .leaf .leaf)) (.node (some T97) (.node (some T161) .leaf .leaf) .leaf)) (.node (some T49) (.node (some T81) (.node (some T145) .leaf .leaf) .leaf) (.node (some T113) (.node (some T177) .leaf .leaf) .leaf))) (.node (some T25) (.node (some T41) (.node (some T73) (.node (some T137) .leaf .leaf) (.node (some T201) .leaf .leaf)) (.node (some T105) (.node (some T169) .leaf .leaf) .leaf)) (.node (some T57) (.node (some T89) (.node (some T153) .leaf .leaf) .leaf) (.node (some T121) (.node (some T185) .leaf .leaf) .leaf)))) (.node (some T13) (.node (some T21) (.node (some T37) (.node (some T69) (.node (some T133) .leaf .leaf) (.node (some T197) .leaf .leaf)) (.node (some T101) (.node (some T165) .leaf .leaf) .leaf)) (.node (some T53) (.node (some T85) (.node (some T149) .leaf .leaf) .leaf) (.node (some T117) (.node (some T181) .leaf .leaf) .leaf))) (.node (some T29) (.node (some T45) (.node (some T77) (.node (some T141) .leaf .leaf) .leaf) (.node (some T109) (.node (some T173) .leaf .leaf) .leaf)) (.node (some T61) (.node (some T93) (.node (some T157) .leaf .leaf) .leaf) (.node (some T125) (.node (some T189) .leaf .leaf) .leaf)))))) (.node (some T2) (.node (some T4) (.node (some T8) (.node (some T16) (.node (some T32) (.node (some T64) (.node (some T128) .leaf .leaf) (.node (some T192) .leaf .leaf)) (.node (some T96) (.node (some T160) .leaf .leaf) .leaf)) (.node (some T48) (.node (some T80) (.node (some T144) .leaf .leaf) .leaf) (.node (some T112) (.node (some T176) .leaf .leaf) .leaf))) (.node (some T24) (.node (some T40) (.node (some T72) (.node (some T136) .leaf .leaf) (.node (some T200) .leaf .leaf)) (.node (some T104) (.node (some T168) .leaf .leaf) .leaf)) (.node (some T56) (.node (some T88) (.node (some T152) .leaf .leaf) .leaf) (.node (some T120) (.node (some T184) .leaf .leaf) .leaf)))) (.node (some T12) (.node (some T20) (.node (some T36) (.node (some T68) (.node (some T132) .leaf .leaf) (.node (some T196) .leaf .leaf)) (.node (some T100) (.node (some T164) .leaf .leaf) .leaf)) (.node (some T52) (.node (some T84) (.node (some T148) .leaf .leaf) .leaf) (.node (some T116) (.node (some T180) .leaf .leaf) .leaf))) (.node (some T28) (.node (some T44) (.node (some T76) (.node (some T140) .leaf .leaf) (.node (some T204) .leaf .leaf)) (.node (some T108) (.node (some T172) .leaf .leaf) .leaf)) (.node (some T60) (.node (some T92) (.node (some T156) .leaf .leaf) .leaf) (.node (some T124) (.node (some T188) .leaf .leaf) .leaf))))) (.node (some T6) (.node (some T10) (.node (some T18) (.node (some T34) (.node (some T66) (.node (some T130) .leaf .leaf) (.node (some T194) .leaf .leaf)) (.node (some T98) (.node (some T162) .leaf .leaf) .leaf)) (.node (some T50) (.node (some T82) (.node (some T146) .leaf .leaf) .leaf) (.node (some T114) (.node (some T178) .leaf .leaf) .leaf))) (.node (some T26) (.node (some T42) (.node (some T74) (.node (some T138) .leaf .leaf) (.node (some T202) .leaf .leaf)) (.node (some T106) (.node (some T170) .leaf .leaf) .leaf)) (.node (some T58) (.node (some T90) (.node (some T154) .leaf .leaf) .leaf) (.node (some T122) (.node (some T186) .leaf .leaf) .leaf)))) (.node (some T14) (.node (some T22) (.node (some T38) (.node (some T70) (.node (some T134) .leaf .leaf) (.node (some T198) .leaf .leaf)) (.node (some T102) (.node (some T166) .leaf .leaf) .leaf)) (.node (some T54) (.node (some T86) (.node (some T150) .leaf .leaf) .leaf) (.node (some T118) (.node (some T182) .leaf .leaf) .leaf))) (.node (some T30) (.node (some T46) (.node (some T78) (.node (some T142) .leaf .leaf) .leaf) (.node (some T110) (.node (some T174) .leaf .leaf) .leaf)) (.node (some T62) (.node (some T94) (.node (some T158) .leaf .leaf) .leaf) (.node (some T126) (.node (some T190) .leaf .leaf) .leaf)))))))
def mask : Nat := 0x3ffffffbfffffffffdffffffffffffffffc
theorem tab_ok : tabOK Try.prog tt 205 = true := by decide +kernel
theorem fn_ok : fnOK Try.prog mask 156 = true := by decide +kernel
def extT (f : FuncId) (args : List AV) : Option AV := if f = 110 then cmpA args else none
theorem ext_ok : ∀ f, ExtOK Try.prog f (extT f) := by
  intro f args v hv ρ vs w hr
  unfold extT at hv
  by_cases h110 : f = 110
  · subst h110
    exact ext_cmp (fn := Try.f110) (by kernel_rfl) (by kernel_rfl) (by kernel_rfl) (by kernel_rfl) (by kernel_rfl) args v (by simpa using hv) ρ vs w hr
  rw [if_neg h110] at hv
  simp at hv

def extET (f : FuncId) (args : List AV) (h : AH) : Option (AV × AH) := if f = 69 then cloneA args h else none
theorem extE_ok (W : World) : ExtEOK Try.prog W extET := by
  intro f args h v h2 hv
  unfold extET at hv
  by_cases h69 : f = 69
  · subst h69
    exact ext_clone (fn := Try.f69) (by kernel_rfl) (by kernel_rfl) (by kernel_rfl) (by kernel_rfl) (by kernel_rfl) args h v h2 (by simpa using hv)
  rw [if_neg h69] at hv
  simp at hv

noncomputable def CC (W : World) : Cx := mkCxE Try.prog W tt 205 mask (fun _ _ => none) extT extET
theorem cc_ok (W : World) : (CC W).OK := mkCxE_ok tab_ok fn_ok (fun _ _ _ h => by simp at h) ext_ok (extE_ok W)
theorem extEU {W : World} {f : FuncId} {args : List AV} {h : AH} : (CC W).extE f args h = if f = 69 then cloneA args h else none := _root_.id rfl
theorem extU {W : World} {f : FuncId} {args : List AV} : (CC W).ext f args = if f = 110 then cmpA args else none := _root_.id rfl
theorem calls_cc {W : World} {f : FuncId} {args : List AV} {vs : Array Value} (ha : VsRel [] args vs.toList) (hc : RetA (CC W) f args (.bool true)) :
    Calls Try.prog f vs W fun e w' => e = .returned (.bool true) ∧ Below W.heap.size W w' := calls_of_acallE rfl rfl ha ((hc AH.empty).mono (fun _ _ h => h) fun _ _ h => h)
section
variable (W : World)
theorem ty0 : (CC W).ty 0 = some T0 := _root_.id rfl
theorem ty1 : (CC W).ty 1 = some T1 := _root_.id rfl
theorem ty2 : (CC W).ty 2 = some T2 := _root_.id rfl
theorem ty3 : (CC W).ty 3 = some T3 := _root_.id rfl
theorem ty4 : (CC W).ty 4 = some T4 := _root_.id rfl
theorem ty5 : (CC W).ty 5 = some T5 := _root_.id rfl
theorem ty6 : (CC W).ty 6 = some T6 := _root_.id rfl
theorem ty7 : (CC W).ty 7 = some T7 := _root_.id rfl
theorem ty8 : (CC W).ty 8 = some T8 := _root_.id rfl
theorem ty9 : (CC W).ty 9 = some T9 := _root_.id rfl
theorem ty10 : (CC W).ty 10 = some T10 := _root_.id rfl
theorem ty11 : (CC W).ty 11 = some T11 := _root_.id rfl
theorem ty12 : (CC W).ty 12 = some T12 := _root_.id rfl
theorem ty13 : (CC W).ty 13 = some T13 := _root_.id rfl
theorem ty14 : (CC W).ty 14 = some T14 := _root_.id rfl
theorem ty15 : (CC W).ty 15 = some T15 := _root_.id rfl
theorem ty16 : (CC W).ty 16 = some T16 := _root_.id rfl
theorem ty17 : (CC W).ty 17 = some T17 := _root_.id rfl
theorem ty18 : (CC W).ty 18 = some T18 := _root_.id rfl
theorem ty19 : (CC W).ty 19 = some T19 := _root_.id rfl
theorem ty20 : (CC W).ty 20 = some T20 := _root_.id rfl
theorem ty21 : (CC W).ty 21 = some T21 := _root_.id rfl
theorem ty22 : (CC W).ty 22 = some T22 := _root_.id rfl
theorem ty23 : (CC W).ty 23 = some T23 := _root_.id rfl
theorem ty24 : (CC W).ty 24 = some T24 := _root_.id rfl
theorem ty25 : (CC W).ty 25 = some T25 := _root_.id rfl
theorem ty26 : (CC W).ty 26 = some T26 := _root_.id rfl
theorem ty27 : (CC W).ty 27 = some T27 := _root_.id rfl
theorem ty28 : (CC W).ty 28 = some T28 := _root_.id rfl
theorem ty29 : (CC W).ty 29 = some T29 := _root_.id rfl
theorem ty30 : (CC W).ty 30 = some T30 := _root_.id rfl
theorem ty31 : (CC W).ty 31 = some T31 := _root_.id rfl
theorem ty32 : (CC W).ty 32 = some T32 := _root_.id rfl
theorem ty33 : (CC W).ty 33 = some T33 := _root_.id rfl
theorem ty34 : (CC W).ty 34 = some T34 := _root_.id rfl
theorem ty35 : (CC W).ty 35 = some T35 := _root_.id rfl
theorem ty36 : (CC W).ty 36 = some T36 := _root_.id rfl
theorem ty37 : (CC W).ty 37 = some T37 := _root_.id rfl
theorem ty38 : (CC W).ty 38 = some T38 := _root_.id rfl
theorem ty39 : (CC W).ty 39 = some T39 := _root_.id rfl
theorem ty40 : (CC W).ty 40 = some T40 := _root_.id rfl
theorem ty41 : (CC W).ty 41 = some T41 := _root_.id rfl
theorem ty42 : (CC W).ty 42 = some T42 := _root_.id rfl
theorem ty43 : (CC W).ty 43 = some T43 := _root_.id rfl
theorem ty44 : (CC W).ty 44 = some T44 := _root_.id rfl
theorem ty45 : (CC W).ty 45 = some T45 := _root_.id rfl
theorem ty46 : (CC W).ty 46 = some T46 := _root_.id rfl
theorem ty47 : (CC W).ty 47 = some T47 := _root_.id rfl
theorem ty48 : (CC W).ty 48 = some T48 := _root_.id rfl
theorem ty49 : (CC W).ty 49 = some T49 := _root_.id rfl
theorem ty50 : (CC W).ty 50 = some T50 := _root_.id rfl
theorem ty51 : (CC W).ty 51 = some T51 := _root_.id rfl
theorem ty52 : (CC W).ty 52 = some T52 := _root_.id rfl
theorem ty53 : (CC W).ty 53 = some T53 := _root_.id rfl
theorem ty54 : (CC W).ty 54 = some T54 := _root_.id rfl
theorem ty55 : (CC W).ty 55 = some T55 := _root_.id rfl
theorem ty56 : (CC W).ty 56 = some T56 := _root_.id rfl
theorem ty57 : (CC W).ty 57 = some T57 := _root_.id rfl
theorem ty58 : (CC W).ty 58 = some T58 := _root_.id rfl
theorem ty59 : (CC W).ty 59 = some T59 := _root_.id rfl
theorem ty60 : (CC W).ty 60 = some T60 := _root_.id rfl
theorem ty61 : (CC W).ty 61 = some T61 := _root_.id rfl
theorem ty62 : (CC W).ty 62 = some T62 := _root_.id rfl
theorem ty63 : (CC W).ty 63 = some T63 := _root_.id rfl
theorem ty64 : (CC W).ty 64 = some T64 := _root_.id rfl
theorem ty65 : (CC W).ty 65 = some T65 := _root_.id rfl
theorem ty66 : (CC W).ty 66 = some T66 := _root_.id rfl
theorem ty67 : (CC W).ty 67 = some T67 := _root_.id rfl
theorem ty68 : (CC W).ty 68 = some T68 := _root_.id rfl
theorem ty69 : (CC W).ty 69 = some T69 := _root_.id rfl
theorem ty70 : (CC W).ty 70 = some T70 := _root_.id rfl
theorem ty71 : (CC W).ty 71 = some T71 := _root_.id rfl
theorem ty72 : (CC W).ty 72 = some T72 := _root_.id rfl
theorem ty73 : (CC W).ty 73 = some T73 := _root_.id rfl
theorem ty74 : (CC W).ty 74 = some T74 := _root_.id rfl
theorem ty75 : (CC W).ty 75 = some T75 := _root_.id rfl
theorem ty76 : (CC W).ty 76 = some T76 := _root_.id rfl
theorem ty77 : (CC W).ty 77 = some T77 := _root_.id rfl
theorem ty78 : (CC W).ty 78 = some T78 := _root_.id rfl
theorem ty79 : (CC W).ty 79 = some T79 := _root_.id rfl
theorem ty80 : (CC W).ty 80 = some T80 := _root_.id rfl
theorem ty81 : (CC W).ty 81 = some T81 := _root_.id rfl
theorem ty82 : (CC W).ty 82 = some T82 := _root_.id rfl
theorem ty83 : (CC W).ty 83 = some T83 := _root_.id rfl
theorem ty84 : (CC W).ty 84 = some T84 := _root_.id rfl
theorem ty85 : (CC W).ty 85 = some T85 := _root_.id rfl
theorem ty86 : (CC W).ty 86 = some T86 := _root_.id rfl
theorem ty87 : (CC W).ty 87 = some T87 := _root_.id rfl
theorem ty88 : (CC W).ty 88 = some T88 := _root_.id rfl
theorem ty89 : (CC W).ty 89 = some T89 := _root_.id rfl
theorem ty90 : (CC W).ty 90 = some T90 := _root_.id rfl
theorem ty91 : (CC W).ty 91 = some T91 := _root_.id rfl
theorem ty92 : (CC W).ty 92 = some T92 := _root_.id rfl
theorem ty93 : (CC W).ty 93 = some T93 := _root_.id rfl
theorem ty94 : (CC W).ty 94 = some T94 := _root_.id rfl
theorem ty95 : (CC W).ty 95 = some T95 := _root_.id rfl
theorem ty96 : (CC W).ty 96 = some T96 := _root_.id rfl
theorem ty97 : (CC W).ty 97 = some T97 := _root_.id rfl
theorem ty98 : (CC W).ty 98 = some T98 := _root_.id rfl
theorem ty99 : (CC W).ty 99 = some T99 := _root_.id rfl
theorem ty100 : (CC W).ty 100 = some T100 := _root_.id rfl
theorem ty101 : (CC W).ty 101 = some T101 := _root_.id rfl
theorem ty102 : (CC W).ty 102 = some T102 := _root_.id rfl
theorem ty103 : (CC W).ty 103 = some T103 := _root_.id rfl
theorem ty104 : (CC W).ty 104 = some T104 := _root_.id rfl
theorem ty105 : (CC W).ty 105 = some T105 := _root_.id rfl
theorem ty106 : (CC W).ty 106 = some T106 := _root_.id rfl
theorem ty107 : (CC W).ty 107 = some T107 := _root_.id rfl
theorem ty108 : (CC W).ty 108 = some T108 := _root_.id rfl
theorem ty109 : (CC W).ty 109 = some T109 := _root_.id rfl
theorem ty110 : (CC W).ty 110 = some T110 := _root_.id rfl
theorem ty111 : (CC W).ty 111 = some T111 := _root_.id rfl
theorem ty112 : (CC W).ty 112 = some T112 := _root_.id rfl
theorem ty113 : (CC W).ty 113 = some T113 := _root_.id rfl
theorem ty114 : (CC W).ty 114 = some T114 := _root_.id rfl
theorem ty115 : (CC W).ty 115 = some T115 := _root_.id rfl
theorem ty116 : (CC W).ty 116 = some T116 := _root_.id rfl
theorem ty117 : (CC W).ty 117 = some T117 := _root_.id rfl
theorem ty118 : (CC W).ty 118 = some T118 := _root_.id rfl
theorem ty119 : (CC W).ty 119 = some T119 := _root_.id rfl
theorem ty120 : (CC W).ty 120 = some T120 := _root_.id rfl
theorem ty121 : (CC W).ty 121 = some T121 := _root_.id rfl
theorem ty122 : (CC W).ty 122 = some T122 := _root_.id rfl
theorem ty123 : (CC W).ty 123 = some T123 := _root_.id rfl
theorem ty124 : (CC W).ty 124 = some T124 := _root_.id rfl
theorem ty125 : (CC W).ty 125 = some T125 := _root_.id rfl
theorem ty126 : (CC W).ty 126 = some T126 := _root_.id rfl
theorem ty127 : (CC W).ty 127 = some T127 := _root_.id rfl
theorem ty128 : (CC W).ty 128 = some T128 := _root_.id rfl
theorem ty129 : (CC W).ty 129 = some T129 := _root_.id rfl
theorem ty130 : (CC W).ty 130 = some T130 := _root_.id rfl
theorem ty131 : (CC W).ty 131 = some T131 := _root_.id rfl
theorem ty132 : (CC W).ty 132 = some T132 := _root_.id rfl
theorem ty133 : (CC W).ty 133 = some T133 := _root_.id rfl
theorem ty134 : (CC W).ty 134 = some T134 := _root_.id rfl
theorem ty135 : (CC W).ty 135 = some T135 := _root_.id rfl
theorem ty136 : (CC W).ty 136 = some T136 := _root_.id rfl
theorem ty137 : (CC W).ty 137 = some T137 := _root_.id rfl
theorem ty138 : (CC W).ty 138 = some T138 := _root_.id rfl
theorem ty139 : (CC W).ty 139 = some T139 := _root_.id rfl
theorem ty140 : (CC W).ty 140 = some T140 := _root_.id rfl
theorem ty141 : (CC W).ty 141 = some T141 := _root_.id rfl
theorem ty142 : (CC W).ty 142 = some T142 := _root_.id rfl
theorem ty143 : (CC W).ty 143 = some T143 := _root_.id rfl
theorem ty144 : (CC W).ty 144 = some T144 := _root_.id rfl
theorem ty145 : (CC W).ty 145 = some T145 := _root_.id rfl
theorem ty146 : (CC W).ty 146 = some T146 := _root_.id rfl
theorem ty147 : (CC W).ty 147 = some T147 := _root_.id rfl
theorem ty148 : (CC W).ty 148 = some T148 := _root_.id rfl
theorem ty149 : (CC W).ty 149 = some T149 := _root_.id rfl
theorem ty150 : (CC W).ty 150 = some T150 := _root_.id rfl
theorem ty151 : (CC W).ty 151 = some T151 := _root_.id rfl
theorem ty152 : (CC W).ty 152 = some T152 := _root_.id rfl
theorem ty153 : (CC W).ty 153 = some T153 := _root_.id rfl
theorem ty154 : (CC W).ty 154 = some T154 := _root_.id rfl
theorem ty155 : (CC W).ty 155 = some T155 := _root_.id rfl
theorem ty156 : (CC W).ty 156 = some T156 := _root_.id rfl
theorem ty157 : (CC W).ty 157 = some T157 := _root_.id rfl
theorem ty158 : (CC W).ty 158 = some T158 := _root_.id rfl
theorem ty159 : (CC W).ty 159 = some T159 := _root_.id rfl
theorem ty160 : (CC W).ty 160 = some T160 := _root_.id rfl
theorem ty161 : (CC W).ty 161 = some T161 := _root_.id rfl
theorem ty162 : (CC W).ty 162 = some T162 := _root_.id rfl
theorem ty163 : (CC W).ty 163 = some T163 := _root_.id rfl
theorem ty164 : (CC W).ty 164 = some T164 := _root_.id rfl
theorem ty165 : (CC W).ty 165 = some T165 := _root_.id rfl
theorem ty166 : (CC W).ty 166 = some T166 := _root_.id rfl
theorem ty167 : (CC W).ty 167 = some T167 := _root_.id rfl
theorem ty168 : (CC W).ty 168 = some T168 := _root_.id rfl
theorem ty169 : (CC W).ty 169 = some T169 := _root_.id rfl
theorem ty170 : (CC W).ty 170 = some T170 := _root_.id rfl
theorem ty171 : (CC W).ty 171 = some T171 := _root_.id rfl
theorem ty172 : (CC W).ty 172 = some T172 := _root_.id rfl
theorem ty173 : (CC W).ty 173 = some T173 := _root_.id rfl
theorem ty174 : (CC W).ty 174 = some T174 := _root_.id rfl
theorem ty175 : (CC W).ty 175 = some T175 := _root_.id rfl
theorem ty176 : (CC W).ty 176 = some T176 := _root_.id rfl
theorem ty177 : (CC W).ty 177 = some T177 := _root_.id rfl
theorem ty178 : (CC W).ty 178 = some T178 := _root_.id rfl
theorem ty179 : (CC W).ty 179 = some T179 := _root_.id rfl
theorem ty180 : (CC W).ty 180 = some T180 := _root_.id rfl
theorem ty181 : (CC W).ty 181 = some T181 := _root_.id rfl
theorem ty182 : (CC W).ty 182 = some T182 := _root_.id rfl
theorem ty183 : (CC W).ty 183 = some T183 := _root_.id rfl
theorem ty184 : (CC W).ty 184 = some T184 := _root_.id rfl
theorem ty185 : (CC W).ty 185 = some T185 := _root_.id rfl
theorem ty186 : (CC W).ty 186 = some T186 := _root_.id rfl
theorem ty187 : (CC W).ty 187 = some T187 := _root_.id rfl
theorem ty188 : (CC W).ty 188 = some T188 := _root_.id rfl
theorem ty189 : (CC W).ty 189 = some T189 := _root_.id rfl
theorem ty190 : (CC W).ty 190 = some T190 := _root_.id rfl
theorem ty191 : (CC W).ty 191 = some T191 := _root_.id rfl
theorem ty192 : (CC W).ty 192 = some T192 := _root_.id rfl
theorem ty193 : (CC W).ty 193 = some T193 := _root_.id rfl
theorem ty194 : (CC W).ty 194 = some T194 := _root_.id rfl
theorem ty195 : (CC W).ty 195 = some T195 := _root_.id rfl
theorem ty196 : (CC W).ty 196 = some T196 := _root_.id rfl
theorem ty197 : (CC W).ty 197 = some T197 := _root_.id rfl
theorem ty198 : (CC W).ty 198 = some T198 := _root_.id rfl
theorem ty199 : (CC W).ty 199 = some T199 := _root_.id rfl
theorem ty200 : (CC W).ty 200 = some T200 := _root_.id rfl
theorem ty201 : (CC W).ty 201 = some T201 := _root_.id rfl
theorem ty202 : (CC W).ty 202 = some T202 := _root_.id rfl
theorem ty203 : (CC W).ty 203 = some T203 := _root_.id rfl
theorem ty204 : (CC W).ty 204 = some T204 := _root_.id rfl
theorem kind0 : (CC W).kind 0 = .tuple := _root_.id rfl
theorem size0 : (CC W).size 0 = some 1 := _root_.id rfl
theorem kind1 : (CC W).kind 1 = .func := _root_.id rfl
theorem size1 : (CC W).size 1 = some 1 := _root_.id rfl
theorem zero1 : (CC W).zero 1 = (some [.nilfn]) := _root_.id rfl
theorem kind2 : (CC W).kind 2 = .int .i64 := _root_.id rfl
theorem size2 : (CC W).size 2 = some 1 := _root_.id rfl
theorem zero2 : (CC W).zero 2 = (some [.int .i64 0]) := _root_.id rfl
theorem kind3 : (CC W).kind 3 = .int .i64 := _root_.id rfl
theorem size3 : (CC W).size 3 = some 1 := _root_.id rfl
theorem zero3 : (CC W).zero 3 = (some [.int .i64 0]) := _root_.id rfl
theorem kind4 : (CC W).kind 4 = .bool := _root_.id rfl
theorem size4 : (CC W).size 4 = some 1 := _root_.id rfl
theorem zero4 : (CC W).zero 4 = (some [.bool false]) := _root_.id rfl
theorem kind5 : (CC W).kind 5 = .int .u8 := _root_.id rfl
theorem size5 : (CC W).size 5 = some 1 := _root_.id rfl
theorem zero5 : (CC W).zero 5 = (some [.int .u8 0]) := _root_.id rfl
theorem kind6 : (CC W).kind 6 = .int .u8 := _root_.id rfl
theorem size6 : (CC W).size 6 = some 1 := _root_.id rfl
theorem zero6 : (CC W).zero 6 = (some [.int .u8 0]) := _root_.id rfl
theorem kind7 : (CC W).kind 7 = .struct [(0, 2), (1, 3), (2, 4), (3, 6)] true := _root_.id rfl
theorem size7 : (CC W).size 7 = some 4 := _root_.id rfl
theorem zero7 : (CC W).zero 7 = (some [.int .i64 0, .int .i64 0, .bool false, .int .u8 0]) := _root_.id rfl
theorem kind8 : (CC W).kind 8 = .struct [(0, 2), (1, 3), (2, 4), (3, 6)] true := _root_.id rfl
theorem size8 : (CC W).size 8 = some 4 := _root_.id rfl
theorem zero8 : (CC W).zero 8 = (some [.int .i64 0, .int .i64 0, .bool false, .int .u8 0]) := _root_.id rfl
theorem kind9 : (CC W).kind 9 = .str := _root_.id rfl
theorem size9 : (CC W).size 9 = some 1 := _root_.id rfl
theorem zero9 : (CC W).zero 9 = (some [.str []]) := _root_.id rfl
theorem kind10 : (CC W).kind 10 = .str := _root_.id rfl
theorem size10 : (CC W).size 10 = some 1 := _root_.id rfl
theorem zero10 : (CC W).zero 10 = (some [.str []]) := _root_.id rfl
theorem kind11 : (CC W).kind 11 = .str := _root_.id rfl
theorem size11 : (CC W).size 11 = some 1 := _root_.id rfl
theorem zero11 : (CC W).zero 11 = (some [.str []]) := _root_.id rfl
theorem kind12 : (CC W).kind 12 = .int .u64 := _root_.id rfl
theorem size12 : (CC W).size 12 = some 1 := _root_.id rfl
theorem zero12 : (CC W).zero 12 = (some [.int .u64 0]) := _root_.id rfl
theorem kind13 : (CC W).kind 13 = .struct [(0, 9), (1, 12)] false := _root_.id rfl
theorem size13 : (CC W).size 13 = some 2 := _root_.id rfl
theorem zero13 : (CC W).zero 13 = (some [.str [], .int .u64 0]) := _root_.id rfl
theorem kind14 : (CC W).kind 14 = .struct [(0, 9), (1, 12)] false := _root_.id rfl
theorem size14 : (CC W).size 14 = some 2 := _root_.id rfl
theorem zero14 : (CC W).zero 14 = (some [.str [], .int .u64 0]) := _root_.id rfl
theorem kind15 : (CC W).kind 15 = .ptr 192 := _root_.id rfl
theorem size15 : (CC W).size 15 = some 1 := _root_.id rfl
theorem zero15 : (CC W).zero 15 = (some [.ptr none]) := _root_.id rfl
theorem kind16 : (CC W).kind 16 = .ptr 195 := _root_.id rfl
theorem size16 : (CC W).size 16 = some 1 := _root_.id rfl
theorem zero16 : (CC W).zero 16 = (some [.ptr none]) := _root_.id rfl
theorem kind17 : (CC W).kind 17 = .ptr 203 := _root_.id rfl
theorem size17 : (CC W).size 17 = some 1 := _root_.id rfl
theorem zero17 : (CC W).zero 17 = (some [.ptr none]) := _root_.id rfl
theorem kind18 : (CC W).kind 18 = .struct [(0, 17)] false := _root_.id rfl
theorem size18 : (CC W).size 18 = some 1 := _root_.id rfl
theorem zero18 : (CC W).zero 18 = (some [.ptr none]) := _root_.id rfl
theorem kind19 : (CC W).kind 19 = .struct [(0, 17)] false := _root_.id rfl
theorem size19 : (CC W).size 19 = some 1 := _root_.id rfl
theorem zero19 : (CC W).zero 19 = (some [.ptr none]) := _root_.id rfl
theorem kind20 : (CC W).kind 20 = .iface true := _root_.id rfl
theorem size20 : (CC W).size 20 = some 1 := _root_.id rfl
theorem zero20 : (CC W).zero 20 = (some [.nilifc]) := _root_.id rfl
theorem kind21 : (CC W).kind 21 = .int .i32 := _root_.id rfl
theorem size21 : (CC W).size 21 = some 1 := _root_.id rfl
theorem zero21 : (CC W).zero 21 = (some [.int .i32 0]) := _root_.id rfl
theorem kind22 : (CC W).kind 22 = .struct [(0, 3), (1, 3), (2, 3)] true := _root_.id rfl
theorem size22 : (CC W).size 22 = some 3 := _root_.id rfl
theorem zero22 : (CC W).zero 22 = (some [.int .i64 0, .int .i64 0, .int .i64 0]) := _root_.id rfl
theorem kind23 : (CC W).kind 23 = .struct [(0, 3), (1, 3), (2, 3)] true := _root_.id rfl
theorem size23 : (CC W).size 23 = some 3 := _root_.id rfl
theorem zero23 : (CC W).zero 23 = (some [.int .i64 0, .int .i64 0, .int .i64 0]) := _root_.id rfl
theorem kind24 : (CC W).kind 24 = .slice 9 := _root_.id rfl
theorem size24 : (CC W).size 24 = some 1 := _root_.id rfl
theorem zero24 : (CC W).zero 24 = (some [.sl none 0 0 none]) := _root_.id rfl
theorem kind25 : (CC W).kind 25 = .slice 35 := _root_.id rfl
theorem size25 : (CC W).size 25 = some 1 := _root_.id rfl
theorem zero25 : (CC W).zero 25 = (some [.sl none 0 0 none]) := _root_.id rfl
theorem kind26 : (CC W).kind 26 = .ptr 85 := _root_.id rfl
theorem size26 : (CC W).size 26 = some 1 := _root_.id rfl
theorem zero26 : (CC W).zero 26 = (some [.ptr none]) := _root_.id rfl
theorem kind27 : (CC W).kind 27 = .int .i64 := _root_.id rfl
theorem size27 : (CC W).size 27 = some 1 := _root_.id rfl
theorem zero27 : (CC W).zero 27 = (some [.int .i64 0]) := _root_.id rfl
theorem kind28 : (CC W).kind 28 = .tuple := _root_.id rfl
theorem size28 : (CC W).size 28 = some 1 := _root_.id rfl
theorem kind29 : (CC W).kind 29 = .func := _root_.id rfl
theorem size29 : (CC W).size 29 = some 1 := _root_.id rfl
theorem zero29 : (CC W).zero 29 = (some [.nilfn]) := _root_.id rfl
theorem kind30 : (CC W).kind 30 = .func := _root_.id rfl
theorem size30 : (CC W).size 30 = some 1 := _root_.id rfl
theorem zero30 : (CC W).zero 30 = (some [.nilfn]) := _root_.id rfl
theorem kind31 : (CC W).kind 31 = .array 6 3 := _root_.id rfl
theorem size31 : (CC W).size 31 = some 6 := _root_.id rfl
theorem zero31 : (CC W).zero 31 = (some [.int .i64 0, .int .i64 0, .int .i64 0, .int .i64 0, .int .i64 0, .int .i64 0]) := _root_.id rfl
theorem kind32 : (CC W).kind 32 = .struct [(0, 3), (1, 3), (2, 3), (3, 31), (9, 3), (10, 3)] true := _root_.id rfl
theorem size32 : (CC W).size 32 = some 11 := _root_.id rfl
theorem zero32 : (CC W).zero 32 = (some [.int .i64 0, .int .i64 0, .int .i64 0, .int .i64 0, .int .i64 0, .int .i64 0, .int .i64 0, .int .i64 0, .int .i64 0, .int .i64 0, .int .i64 0]) := _root_.id rfl
theorem kind33 : (CC W).kind 33 = .struct [(0, 3), (1, 3), (2, 3), (3, 31), (9, 3), (10, 3)] true := _root_.id rfl
theorem size33 : (CC W).size 33 = some 11 := _root_.id rfl
theorem zero33 : (CC W).zero 33 = (some [.int .i64 0, .int .i64 0, .int .i64 0, .int .i64 0, .int .i64 0, .int .i64 0, .int .i64 0, .int .i64 0, .int .i64 0, .int .i64 0, .int .i64 0]) := _root_.id rfl
theorem kind34 : (CC W).kind 34 = .struct [(0, 3), (1, 3), (2, 3), (3, 3), (4, 9), (5, 33)] true := _root_.id rfl
theorem size34 : (CC W).size 34 = some 16 := _root_.id rfl
theorem zero34 : (CC W).zero 34 = (some [.int .i64 0, .int .i64 0, .int .i64 0, .int .i64 0, .str [], .int .i64 0, .int .i64 0, .int .i64 0, .int .i64 0, .int .i64 0, .int .i64 0, .int .i64 0, .int .i64 0, .int .i64 0, .int .i64 0, .int .i64 0]) := _root_.id rfl
theorem kind35 : (CC W).kind 35 = .struct [(0, 3), (1, 3), (2, 3), (3, 3), (4, 9), (5, 33)] true := _root_.id rfl
theorem size35 : (CC W).size 35 = some 16 := _root_.id rfl
theorem zero35 : (CC W).zero 35 = (some [.int .i64 0, .int .i64 0, .int .i64 0, .int .i64 0, .str [], .int .i64 0, .int .i64 0, .int .i64 0, .int .i64 0, .int .i64 0, .int .i64 0, .int .i64 0, .int .i64 0, .int .i64 0, .int .i64 0, .int .i64 0]) := _root_.id rfl
theorem kind36 : (CC W).kind 36 = .slice 91 := _root_.id rfl
theorem size36 : (CC W).size 36 = some 1 := _root_.id rfl
theorem zero36 : (CC W).zero 36 = (some [.sl none 0 0 none]) := _root_.id rfl
theorem kind37 : (CC W).kind 37 = .func := _root_.id rfl
theorem size37 : (CC W).size 37 = some 1 := _root_.id rfl
theorem zero37 : (CC W).zero 37 = (some [.nilfn]) := _root_.id rfl
theorem kind38 : (CC W).kind 38 = .func := _root_.id rfl
theorem size38 : (CC W).size 38 = some 1 := _root_.id rfl
theorem zero38 : (CC W).zero 38 = (some [.nilfn]) := _root_.id rfl
theorem kind39 : (CC W).kind 39 = .func := _root_.id rfl
theorem size39 : (CC W).size 39 = some 1 := _root_.id rfl
theorem zero39 : (CC W).zero 39 = (some [.nilfn]) := _root_.id rfl
theorem kind40 : (CC W).kind 40 = .func := _root_.id rfl
theorem size40 : (CC W).size 40 = some 1 := _root_.id rfl
theorem zero40 : (CC W).zero 40 = (some [.nilfn]) := _root_.id rfl
theorem kind41 : (CC W).kind 41 = .func := _root_.id rfl
theorem size41 : (CC W).size 41 = some 1 := _root_.id rfl
theorem zero41 : (CC W).zero 41 = (some [.nilfn]) := _root_.id rfl
theorem kind42 : (CC W).kind 42 = .func := _root_.id rfl
theorem size42 : (CC W).size 42 = some 1 := _root_.id rfl
theorem zero42 : (CC W).zero 42 = (some [.nilfn]) := _root_.id rfl
theorem kind43 : (CC W).kind 43 = .func := _root_.id rfl
theorem size43 : (CC W).size 43 = some 1 := _root_.id rfl
theorem zero43 : (CC W).zero 43 = (some [.nilfn]) := _root_.id rfl
theorem kind44 : (CC W).kind 44 = .func := _root_.id rfl
theorem size44 : (CC W).size 44 = some 1 := _root_.id rfl
theorem zero44 : (CC W).zero 44 = (some [.nilfn]) := _root_.id rfl
theorem kind45 : (CC W).kind 45 = .slice 5 := _root_.id rfl
theorem size45 : (CC W).size 45 = some 1 := _root_.id rfl
theorem zero45 : (CC W).zero 45 = (some [.sl none 0 0 none]) := _root_.id rfl
theorem kind46 : (CC W).kind 46 = .array 3 45 := _root_.id rfl
theorem size46 : (CC W).size 46 = some 3 := _root_.id rfl
theorem zero46 : (CC W).zero 46 = (some [.sl none 0 0 none, .sl none 0 0 none, .sl none 0 0 none]) := _root_.id rfl
theorem kind47 : (CC W).kind 47 = .tuple := _root_.id rfl
theorem size47 : (CC W).size 47 = some 1 := _root_.id rfl
theorem kind48 : (CC W).kind 48 = .func := _root_.id rfl
theorem size48 : (CC W).size 48 = some 1 := _root_.id rfl
theorem zero48 : (CC W).zero 48 = (some [.nilfn]) := _root_.id rfl
theorem kind49 : (CC W).kind 49 = .func := _root_.id rfl
theorem size49 : (CC W).size 49 = some 1 := _root_.id rfl
theorem zero49 : (CC W).zero 49 = (some [.nilfn]) := _root_.id rfl
theorem kind50 : (CC W).kind 50 = .func := _root_.id rfl
theorem size50 : (CC W).size 50 = some 1 := _root_.id rfl
theorem zero50 : (CC W).zero 50 = (some [.nilfn]) := _root_.id rfl
theorem kind51 : (CC W).kind 51 = .array 40 4 := _root_.id rfl
theorem size51 : (CC W).size 51 = some 40 := _root_.id rfl
theorem kind52 : (CC W).kind 52 = .tuple := _root_.id rfl
theorem size52 : (CC W).size 52 = some 1 := _root_.id rfl
theorem kind53 : (CC W).kind 53 = .func := _root_.id rfl
theorem size53 : (CC W).size 53 = some 1 := _root_.id rfl
theorem zero53 : (CC W).zero 53 = (some [.nilfn]) := _root_.id rfl
theorem kind54 : (CC W).kind 54 = .tuple := _root_.id rfl
theorem size54 : (CC W).size 54 = some 1 := _root_.id rfl
theorem kind55 : (CC W).kind 55 = .func := _root_.id rfl
theorem size55 : (CC W).size 55 = some 1 := _root_.id rfl
theorem zero55 : (CC W).zero 55 = (some [.nilfn]) := _root_.id rfl
theorem kind56 : (CC W).kind 56 = .func := _root_.id rfl
theorem size56 : (CC W).size 56 = some 1 := _root_.id rfl
theorem zero56 : (CC W).zero 56 = (some [.nilfn]) := _root_.id rfl
theorem kind57 : (CC W).kind 57 = .slice 3 := _root_.id rfl
theorem size57 : (CC W).size 57 = some 1 := _root_.id rfl
theorem zero57 : (CC W).zero 57 = (some [.sl none 0 0 none]) := _root_.id rfl
theorem kind58 : (CC W).kind 58 = .tuple := _root_.id rfl
theorem size58 : (CC W).size 58 = some 1 := _root_.id rfl
theorem kind59 : (CC W).kind 59 = .func := _root_.id rfl
theorem size59 : (CC W).size 59 = some 1 := _root_.id rfl
theorem zero59 : (CC W).zero 59 = (some [.nilfn]) := _root_.id rfl
theorem kind60 : (CC W).kind 60 = .slice 64 := _root_.id rfl
theorem size60 : (CC W).size 60 = some 1 := _root_.id rfl
theorem zero60 : (CC W).zero 60 = (some [.sl none 0 0 none]) := _root_.id rfl
theorem kind61 : (CC W).kind 61 = .func := _root_.id rfl
theorem size61 : (CC W).size 61 = some 1 := _root_.id rfl
theorem zero61 : (CC W).zero 61 = (some [.nilfn]) := _root_.id rfl
theorem kind62 : (CC W).kind 62 = .slice 66 := _root_.id rfl
theorem size62 : (CC W).size 62 = some 1 := _root_.id rfl
theorem zero62 : (CC W).zero 62 = (some [.sl none 0 0 none]) := _root_.id rfl
theorem kind63 : (CC W).kind 63 = .struct [(0, 3), (1, 3), (2, 3), (3, 9)] true := _root_.id rfl
theorem size63 : (CC W).size 63 = some 4 := _root_.id rfl
theorem zero63 : (CC W).zero 63 = (some [.int .i64 0, .int .i64 0, .int .i64 0, .str []]) := _root_.id rfl
theorem kind64 : (CC W).kind 64 = .struct [(0, 3), (1, 3), (2, 3), (3, 9)] true := _root_.id rfl
theorem size64 : (CC W).size 64 = some 4 := _root_.id rfl
theorem zero64 : (CC W).zero 64 = (some [.int .i64 0, .int .i64 0, .int .i64 0, .str []]) := _root_.id rfl
theorem kind65 : (CC W).kind 65 = .struct [(0, 9), (1, 3)] true := _root_.id rfl
theorem size65 : (CC W).size 65 = some 2 := _root_.id rfl
theorem zero65 : (CC W).zero 65 = (some [.str [], .int .i64 0]) := _root_.id rfl
theorem kind66 : (CC W).kind 66 = .struct [(0, 9), (1, 3)] true := _root_.id rfl
theorem size66 : (CC W).size 66 = some 2 := _root_.id rfl
theorem zero66 : (CC W).zero 66 = (some [.str [], .int .i64 0]) := _root_.id rfl
theorem kind67 : (CC W).kind 67 = .func := _root_.id rfl
theorem size67 : (CC W).size 67 = some 1 := _root_.id rfl
theorem zero67 : (CC W).zero 67 = (some [.nilfn]) := _root_.id rfl
theorem kind68 : (CC W).kind 68 = .func := _root_.id rfl
theorem size68 : (CC W).size 68 = some 1 := _root_.id rfl
theorem zero68 : (CC W).zero 68 = (some [.nilfn]) := _root_.id rfl
theorem kind69 : (CC W).kind 69 = .func := _root_.id rfl
theorem size69 : (CC W).size 69 = some 1 := _root_.id rfl
theorem zero69 : (CC W).zero 69 = (some [.nilfn]) := _root_.id rfl
theorem kind70 : (CC W).kind 70 = .tuple := _root_.id rfl
theorem size70 : (CC W).size 70 = some 1 := _root_.id rfl
theorem kind71 : (CC W).kind 71 = .func := _root_.id rfl
theorem size71 : (CC W).size 71 = some 1 := _root_.id rfl
theorem zero71 : (CC W).zero 71 = (some [.nilfn]) := _root_.id rfl
theorem kind72 : (CC W).kind 72 = .func := _root_.id rfl
theorem size72 : (CC W).size 72 = some 1 := _root_.id rfl
theorem zero72 : (CC W).zero 72 = (some [.nilfn]) := _root_.id rfl
theorem kind73 : (CC W).kind 73 = .tuple := _root_.id rfl
theorem size73 : (CC W).size 73 = some 1 := _root_.id rfl
theorem kind74 : (CC W).kind 74 = .func := _root_.id rfl
theorem size74 : (CC W).size 74 = some 1 := _root_.id rfl
theorem zero74 : (CC W).zero 74 = (some [.nilfn]) := _root_.id rfl
theorem kind75 : (CC W).kind 75 = .func := _root_.id rfl
theorem size75 : (CC W).size 75 = some 1 := _root_.id rfl
theorem zero75 : (CC W).zero 75 = (some [.nilfn]) := _root_.id rfl
theorem kind76 : (CC W).kind 76 = .struct [(0, 3), (1, 3), (2, 3), (3, 3), (4, 3)] true := _root_.id rfl
theorem size76 : (CC W).size 76 = some 5 := _root_.id rfl
theorem zero76 : (CC W).zero 76 = (some [.int .i64 0, .int .i64 0, .int .i64 0, .int .i64 0, .int .i64 0]) := _root_.id rfl
theorem kind77 : (CC W).kind 77 = .struct [(0, 3), (1, 3), (2, 3), (3, 3), (4, 3)] true := _root_.id rfl
theorem size77 : (CC W).size 77 = some 5 := _root_.id rfl
theorem zero77 : (CC W).zero 77 = (some [.int .i64 0, .int .i64 0, .int .i64 0, .int .i64 0, .int .i64 0]) := _root_.id rfl
theorem kind78 : (CC W).kind 78 = .tuple := _root_.id rfl
theorem size78 : (CC W).size 78 = some 1 := _root_.id rfl
theorem kind79 : (CC W).kind 79 = .func := _root_.id rfl
theorem size79 : (CC W).size 79 = some 1 := _root_.id rfl
theorem zero79 : (CC W).zero 79 = (some [.nilfn]) := _root_.id rfl
theorem kind80 : (CC W).kind 80 = .func := _root_.id rfl
theorem size80 : (CC W).size 80 = some 1 := _root_.id rfl
theorem zero80 : (CC W).zero 80 = (some [.nilfn]) := _root_.id rfl
theorem kind81 : (CC W).kind 81 = .func := _root_.id rfl
theorem size81 : (CC W).size 81 = some 1 := _root_.id rfl
theorem zero81 : (CC W).zero 81 = (some [.nilfn]) := _root_.id rfl
theorem kind82 : (CC W).kind 82 = .func := _root_.id rfl
theorem size82 : (CC W).size 82 = some 1 := _root_.id rfl
theorem zero82 : (CC W).zero 82 = (some [.nilfn]) := _root_.id rfl
theorem kind83 : (CC W).kind 83 = .map 3 9 := _root_.id rfl
theorem size83 : (CC W).size 83 = some 1 := _root_.id rfl
theorem zero83 : (CC W).zero 83 = (some [.map none]) := _root_.id rfl
theorem kind84 : (CC W).kind 84 = .struct [(0, 23), (3, 77), (8, 24), (9, 83), (10, 83)] true := _root_.id rfl
theorem size84 : (CC W).size 84 = some 11 := _root_.id rfl
theorem zero84 : (CC W).zero 84 = (some [.int .i64 0, .int .i64 0, .int .i64 0, .int .i64 0, .int .i64 0, .int .i64 0, .int .i64 0, .int .i64 0, .sl none 0 0 none, .map none, .map none]) := _root_.id rfl
theorem kind85 : (CC W).kind 85 = .struct [(0, 23), (3, 77), (8, 24), (9, 83), (10, 83)] true := _root_.id rfl
theorem size85 : (CC W).size 85 = some 11 := _root_.id rfl
theorem zero85 : (CC W).zero 85 = (some [.int .i64 0, .int .i64 0, .int .i64 0, .int .i64 0, .int .i64 0, .int .i64 0, .int .i64 0, .int .i64 0, .sl none 0 0 none, .map none, .map none]) := _root_.id rfl
theorem kind86 : (CC W).kind 86 = .func := _root_.id rfl
theorem size86 : (CC W).size 86 = some 1 := _root_.id rfl
theorem zero86 : (CC W).zero 86 = (some [.nilfn]) := _root_.id rfl
theorem kind87 : (CC W).kind 87 = .func := _root_.id rfl
theorem size87 : (CC W).size 87 = some 1 := _root_.id rfl
theorem zero87 : (CC W).zero 87 = (some [.nilfn]) := _root_.id rfl
theorem kind88 : (CC W).kind 88 = .func := _root_.id rfl
theorem size88 : (CC W).size 88 = some 1 := _root_.id rfl
theorem zero88 : (CC W).zero 88 = (some [.nilfn]) := _root_.id rfl
theorem kind89 : (CC W).kind 89 = .func := _root_.id rfl
theorem size89 : (CC W).size 89 = some 1 := _root_.id rfl
theorem zero89 : (CC W).zero 89 = (some [.nilfn]) := _root_.id rfl
theorem kind90 : (CC W).kind 90 = .struct [(0, 3), (1, 9)] true := _root_.id rfl
theorem size90 : (CC W).size 90 = some 2 := _root_.id rfl
theorem zero90 : (CC W).zero 90 = (some [.int .i64 0, .str []]) := _root_.id rfl
theorem kind91 : (CC W).kind 91 = .struct [(0, 3), (1, 9)] true := _root_.id rfl
theorem size91 : (CC W).size 91 = some 2 := _root_.id rfl
theorem zero91 : (CC W).zero 91 = (some [.int .i64 0, .str []]) := _root_.id rfl
theorem kind92 : (CC W).kind 92 = .func := _root_.id rfl
theorem size92 : (CC W).size 92 = some 1 := _root_.id rfl
theorem zero92 : (CC W).zero 92 = (some [.nilfn]) := _root_.id rfl
theorem kind93 : (CC W).kind 93 = .func := _root_.id rfl
theorem size93 : (CC W).size 93 = some 1 := _root_.id rfl
theorem zero93 : (CC W).zero 93 = (some [.nilfn]) := _root_.id rfl
theorem kind94 : (CC W).kind 94 = .ptr 33 := _root_.id rfl
theorem size94 : (CC W).size 94 = some 1 := _root_.id rfl
theorem zero94 : (CC W).zero 94 = (some [.ptr none]) := _root_.id rfl
theorem kind95 : (CC W).kind 95 = .func := _root_.id rfl
theorem size95 : (CC W).size 95 = some 1 := _root_.id rfl
theorem zero95 : (CC W).zero 95 = (some [.nilfn]) := _root_.id rfl
theorem kind96 : (CC W).kind 96 = .func := _root_.id rfl
theorem size96 : (CC W).size 96 = some 1 := _root_.id rfl
theorem zero96 : (CC W).zero 96 = (some [.nilfn]) := _root_.id rfl
theorem kind97 : (CC W).kind 97 = .func := _root_.id rfl
theorem size97 : (CC W).size 97 = some 1 := _root_.id rfl
theorem zero97 : (CC W).zero 97 = (some [.nilfn]) := _root_.id rfl
theorem kind98 : (CC W).kind 98 = .func := _root_.id rfl
theorem size98 : (CC W).size 98 = some 1 := _root_.id rfl
theorem zero98 : (CC W).zero 98 = (some [.nilfn]) := _root_.id rfl
theorem kind99 : (CC W).kind 99 = .func := _root_.id rfl
theorem size99 : (CC W).size 99 = some 1 := _root_.id rfl
theorem zero99 : (CC W).zero 99 = (some [.nilfn]) := _root_.id rfl
theorem kind100 : (CC W).kind 100 = .func := _root_.id rfl
theorem size100 : (CC W).size 100 = some 1 := _root_.id rfl
theorem zero100 : (CC W).zero 100 = (some [.nilfn]) := _root_.id rfl
theorem kind101 : (CC W).kind 101 = .func := _root_.id rfl
theorem size101 : (CC W).size 101 = some 1 := _root_.id rfl
theorem zero101 : (CC W).zero 101 = (some [.nilfn]) := _root_.id rfl
theorem kind102 : (CC W).kind 102 = .tuple := _root_.id rfl
theorem size102 : (CC W).size 102 = some 1 := _root_.id rfl
theorem kind103 : (CC W).kind 103 = .func := _root_.id rfl
theorem size103 : (CC W).size 103 = some 1 := _root_.id rfl
theorem zero103 : (CC W).zero 103 = (some [.nilfn]) := _root_.id rfl
theorem kind104 : (CC W).kind 104 = .func := _root_.id rfl
theorem size104 : (CC W).size 104 = some 1 := _root_.id rfl
theorem zero104 : (CC W).zero 104 = (some [.nilfn]) := _root_.id rfl
theorem kind105 : (CC W).kind 105 = .tuple := _root_.id rfl
theorem size105 : (CC W).size 105 = some 1 := _root_.id rfl
theorem kind106 : (CC W).kind 106 = .func := _root_.id rfl
theorem size106 : (CC W).size 106 = some 1 := _root_.id rfl
theorem zero106 : (CC W).zero 106 = (some [.nilfn]) := _root_.id rfl
theorem kind107 : (CC W).kind 107 = .tuple := _root_.id rfl
theorem size107 : (CC W).size 107 = some 1 := _root_.id rfl
theorem kind108 : (CC W).kind 108 = .func := _root_.id rfl
theorem size108 : (CC W).size 108 = some 1 := _root_.id rfl
theorem zero108 : (CC W).zero 108 = (some [.nilfn]) := _root_.id rfl
theorem kind109 : (CC W).kind 109 = .slice 114 := _root_.id rfl
theorem size109 : (CC W).size 109 = some 1 := _root_.id rfl
theorem zero109 : (CC W).zero 109 = (some [.sl none 0 0 none]) := _root_.id rfl
theorem kind110 : (CC W).kind 110 = .tuple := _root_.id rfl
theorem size110 : (CC W).size 110 = some 1 := _root_.id rfl
theorem kind111 : (CC W).kind 111 = .func := _root_.id rfl
theorem size111 : (CC W).size 111 = some 1 := _root_.id rfl
theorem zero111 : (CC W).zero 111 = (some [.nilfn]) := _root_.id rfl
theorem kind112 : (CC W).kind 112 = .func := _root_.id rfl
theorem size112 : (CC W).size 112 = some 1 := _root_.id rfl
theorem zero112 : (CC W).zero 112 = (some [.nilfn]) := _root_.id rfl
theorem kind113 : (CC W).kind 113 = .array 32 5 := _root_.id rfl
theorem size113 : (CC W).size 113 = some 32 := _root_.id rfl
theorem kind114 : (CC W).kind 114 = .array 32 5 := _root_.id rfl
theorem size114 : (CC W).size 114 = some 32 := _root_.id rfl
theorem kind115 : (CC W).kind 115 = .func := _root_.id rfl
theorem size115 : (CC W).size 115 = some 1 := _root_.id rfl
theorem zero115 : (CC W).zero 115 = (some [.nilfn]) := _root_.id rfl
theorem kind116 : (CC W).kind 116 = .int .u64 := _root_.id rfl
theorem size116 : (CC W).size 116 = some 1 := _root_.id rfl
theorem zero116 : (CC W).zero 116 = (some [.int .u64 0]) := _root_.id rfl
theorem kind117 : (CC W).kind 117 = .tuple := _root_.id rfl
theorem size117 : (CC W).size 117 = some 1 := _root_.id rfl
theorem kind118 : (CC W).kind 118 = .func := _root_.id rfl
theorem size118 : (CC W).size 118 = some 1 := _root_.id rfl
theorem zero118 : (CC W).zero 118 = (some [.nilfn]) := _root_.id rfl
theorem kind119 : (CC W).kind 119 = .tuple := _root_.id rfl
theorem size119 : (CC W).size 119 = some 1 := _root_.id rfl
theorem kind120 : (CC W).kind 120 = .func := _root_.id rfl
theorem size120 : (CC W).size 120 = some 1 := _root_.id rfl
theorem zero120 : (CC W).zero 120 = (some [.nilfn]) := _root_.id rfl
theorem kind121 : (CC W).kind 121 = .func := _root_.id rfl
theorem size121 : (CC W).size 121 = some 1 := _root_.id rfl
theorem zero121 : (CC W).zero 121 = (some [.nilfn]) := _root_.id rfl
theorem kind122 : (CC W).kind 122 = .func := _root_.id rfl
theorem size122 : (CC W).size 122 = some 1 := _root_.id rfl
theorem zero122 : (CC W).zero 122 = (some [.nilfn]) := _root_.id rfl
theorem kind123 : (CC W).kind 123 = .func := _root_.id rfl
theorem size123 : (CC W).size 123 = some 1 := _root_.id rfl
theorem zero123 : (CC W).zero 123 = (some [.nilfn]) := _root_.id rfl
theorem kind124 : (CC W).kind 124 = .func := _root_.id rfl
theorem size124 : (CC W).size 124 = some 1 := _root_.id rfl
theorem zero124 : (CC W).zero 124 = (some [.nilfn]) := _root_.id rfl
theorem kind125 : (CC W).kind 125 = .func := _root_.id rfl
theorem size125 : (CC W).size 125 = some 1 := _root_.id rfl
theorem zero125 : (CC W).zero 125 = (some [.nilfn]) := _root_.id rfl
theorem kind126 : (CC W).kind 126 = .func := _root_.id rfl
theorem size126 : (CC W).size 126 = some 1 := _root_.id rfl
theorem zero126 : (CC W).zero 126 = (some [.nilfn]) := _root_.id rfl
theorem kind127 : (CC W).kind 127 = .func := _root_.id rfl
theorem size127 : (CC W).size 127 = some 1 := _root_.id rfl
theorem zero127 : (CC W).zero 127 = (some [.nilfn]) := _root_.id rfl
theorem kind128 : (CC W).kind 128 = .func := _root_.id rfl
theorem size128 : (CC W).size 128 = some 1 := _root_.id rfl
theorem zero128 : (CC W).zero 128 = (some [.nilfn]) := _root_.id rfl
theorem kind129 : (CC W).kind 129 = .ptr 3 := _root_.id rfl
theorem size129 : (CC W).size 129 = some 1 := _root_.id rfl
theorem zero129 : (CC W).zero 129 = (some [.ptr none]) := _root_.id rfl
theorem kind130 : (CC W).kind 130 = .func := _root_.id rfl
theorem size130 : (CC W).size 130 = some 1 := _root_.id rfl
theorem zero130 : (CC W).zero 130 = (some [.nilfn]) := _root_.id rfl
theorem kind131 : (CC W).kind 131 = .func := _root_.id rfl
theorem size131 : (CC W).size 131 = some 1 := _root_.id rfl
theorem zero131 : (CC W).zero 131 = (some [.nilfn]) := _root_.id rfl
theorem kind132 : (CC W).kind 132 = .func := _root_.id rfl
theorem size132 : (CC W).size 132 = some 1 := _root_.id rfl
theorem zero132 : (CC W).zero 132 = (some [.nilfn]) := _root_.id rfl
theorem kind133 : (CC W).kind 133 = .func := _root_.id rfl
theorem size133 : (CC W).size 133 = some 1 := _root_.id rfl
theorem zero133 : (CC W).zero 133 = (some [.nilfn]) := _root_.id rfl
theorem kind134 : (CC W).kind 134 = .array 2 129 := _root_.id rfl
theorem size134 : (CC W).size 134 = some 2 := _root_.id rfl
theorem zero134 : (CC W).zero 134 = (some [.ptr none, .ptr none]) := _root_.id rfl
theorem kind135 : (CC W).kind 135 = .func := _root_.id rfl
theorem size135 : (CC W).size 135 = some 1 := _root_.id rfl
theorem zero135 : (CC W).zero 135 = (some [.nilfn]) := _root_.id rfl
theorem kind136 : (CC W).kind 136 = .func := _root_.id rfl
theorem size136 : (CC W).size 136 = some 1 := _root_.id rfl
theorem zero136 : (CC W).zero 136 = (some [.nilfn]) := _root_.id rfl
theorem kind137 : (CC W).kind 137 = .func := _root_.id rfl
theorem size137 : (CC W).size 137 = some 1 := _root_.id rfl
theorem zero137 : (CC W).zero 137 = (some [.nilfn]) := _root_.id rfl
theorem kind138 : (CC W).kind 138 = .func := _root_.id rfl
theorem size138 : (CC W).size 138 = some 1 := _root_.id rfl
theorem zero138 : (CC W).zero 138 = (some [.nilfn]) := _root_.id rfl
theorem kind139 : (CC W).kind 139 = .func := _root_.id rfl
theorem size139 : (CC W).size 139 = some 1 := _root_.id rfl
theorem zero139 : (CC W).zero 139 = (some [.nilfn]) := _root_.id rfl
theorem kind140 : (CC W).kind 140 = .func := _root_.id rfl
theorem size140 : (CC W).size 140 = some 1 := _root_.id rfl
theorem zero140 : (CC W).zero 140 = (some [.nilfn]) := _root_.id rfl
theorem kind141 : (CC W).kind 141 = .func := _root_.id rfl
theorem size141 : (CC W).size 141 = some 1 := _root_.id rfl
theorem zero141 : (CC W).zero 141 = (some [.nilfn]) := _root_.id rfl
theorem kind142 : (CC W).kind 142 = .func := _root_.id rfl
theorem size142 : (CC W).size 142 = some 1 := _root_.id rfl
theorem zero142 : (CC W).zero 142 = (some [.nilfn]) := _root_.id rfl
theorem kind143 : (CC W).kind 143 = .func := _root_.id rfl
theorem size143 : (CC W).size 143 = some 1 := _root_.id rfl
theorem zero143 : (CC W).zero 143 = (some [.nilfn]) := _root_.id rfl
theorem kind144 : (CC W).kind 144 = .func := _root_.id rfl
theorem size144 : (CC W).size 144 = some 1 := _root_.id rfl
theorem zero144 : (CC W).zero 144 = (some [.nilfn]) := _root_.id rfl
theorem kind145 : (CC W).kind 145 = .func := _root_.id rfl
theorem size145 : (CC W).size 145 = some 1 := _root_.id rfl
theorem zero145 : (CC W).zero 145 = (some [.nilfn]) := _root_.id rfl
theorem kind146 : (CC W).kind 146 = .func := _root_.id rfl
theorem size146 : (CC W).size 146 = some 1 := _root_.id rfl
theorem zero146 : (CC W).zero 146 = (some [.nilfn]) := _root_.id rfl
theorem kind147 : (CC W).kind 147 = .func := _root_.id rfl
theorem size147 : (CC W).size 147 = some 1 := _root_.id rfl
theorem zero147 : (CC W).zero 147 = (some [.nilfn]) := _root_.id rfl
theorem kind148 : (CC W).kind 148 = .ptr 175 := _root_.id rfl
theorem size148 : (CC W).size 148 = some 1 := _root_.id rfl
theorem zero148 : (CC W).zero 148 = (some [.ptr none]) := _root_.id rfl
theorem kind149 : (CC W).kind 149 = .func := _root_.id rfl
theorem size149 : (CC W).size 149 = some 1 := _root_.id rfl
theorem zero149 : (CC W).zero 149 = (some [.nilfn]) := _root_.id rfl
theorem kind150 : (CC W).kind 150 = .func := _root_.id rfl
theorem size150 : (CC W).size 150 = some 1 := _root_.id rfl
theorem zero150 : (CC W).zero 150 = (some [.nilfn]) := _root_.id rfl
theorem kind151 : (CC W).kind 151 = .ptr 177 := _root_.id rfl
theorem size151 : (CC W).size 151 = some 1 := _root_.id rfl
theorem zero151 : (CC W).zero 151 = (some [.ptr none]) := _root_.id rfl
theorem kind152 : (CC W).kind 152 = .func := _root_.id rfl
theorem size152 : (CC W).size 152 = some 1 := _root_.id rfl
theorem zero152 : (CC W).zero 152 = (some [.nilfn]) := _root_.id rfl
theorem kind153 : (CC W).kind 153 = .func := _root_.id rfl
theorem size153 : (CC W).size 153 = some 1 := _root_.id rfl
theorem zero153 : (CC W).zero 153 = (some [.nilfn]) := _root_.id rfl
theorem kind154 : (CC W).kind 154 = .func := _root_.id rfl
theorem size154 : (CC W).size 154 = some 1 := _root_.id rfl
theorem zero154 : (CC W).zero 154 = (some [.nilfn]) := _root_.id rfl
theorem kind155 : (CC W).kind 155 = .int .i64 := _root_.id rfl
theorem size155 : (CC W).size 155 = some 1 := _root_.id rfl
theorem zero155 : (CC W).zero 155 = (some [.int .i64 0]) := _root_.id rfl
theorem kind156 : (CC W).kind 156 = .tuple := _root_.id rfl
theorem size156 : (CC W).size 156 = some 1 := _root_.id rfl
theorem kind157 : (CC W).kind 157 = .func := _root_.id rfl
theorem size157 : (CC W).size 157 = some 1 := _root_.id rfl
theorem zero157 : (CC W).zero 157 = (some [.nilfn]) := _root_.id rfl
theorem kind158 : (CC W).kind 158 = .func := _root_.id rfl
theorem size158 : (CC W).size 158 = some 1 := _root_.id rfl
theorem zero158 : (CC W).zero 158 = (some [.nilfn]) := _root_.id rfl
theorem kind159 : (CC W).kind 159 = .func := _root_.id rfl
theorem size159 : (CC W).size 159 = some 1 := _root_.id rfl
theorem zero159 : (CC W).zero 159 = (some [.nilfn]) := _root_.id rfl
theorem kind160 : (CC W).kind 160 = .tuple := _root_.id rfl
theorem size160 : (CC W).size 160 = some 1 := _root_.id rfl
theorem kind161 : (CC W).kind 161 = .func := _root_.id rfl
theorem size161 : (CC W).size 161 = some 1 := _root_.id rfl
theorem zero161 : (CC W).zero 161 = (some [.nilfn]) := _root_.id rfl
theorem kind162 : (CC W).kind 162 = .func := _root_.id rfl
theorem size162 : (CC W).size 162 = some 1 := _root_.id rfl
theorem zero162 : (CC W).zero 162 = (some [.nilfn]) := _root_.id rfl
theorem kind163 : (CC W).kind 163 = .int .u32 := _root_.id rfl
theorem size163 : (CC W).size 163 = some 1 := _root_.id rfl
theorem zero163 : (CC W).zero 163 = (some [.int .u32 0]) := _root_.id rfl
theorem kind164 : (CC W).kind 164 = .func := _root_.id rfl
theorem size164 : (CC W).size 164 = some 1 := _root_.id rfl
theorem zero164 : (CC W).zero 164 = (some [.nilfn]) := _root_.id rfl
theorem kind165 : (CC W).kind 165 = .int .u64 := _root_.id rfl
theorem size165 : (CC W).size 165 = some 1 := _root_.id rfl
theorem zero165 : (CC W).zero 165 = (some [.int .u64 0]) := _root_.id rfl
theorem kind166 : (CC W).kind 166 = .func := _root_.id rfl
theorem size166 : (CC W).size 166 = some 1 := _root_.id rfl
theorem zero166 : (CC W).zero 166 = (some [.nilfn]) := _root_.id rfl
theorem kind167 : (CC W).kind 167 = .func := _root_.id rfl
theorem size167 : (CC W).size 167 = some 1 := _root_.id rfl
theorem zero167 : (CC W).zero 167 = (some [.nilfn]) := _root_.id rfl
theorem kind168 : (CC W).kind 168 = .func := _root_.id rfl
theorem size168 : (CC W).size 168 = some 1 := _root_.id rfl
theorem zero168 : (CC W).zero 168 = (some [.nilfn]) := _root_.id rfl
theorem kind169 : (CC W).kind 169 = .func := _root_.id rfl
theorem size169 : (CC W).size 169 = some 1 := _root_.id rfl
theorem zero169 : (CC W).zero 169 = (some [.nilfn]) := _root_.id rfl
theorem kind170 : (CC W).kind 170 = .func := _root_.id rfl
theorem size170 : (CC W).size 170 = some 1 := _root_.id rfl
theorem zero170 : (CC W).zero 170 = (some [.nilfn]) := _root_.id rfl
theorem kind171 : (CC W).kind 171 = .func := _root_.id rfl
theorem size171 : (CC W).size 171 = some 1 := _root_.id rfl
theorem zero171 : (CC W).zero 171 = (some [.nilfn]) := _root_.id rfl
theorem kind172 : (CC W).kind 172 = .tuple := _root_.id rfl
theorem size172 : (CC W).size 172 = some 1 := _root_.id rfl
theorem kind173 : (CC W).kind 173 = .func := _root_.id rfl
theorem size173 : (CC W).size 173 = some 1 := _root_.id rfl
theorem zero173 : (CC W).zero 173 = (some [.nilfn]) := _root_.id rfl
theorem kind174 : (CC W).kind 174 = .struct [(0, 45)] true := _root_.id rfl
theorem size174 : (CC W).size 174 = some 1 := _root_.id rfl
theorem zero174 : (CC W).zero 174 = (some [.sl none 0 0 none]) := _root_.id rfl
theorem kind175 : (CC W).kind 175 = .struct [(0, 45)] true := _root_.id rfl
theorem size175 : (CC W).size 175 = some 1 := _root_.id rfl
theorem zero175 : (CC W).zero 175 = (some [.sl none 0 0 none]) := _root_.id rfl
theorem kind176 : (CC W).kind 176 = .struct [(0, 9), (1, 27)] true := _root_.id rfl
theorem size176 : (CC W).size 176 = some 2 := _root_.id rfl
theorem zero176 : (CC W).zero 176 = (some [.str [], .int .i64 0]) := _root_.id rfl
theorem kind177 : (CC W).kind 177 = .struct [(0, 9), (1, 27)] true := _root_.id rfl
theorem size177 : (CC W).size 177 = some 2 := _root_.id rfl
theorem zero177 : (CC W).zero 177 = (some [.str [], .int .i64 0]) := _root_.id rfl
theorem kind178 : (CC W).kind 178 = .func := _root_.id rfl
theorem size178 : (CC W).size 178 = some 1 := _root_.id rfl
theorem zero178 : (CC W).zero 178 = (some [.nilfn]) := _root_.id rfl
theorem kind179 : (CC W).kind 179 = .func := _root_.id rfl
theorem size179 : (CC W).size 179 = some 1 := _root_.id rfl
theorem zero179 : (CC W).zero 179 = (some [.nilfn]) := _root_.id rfl
theorem kind180 : (CC W).kind 180 = .int .u64 := _root_.id rfl
theorem size180 : (CC W).size 180 = some 1 := _root_.id rfl
theorem zero180 : (CC W).zero 180 = (some [.int .u64 0]) := _root_.id rfl
theorem kind181 : (CC W).kind 181 = .func := _root_.id rfl
theorem size181 : (CC W).size 181 = some 1 := _root_.id rfl
theorem zero181 : (CC W).zero 181 = (some [.nilfn]) := _root_.id rfl
theorem kind182 : (CC W).kind 182 = .func := _root_.id rfl
theorem size182 : (CC W).size 182 = some 1 := _root_.id rfl
theorem zero182 : (CC W).zero 182 = (some [.nilfn]) := _root_.id rfl
theorem kind183 : (CC W).kind 183 = .func := _root_.id rfl
theorem size183 : (CC W).size 183 = some 1 := _root_.id rfl
theorem zero183 : (CC W).zero 183 = (some [.nilfn]) := _root_.id rfl
theorem kind184 : (CC W).kind 184 = .func := _root_.id rfl
theorem size184 : (CC W).size 184 = some 1 := _root_.id rfl
theorem zero184 : (CC W).zero 184 = (some [.nilfn]) := _root_.id rfl
theorem kind185 : (CC W).kind 185 = .func := _root_.id rfl
theorem size185 : (CC W).size 185 = some 1 := _root_.id rfl
theorem zero185 : (CC W).zero 185 = (some [.nilfn]) := _root_.id rfl
theorem kind186 : (CC W).kind 186 = .func := _root_.id rfl
theorem size186 : (CC W).size 186 = some 1 := _root_.id rfl
theorem zero186 : (CC W).zero 186 = (some [.nilfn]) := _root_.id rfl
theorem kind187 : (CC W).kind 187 = .func := _root_.id rfl
theorem size187 : (CC W).size 187 = some 1 := _root_.id rfl
theorem zero187 : (CC W).zero 187 = (some [.nilfn]) := _root_.id rfl
theorem kind188 : (CC W).kind 188 = .ptr 180 := _root_.id rfl
theorem size188 : (CC W).size 188 = some 1 := _root_.id rfl
theorem zero188 : (CC W).zero 188 = (some [.ptr none]) := _root_.id rfl
theorem kind189 : (CC W).kind 189 = .func := _root_.id rfl
theorem size189 : (CC W).size 189 = some 1 := _root_.id rfl
theorem zero189 : (CC W).zero 189 = (some [.nilfn]) := _root_.id rfl
theorem kind190 : (CC W).kind 190 = .func := _root_.id rfl
theorem size190 : (CC W).size 190 = some 1 := _root_.id rfl
theorem zero190 : (CC W).zero 190 = (some [.nilfn]) := _root_.id rfl
theorem kind191 : (CC W).kind 191 = .struct [(0, 17), (1, 17), (2, 17), (3, 9)] false := _root_.id rfl
theorem size191 : (CC W).size 191 = some 4 := _root_.id rfl
theorem zero191 : (CC W).zero 191 = (some [.ptr none, .ptr none, .ptr none, .str []]) := _root_.id rfl
theorem kind192 : (CC W).kind 192 = .struct [(0, 17), (1, 17), (2, 17), (3, 9)] false := _root_.id rfl
theorem size192 : (CC W).size 192 = some 4 := _root_.id rfl
theorem zero192 : (CC W).zero 192 = (some [.ptr none, .ptr none, .ptr none, .str []]) := _root_.id rfl
theorem kind193 : (CC W).kind 193 = .array 0 16 := _root_.id rfl
theorem size193 : (CC W).size 193 = some 0 := _root_.id rfl
theorem zero193 : (CC W).zero 193 = (some []) := _root_.id rfl
theorem kind194 : (CC W).kind 194 = .struct [(0, 193)] false := _root_.id rfl
theorem size194 : (CC W).size 194 = some 0 := _root_.id rfl
theorem zero194 : (CC W).zero 194 = (some []) := _root_.id rfl
theorem kind195 : (CC W).kind 195 = .struct [(0, 193)] false := _root_.id rfl
theorem size195 : (CC W).size 195 = some 0 := _root_.id rfl
theorem zero195 : (CC W).zero 195 = (some []) := _root_.id rfl
theorem kind196 : (CC W).kind 196 = .int .u8 := _root_.id rfl
theorem size196 : (CC W).size 196 = some 1 := _root_.id rfl
theorem zero196 : (CC W).zero 196 = (some [.int .u8 0]) := _root_.id rfl
theorem kind197 : (CC W).kind 197 = .int .u8 := _root_.id rfl
theorem size197 : (CC W).size 197 = some 1 := _root_.id rfl
theorem zero197 : (CC W).zero 197 = (some [.int .u8 0]) := _root_.id rfl
theorem kind198 : (CC W).kind 198 = .func := _root_.id rfl
theorem size198 : (CC W).size 198 = some 1 := _root_.id rfl
theorem zero198 : (CC W).zero 198 = (some [.nilfn]) := _root_.id rfl
theorem kind199 : (CC W).kind 199 = .ptr 5 := _root_.id rfl
theorem size199 : (CC W).size 199 = some 1 := _root_.id rfl
theorem zero199 : (CC W).zero 199 = (some [.ptr none]) := _root_.id rfl
theorem kind200 : (CC W).kind 200 = .int .i32 := _root_.id rfl
theorem size200 : (CC W).size 200 = some 1 := _root_.id rfl
theorem zero200 : (CC W).zero 200 = (some [.int .i32 0]) := _root_.id rfl
theorem kind201 : (CC W).kind 201 = .int .i32 := _root_.id rfl
theorem size201 : (CC W).size 201 = some 1 := _root_.id rfl
theorem zero201 : (CC W).zero 201 = (some [.int .i32 0]) := _root_.id rfl
theorem kind202 : (CC W).kind 202 = .struct [(0, 12), (1, 12), (2, 163), (3, 196), (4, 5), (5, 5), (6, 197), (7, 198), (8, 199), (9, 200), (10, 201)] false := _root_.id rfl
theorem size202 : (CC W).size 202 = some 11 := _root_.id rfl
theorem zero202 : (CC W).zero 202 = (some [.int .u64 0, .int .u64 0, .int .u32 0, .int .u8 0, .int .u8 0, .int .u8 0, .int .u8 0, .nilfn, .ptr none, .int .i32 0, .int .i32 0]) := _root_.id rfl
theorem kind203 : (CC W).kind 203 = .struct [(0, 12), (1, 12), (2, 163), (3, 196), (4, 5), (5, 5), (6, 197), (7, 198), (8, 199), (9, 200), (10, 201)] false := _root_.id rfl
theorem size203 : (CC W).size 203 = some 11 := _root_.id rfl
theorem zero203 : (CC W).zero 203 = (some [.int .u64 0, .int .u64 0, .int .u32 0, .int .u8 0, .int .u8 0, .int .u8 0, .int .u8 0, .nilfn, .ptr none, .int .i32 0, .int .i32 0]) := _root_.id rfl
theorem kind204 : (CC W).kind 204 = .uptr := _root_.id rfl
theorem size204 : (CC W).size 204 = some 1 := _root_.id rfl
theorem zero204 : (CC W).zero 204 = (some [.ptr none]) := _root_.id rfl
theorem fn2 : (CC W).fn 2 = some Try.f2 := _root_.id rfl
theorem fn3 : (CC W).fn 3 = some Try.f3 := _root_.id rfl
theorem fn4 : (CC W).fn 4 = some Try.f4 := _root_.id rfl
theorem fn5 : (CC W).fn 5 = some Try.f5 := _root_.id rfl
theorem fn6 : (CC W).fn 6 = some Try.f6 := _root_.id rfl
theorem fn7 : (CC W).fn 7 = some Try.f7 := _root_.id rfl
theorem fn8 : (CC W).fn 8 = some Try.f8 := _root_.id rfl
theorem fn9 : (CC W).fn 9 = some Try.f9 := _root_.id rfl
theorem fn10 : (CC W).fn 10 = some Try.f10 := _root_.id rfl
theorem fn11 : (CC W).fn 11 = some Try.f11 := _root_.id rfl
theorem fn12 : (CC W).fn 12 = some Try.f12 := _root_.id rfl
theorem fn13 : (CC W).fn 13 = some Try.f13 := _root_.id rfl
theorem fn14 : (CC W).fn 14 = some Try.f14 := _root_.id rfl
theorem fn15 : (CC W).fn 15 = some Try.f15 := _root_.id rfl
theorem fn16 : (CC W).fn 16 = some Try.f16 := _root_.id rfl
theorem fn17 : (CC W).fn 17 = some Try.f17 := _root_.id rfl
theorem fn18 : (CC W).fn 18 = some Try.f18 := _root_.id rfl
theorem fn19 : (CC W).fn 19 = some Try.f19 := _root_.id rfl
theorem fn20 : (CC W).fn 20 = some Try.f20 := _root_.id rfl
theorem fn21 : (CC W).fn 21 = some Try.f21 := _root_.id rfl
theorem fn22 : (CC W).fn 22 = some Try.f22 := _root_.id rfl
theorem fn23 : (CC W).fn 23 = some Try.f23 := _root_.id rfl
theorem fn24 : (CC W).fn 24 = some Try.f24 := _root_.id rfl
theorem fn25 : (CC W).fn 25 = some Try.f25 := _root_.id rfl
theorem fn26 : (CC W).fn 26 = some Try.f26 := _root_.id rfl
theorem fn27 : (CC W).fn 27 = some Try.f27 := _root_.id rfl
theorem fn28 : (CC W).fn 28 = some Try.f28 := _root_.id rfl
theorem fn29 : (CC W).fn 29 = some Try.f29 := _root_.id rfl
theorem fn30 : (CC W).fn 30 = some Try.f30 := _root_.id rfl
theorem fn31 : (CC W).fn 31 = some Try.f31 := _root_.id rfl
theorem fn32 : (CC W).fn 32 = some Try.f32 := _root_.id rfl
theorem fn33 : (CC W).fn 33 = some Try.f33 := _root_.id rfl
theorem fn34 : (CC W).fn 34 = some Try.f34 := _root_.id rfl
theorem fn35 : (CC W).fn 35 = some Try.f35 := _root_.id rfl
theorem fn36 : (CC W).fn 36 = some Try.f36 := _root_.id rfl
theorem fn37 : (CC W).fn 37 = some Try.f37 := _root_.id rfl
theorem fn38 : (CC W).fn 38 = some Try.f38 := _root_.id rfl
theorem fn39 : (CC W).fn 39 = some Try.f39 := _root_.id rfl
theorem fn40 : (CC W).fn 40 = some Try.f40 := _root_.id rfl
theorem fn41 : (CC W).fn 41 = some Try.f41 := _root_.id rfl
theorem fn42 : (CC W).fn 42 = some Try.f42 := _root_.id rfl
theorem fn43 : (CC W).fn 43 = some Try.f43 := _root_.id rfl
theorem fn44 : (CC W).fn 44 = some Try.f44 := _root_.id rfl
theorem fn45 : (CC W).fn 45 = some Try.f45 := _root_.id rfl
theorem fn46 : (CC W).fn 46 = some Try.f46 := _root_.id rfl
theorem fn47 : (CC W).fn 47 = some Try.f47 := _root_.id rfl
theorem fn48 : (CC W).fn 48 = some Try.f48 := _root_.id rfl
theorem fn49 : (CC W).fn 49 = some Try.f49 := _root_.id rfl
theorem fn50 : (CC W).fn 50 = some Try.f50 := _root_.id rfl
theorem fn51 : (CC W).fn 51 = some Try.f51 := _root_.id rfl
theorem fn52 : (CC W).fn 52 = some Try.f52 := _root_.id rfl
theorem fn53 : (CC W).fn 53 = some Try.f53 := _root_.id rfl
theorem fn54 : (CC W).fn 54 = some Try.f54 := _root_.id rfl
theorem fn55 : (CC W).fn 55 = some Try.f55 := _root_.id rfl
theorem fn56 : (CC W).fn 56 = some Try.f56 := _root_.id rfl
theorem fn57 : (CC W).fn 57 = some Try.f57 := _root_.id rfl
theorem fn58 : (CC W).fn 58 = some Try.f58 := _root_.id rfl
theorem fn59 : (CC W).fn 59 = some Try.f59 := _root_.id rfl
theorem fn60 : (CC W).fn 60 = some Try.f60 := _root_.id rfl
theorem fn61 : (CC W).fn 61 = some Try.f61 := _root_.id rfl
theorem fn62 : (CC W).fn 62 = some Try.f62 := _root_.id rfl
theorem fn63 : (CC W).fn 63 = some Try.f63 := _root_.id rfl
theorem fn64 : (CC W).fn 64 = some Try.f64 := _root_.id rfl
theorem fn65 : (CC W).fn 65 = some Try.f65 := _root_.id rfl
theorem fn66 : (CC W).fn 66 = some Try.f66 := _root_.id rfl
theorem fn67 : (CC W).fn 67 = some Try.f67 := _root_.id rfl
theorem fn68 : (CC W).fn 68 = some Try.f68 := _root_.id rfl
theorem fn70 : (CC W).fn 70 = some Try.f70 := _root_.id rfl
theorem fn71 : (CC W).fn 71 = some Try.f71 := _root_.id rfl
theorem fn72 : (CC W).fn 72 = some Try.f72 := _root_.id rfl
theorem fn73 : (CC W).fn 73 = some Try.f73 := _root_.id rfl
theorem fn74 : (CC W).fn 74 = some Try.f74 := _root_.id rfl
theorem fn75 : (CC W).fn 75 = some Try.f75 := _root_.id rfl
theorem fn76 : (CC W).fn 76 = some Try.f76 := _root_.id rfl
theorem fn77 : (CC W).fn 77 = some Try.f77 := _root_.id rfl
theorem fn78 : (CC W).fn 78 = some Try.f78 := _root_.id rfl
theorem fn79 : (CC W).fn 79 = some Try.f79 := _root_.id rfl
theorem fn80 : (CC W).fn 80 = some Try.f80 := _root_.id rfl
theorem fn81 : (CC W).fn 81 = some Try.f81 := _root_.id rfl
theorem fn82 : (CC W).fn 82 = some Try.f82 := _root_.id rfl
theorem fn83 : (CC W).fn 83 = some Try.f83 := _root_.id rfl
theorem fn84 : (CC W).fn 84 = some Try.f84 := _root_.id rfl
theorem fn85 : (CC W).fn 85 = some Try.f85 := _root_.id rfl
theorem fn86 : (CC W).fn 86 = some Try.f86 := _root_.id rfl
theorem fn87 : (CC W).fn 87 = some Try.f87 := _root_.id rfl
theorem fn88 : (CC W).fn 88 = some Try.f88 := _root_.id rfl
theorem fn89 : (CC W).fn 89 = some Try.f89 := _root_.id rfl
theorem fn90 : (CC W).fn 90 = some Try.f90 := _root_.id rfl
theorem fn91 : (CC W).fn 91 = some Try.f91 := _root_.id rfl
theorem fn92 : (CC W).fn 92 = some Try.f92 := _root_.id rfl
theorem fn93 : (CC W).fn 93 = some Try.f93 := _root_.id rfl
theorem fn94 : (CC W).fn 94 = some Try.f94 := _root_.id rfl
theorem fn95 : (CC W).fn 95 = some Try.f95 := _root_.id rfl
theorem fn96 : (CC W).fn 96 = some Try.f96 := _root_.id rfl
theorem fn97 : (CC W).fn 97 = some Try.f97 := _root_.id rfl
theorem fn98 : (CC W).fn 98 = some Try.f98 := _root_.id rfl
theorem fn99 : (CC W).fn 99 = some Try.f99 := _root_.id rfl
theorem fn100 : (CC W).fn 100 = some Try.f100 := _root_.id rfl
theorem fn101 : (CC W).fn 101 = some Try.f101 := _root_.id rfl
theorem fn102 : (CC W).fn 102 = some Try.f102 := _root_.id rfl
theorem fn103 : (CC W).fn 103 = some Try.f103 := _root_.id rfl
theorem fn104 : (CC W).fn 104 = some Try.f104 := _root_.id rfl
theorem fn105 : (CC W).fn 105 = some Try.f105 := _root_.id rfl
theorem fn106 : (CC W).fn 106 = some Try.f106 := _root_.id rfl
theorem fn107 : (CC W).fn 107 = some Try.f107 := _root_.id rfl
theorem fn108 : (CC W).fn 108 = some Try.f108 := _root_.id rfl
theorem fn109 : (CC W).fn 109 = some Try.f109 := _root_.id rfl
theorem fn111 : (CC W).fn 111 = some Try.f111 := _root_.id rfl
theorem fn112 : (CC W).fn 112 = some Try.f112 := _root_.id rfl
theorem fn113 : (CC W).fn 113 = some Try.f113 := _root_.id rfl
theorem fn114 : (CC W).fn 114 = some Try.f114 := _root_.id rfl
theorem fn115 : (CC W).fn 115 = some Try.f115 := _root_.id rfl
theorem fn116 : (CC W).fn 116 = some Try.f116 := _root_.id rfl
theorem fn117 : (CC W).fn 117 = some Try.f117 := _root_.id rfl
theorem fn118 : (CC W).fn 118 = some Try.f118 := _root_.id rfl
theorem fn119 : (CC W).fn 119 = some Try.f119 := _root_.id rfl
theorem fn120 : (CC W).fn 120 = some Try.f120 := _root_.id rfl
theorem fn121 : (CC W).fn 121 = some Try.f121 := _root_.id rfl
theorem fn122 : (CC W).fn 122 = some Try.f122 := _root_.id rfl
theorem fn123 : (CC W).fn 123 = some Try.f123 := _root_.id rfl
theorem fn124 : (CC W).fn 124 = some Try.f124 := _root_.id rfl
theorem fn125 : (CC W).fn 125 = some Try.f125 := _root_.id rfl
theorem fn126 : (CC W).fn 126 = some Try.f126 := _root_.id rfl
theorem fn127 : (CC W).fn 127 = some Try.f127 := _root_.id rfl
theorem fn128 : (CC W).fn 128 = some Try.f128 := _root_.id rfl
theorem fn129 : (CC W).fn 129 = some Try.f129 := _root_.id rfl
theorem fn130 : (CC W).fn 130 = some Try.f130 := _root_.id rfl
theorem fn131 : (CC W).fn 131 = some Try.f131 := _root_.id rfl
theorem fn132 : (CC W).fn 132 = some Try.f132 := _root_.id rfl
theorem fn133 : (CC W).fn 133 = some Try.f133 := _root_.id rfl
theorem fn134 : (CC W).fn 134 = some Try.f134 := _root_.id rfl
theorem fn135 : (CC W).fn 135 = some Try.f135 := _root_.id rfl
theorem fn136 : (CC W).fn 136 = some Try.f136 := _root_.id rfl
theorem fn137 : (CC W).fn 137 = some Try.f137 := _root_.id rfl
end
end Go.Proofs.Ytgcoipcnhmkeaaa.Ax
