/- The tables of the program, for AX: what its types are, which of its functions have a body. -/
import Derived.Test.YtoioomplhebadaaProg
import Derived.Test.YtoioomplhebadaaAx22
set_option linter.unusedVariables false
set_option linter.unusedSimpArgs false
namespace Go.Proofs.Ytoioomplhebadaa.Ax
open Go.RowKit
def T0 : ATy := ⟨.tuple, 1, 0, none⟩
def T1 : ATy := ⟨.func, 1, 8, (some [.nilfn])⟩
def T2 : ATy := ⟨.int .i64, 1, 8, (some [.int .i64 0])⟩
def T3 : ATy := ⟨.int .i64, 1, 8, (some [.int .i64 0])⟩
def T4 : ATy := ⟨.bool, 1, 1, (some [.bool false])⟩
def T5 : ATy := ⟨.int .u8, 1, 1, (some [.int .u8 0])⟩
def T6 : ATy := ⟨.int .u8, 1, 1, (some [.int .u8 0])⟩
def T7 : ATy := ⟨.struct [(0, 2), (1, 3), (2, 4), (3, 6)] true, 4, 24, (some [.int .i64 0, .int .i64 0, .bool false, .int .u8 0])⟩
def T8 : ATy := ⟨.struct [(0, 2), (1, 3), (2, 4), (3, 6)] true, 4, 24, (some [.int .i64 0, .int .i64 0, .bool false, .int .u8 0])⟩
def T9 : ATy := ⟨.str, 1, 16, (some [.str []])⟩
def T10 : ATy := ⟨.str, 1, 16, (some [.str []])⟩
def T11 : ATy := ⟨.str, 1, 16, (some [.str []])⟩
def T12 : ATy := ⟨.int .u64, 1, 8, (some [.int .u64 0])⟩
def T13 : ATy := ⟨.struct [(0, 9), (1, 12)] false, 2, 24, (some [.str [], .int .u64 0])⟩
def T14 : ATy := ⟨.struct [(0, 9), (1, 12)] false, 2, 24, (some [.str [], .int .u64 0])⟩
def T15 : ATy := ⟨.ptr 51, 1, 8, (some [.ptr none])⟩
def T16 : ATy := ⟨.ptr 54, 1, 8, (some [.ptr none])⟩
def T17 : ATy := ⟨.ptr 64, 1, 8, (some [.ptr none])⟩
def T18 : ATy := ⟨.struct [(0, 17)] false, 1, 8, (some [.ptr none])⟩
def T19 : ATy := ⟨.struct [(0, 17)] false, 1, 8, (some [.ptr none])⟩
def T20 : ATy := ⟨.iface true, 1, 16, (some [.nilifc])⟩
def T21 : ATy := ⟨.int .i32, 1, 4, (some [.int .i32 0])⟩
def T22 : ATy := ⟨.int .i64, 1, 8, (some [.int .i64 0])⟩
def T23 : ATy := ⟨.tuple, 1, 0, none⟩
def T24 : ATy := ⟨.func, 1, 8, (some [.nilfn])⟩
def T25 : ATy := ⟨.tuple, 1, 0, none⟩
def T26 : ATy := ⟨.func, 1, 8, (some [.nilfn])⟩
def T27 : ATy := ⟨.tuple, 1, 0, none⟩
def T28 : ATy := ⟨.func, 1, 8, (some [.nilfn])⟩
def T29 : ATy := ⟨.tuple, 1, 0, none⟩
def T30 : ATy := ⟨.func, 1, 8, (some [.nilfn])⟩
def T31 : ATy := ⟨.func, 1, 8, (some [.nilfn])⟩
def T32 : ATy := ⟨.func, 1, 8, (some [.nilfn])⟩
def T33 : ATy := ⟨.struct [(0, 3), (1, 3), (2, 3)] true, 3, 24, (some [.int .i64 0, .int .i64 0, .int .i64 0])⟩
def T34 : ATy := ⟨.struct [(0, 3), (1, 3), (2, 3)] true, 3, 24, (some [.int .i64 0, .int .i64 0, .int .i64 0])⟩
def T35 : ATy := ⟨.tuple, 1, 0, none⟩
def T36 : ATy := ⟨.func, 1, 8, (some [.nilfn])⟩
def T37 : ATy := ⟨.tuple, 1, 0, none⟩
def T38 : ATy := ⟨.func, 1, 8, (some [.nilfn])⟩
def T39 : ATy := ⟨.func, 1, 8, (some [.nilfn])⟩
def T40 : ATy := ⟨.func, 1, 8, (some [.nilfn])⟩
def T41 : ATy := ⟨.func, 1, 8, (some [.nilfn])⟩
def T42 : ATy := ⟨.func, 1, 8, (some [.nilfn])⟩
def T43 : ATy := ⟨.func, 1, 8, (some [.nilfn])⟩
def T44 : ATy := ⟨.func, 1, 8, (some [.nilfn])⟩
def T45 : ATy := ⟨.slice 5, 1, 24, (some [.sl none 0 0 none])⟩
def T46 : ATy := ⟨.int .u64, 1, 8, (some [.int .u64 0])⟩
def T47 : ATy := ⟨.func, 1, 8, (some [.nilfn])⟩
def T48 : ATy := ⟨.func, 1, 8, (some [.nilfn])⟩
def T49 : ATy := ⟨.func, 1, 8, (some [.nilfn])⟩
def T50 : ATy := ⟨.struct [(0, 17), (1, 17), (2, 17), (3, 9)] false, 4, 40, (some [.ptr none, .ptr none, .ptr none, .str []])⟩
def T51 : ATy := ⟨.struct [(0, 17), (1, 17), (2, 17), (3, 9)] false, 4, 40, (some [.ptr none, .ptr none, .ptr none, .str []])⟩
def T52 : ATy := ⟨.array 0 16, 0, 0, (some [])⟩
def T53 : ATy := ⟨.struct [(0, 52)] false, 0, 0, (some [])⟩
def T54 : ATy := ⟨.struct [(0, 52)] false, 0, 0, (some [])⟩
def T55 : ATy := ⟨.func, 1, 8, (some [.nilfn])⟩
def T56 : ATy := ⟨.int .u32, 1, 4, (some [.int .u32 0])⟩
def T57 : ATy := ⟨.int .u8, 1, 1, (some [.int .u8 0])⟩
def T58 : ATy := ⟨.int .u8, 1, 1, (some [.int .u8 0])⟩
def T59 : ATy := ⟨.func, 1, 8, (some [.nilfn])⟩
def T60 : ATy := ⟨.ptr 5, 1, 8, (some [.ptr none])⟩
def T61 : ATy := ⟨.int .i32, 1, 4, (some [.int .i32 0])⟩
def T62 : ATy := ⟨.int .i32, 1, 4, (some [.int .i32 0])⟩
def T63 : ATy := ⟨.struct [(0, 12), (1, 12), (2, 56), (3, 57), (4, 5), (5, 5), (6, 58), (7, 59), (8, 60), (9, 61), (10, 62)] false, 11, 48, (some [.int .u64 0, .int .u64 0, .int .u32 0, .int .u8 0, .int .u8 0, .int .u8 0, .int .u8 0, .nilfn, .ptr none, .int .i32 0, .int .i32 0])⟩
def T64 : ATy := ⟨.struct [(0, 12), (1, 12), (2, 56), (3, 57), (4, 5), (5, 5), (6, 58), (7, 59), (8, 60), (9, 61), (10, 62)] false, 11, 48, (some [.int .u64 0, .int .u64 0, .int .u32 0, .int .u8 0, .int .u8 0, .int .u8 0, .int .u8 0, .nilfn, .ptr none, .int .i32 0, .int .i32 0])⟩
def tt : Tr ATy := (.node (some T0) (.node (some T1) (.node (some T3) (.node (some T7) (.node (some T15) (.node (some T31) (.node (some T63) .leaf .leaf) .leaf) (.node (some T47) .leaf .leaf)) (.node (some T23) (.node (some T39) .leaf .leaf) (.node (some T55) .leaf .leaf))) (.node (some T11) (.node (some T19) (.node (some T35) .leaf .leaf) (.node (some T51) .leaf .leaf)) (.node (some T27) (.node (some T43) .leaf .leaf) (.node (some T59) .leaf .leaf)))) (.node (some T5) (.node (some T9) (.node (some T17) (.node (some T33) .leaf .leaf) (.node (some T49) .leaf .leaf)) (.node (some T25) (.node (some T41) .leaf .leaf) (.node (some T57) .leaf .leaf))) (.node (some T13) (.node (some T21) (.node (some T37) .leaf .leaf) (.node (some T53) .leaf .leaf)) (.node (some T29) (.node (some T45) .leaf .leaf) (.node (some T61) .leaf .leaf))))) (.node (some T2) (.node (some T4) (.node (some T8) (.node (some T16) (.node (some T32) (.node (some T64) .leaf .leaf) .leaf) (.node (some T48) .leaf .leaf)) (.node (some T24) (.node (some T40) .leaf .leaf) (.node (some T56) .leaf .leaf))) (.node (some T12) (.node (some T20) (.node (some T36) .leaf .leaf) (.node (some T52) .leaf .leaf)) (.node (some T28) (.node (some T44) .leaf .leaf) (.node (some T60) .leaf .leaf)))) (.node (some T6) (.node (some T10) (.node (some T18) (.node (some T34) .leaf .leaf) (.node (some T50) .leaf .leaf)) (.node (some T26) (.node (some T42) .leaf .leaf) (.node (some T58) .leaf .leaf))) (.node (some T14) (.node (some T22) (.node (some T38) .leaf .leaf) (.node (some T54) .leaf .leaf)) (.node (some T30) (.node (some T46) .leaf .leaf) (.node (some T62) .leaf .leaf))))))
def mask : Nat := 0x3ffffc
theorem tab_ok : tabOK Try.prog tt 66 = true := by decide +kernel
theorem fn_ok : fnOK Try.prog mask 39 = true := by decide +kernel
noncomputable def CC (W : World) : Cx := mkCx Try.prog W tt 66 mask
theorem cc_ok (W : World) : (CC W).OK := mkCx_ok tab_ok fn_ok
theorem calls_cc {W : World} {f : FuncId} {args : List AV} {vs : Array Value} (ha : VsRel [] args vs.toList) (hc : RetA (CC W) f args (.bool true)) :
    Calls Try.prog f vs W fun e w' => e = .returned (.bool true) ∧ Below W.heap.size W w' := calls_of_acall (tt := tt) (n := 66) (mask := mask) ha ((hc AH.empty).mono (fun _ _ h => h) fun _ _ h => h)
section
variable (W : World)
theorem ty0 : (CC W).ty 0 = some T0 := _root_.id rfl
theorem ty1 : (CC W).ty 1 = some T1 := _root_.id rfl
theorem ty2 : (CC W).ty 2 = some T2 := _root_.id rfl
theorem ty3 : (CC W).ty 3 = some T3 := _root_.id rfl
theorem ty4 : (CC W).ty 4 = some T4 := _root_.id rfl
theorem ty5 : (CC W).ty 5 = some T5 := _root_.id rfl
theorem ty6 : (CC W).ty 6 = some T6 := _root_.id rfl
theorem ty7 : (CC W).ty 7 = some T7 := _root_.id rfl
theorem ty8 : (CC W).ty 8 = some T8 := _root_.id rfl
theorem ty9 : (CC W).ty 9 = some T9 := _root_.id rfl
theorem ty10 : (CC W).ty 10 = some T10 := _root_.id rfl
theorem ty11 : (CC W).ty 11 = some T11 := _root_.id rfl
theorem ty12 : (CC W).ty 12 = some T12 := _root_.id rfl
theorem ty13 : (CC W).ty 13 = some T13 := _root_.id rfl
theorem ty14 : (CC W).ty 14 = some T14 := _root_.id rfl
theorem ty15 : (CC W).ty 15 = some T15 := _root_.id rfl
theorem ty16 : (CC W).ty 16 = some T16 := _root_.id rfl
theorem ty17 : (CC W).ty 17 = some T17 := _root_.id rfl
theorem ty18 : (CC W).ty 18 = some T18 := _root_.id rfl
theorem ty19 : (CC W).ty 19 = some T19 := _root_.id rfl
theorem ty20 : (CC W).ty 20 = some T20 := _root_.id rfl
theorem ty21 : (CC W).ty 21 = some T21 := _root_.id rfl
theorem ty22 : (CC W).ty 22 = some T22 := _root_.id rfl
theorem ty23 : (CC W).ty 23 = some T23 := _root_.id rfl
theorem ty24 : (CC W).ty 24 = some T24 := _root_.id rfl
theorem ty25 : (CC W).ty 25 = some T25 := _root_.id rfl
theorem ty26 : (CC W).ty 26 = some T26 := _root_.id rfl
theorem ty27 : (CC W).ty 27 = some T27 := _root_.id rfl
theorem ty28 : (CC W).ty 28 = some T28 := _root_.id rfl
theorem ty29 : (CC W).ty 29 = some T29 := _root_.id rfl
theorem ty30 : (CC W).ty 30 = some T30 := _root_.id rfl
theorem ty31 : (CC W).ty 31 = some T31 := _root_.id rfl
theorem ty32 : (CC W).ty 32 = some T32 := _root_.id rfl
theorem ty33 : (CC W).ty 33 = some T33 := _root_.id rfl
theorem ty34 : (CC W).ty 34 = some T34 := _root_.id rfl
theorem ty35 : (CC W).ty 35 = some T35 := _root_.id rfl
theorem ty36 : (CC W).ty 36 = some T36 := _root_.id rfl
theorem ty37 : (CC W).ty 37 = some T37 := _root_.id rfl
theorem ty38 : (CC W).ty 38 = some T38 := _root_.id rfl
theorem ty39 : (CC W).ty 39 = some T39 := _root_.id rfl
theorem ty40 : (CC W).ty 40 = some T40 := _root_.id rfl
theorem ty41 : (CC W).ty 41 = some T41 := _root_.id rfl
theorem ty42 : (CC W).ty 42 = some T42 := _root_.id rfl
theorem ty43 : (CC W).ty 43 = some T43 := _root_.id rfl
theorem ty44 : (CC W).ty 44 = some T44 := _root_.id rfl
theorem ty45 : (CC W).ty 45 = some T45 := _root_.id rfl
theorem ty46 : (CC W).ty 46 = some T46 := _root_.id rfl
theorem ty47 : (CC W).ty 47 = some T47 := _root_.id rfl
theorem ty48 : (CC W).ty 48 = some T48 := _root_.id rfl
theorem ty49 : (CC W).ty 49 = some T49 := _root_.id rfl
theorem ty50 : (CC W).ty 50 = some T50 := _root_.id rfl
theorem ty51 : (CC W).ty 51 = some T51 := _root_.id rfl
theorem ty52 : (CC W).ty 52 = some T52 := _root_.id rfl
theorem ty53 : (CC W).ty 53 = some T53 := _root_.id rfl
theorem ty54 : (CC W).ty 54 = some T54 := _root_.id rfl
theorem ty55 : (CC W).ty 55 = some T55 := _root_.id rfl
theorem ty56 : (CC W).ty 56 = some T56 := _root_.id rfl
theorem ty57 : (CC W).ty 57 = some T57 := _root_.id rfl
theorem ty58 : (CC W).ty 58 = some T58 := _root_.id rfl
theorem ty59 : (CC W).ty 59 = some T59 := _root_.id rfl
theorem ty60 : (CC W).ty 60 = some T60 := _root_.id rfl
theorem ty61 : (CC W).ty 61 = some T61 := _root_.id rfl
theorem ty62 : (CC W).ty 62 = some T62 := _root_.id rfl
theorem ty63 : (CC W).ty 63 = some T63 := _root_.id rfl
theorem ty64 : (CC W).ty 64 = some T64 := _root_.id rfl
theorem kind0 : (CC W).kind 0 = .tuple := _root_.id rfl
theorem size0 : (CC W).size 0 = some 1 := _root_.id rfl
theorem kind1 : (CC W).kind 1 = .func := _root_.id rfl
theorem size1 : (CC W).size 1 = some 1 := _root_.id rfl
theorem zero1 : (CC W).zero 1 = (some [.nilfn]) := _root_.id rfl
theorem kind2 : (CC W).kind 2 = .int .i64 := _root_.id rfl
theorem size2 : (CC W).size 2 = some 1 := _root_.id rfl
theorem zero2 : (CC W).zero 2 = (some [.int .i64 0]) := _root_.id rfl
theorem kind3 : (CC W).kind 3 = .int .i64 := _root_.id rfl
theorem size3 : (CC W).size 3 = some 1 := _root_.id rfl
theorem zero3 : (CC W).zero 3 = (some [.int .i64 0]) := _root_.id rfl
theorem kind4 : (CC W).kind 4 = .bool := _root_.id rfl
theorem size4 : (CC W).size 4 = some 1 := _root_.id rfl
theorem zero4 : (CC W).zero 4 = (some [.bool false]) := _root_.id rfl
theorem kind5 : (CC W).kind 5 = .int .u8 := _root_.id rfl
theorem size5 : (CC W).size 5 = some 1 := _root_.id rfl
theorem zero5 : (CC W).zero 5 = (some [.int .u8 0]) := _root_.id rfl
theorem kind6 : (CC W).kind 6 = .int .u8 := _root_.id rfl
theorem size6 : (CC W).size 6 = some 1 := _root_.id rfl
theorem zero6 : (CC W).zero 6 = (some [.int .u8 0]) := _root_.id rfl
theorem kind7 : (CC W).kind 7 = .struct [(0, 2), (1, 3), (2, 4), (3, 6)] true := _root_.id rfl
theorem size7 : (CC W).size 7 = some 4 := _root_.id rfl
theorem zero7 : (CC W).zero 7 = (some [.int .i64 0, .int .i64 0, .bool false, .int .u8 0]) := _root_.id rfl
theorem kind8 : (CC W).kind 8 = .struct [(0, 2), (1, 3), (2, 4), (3, 6)] true := _root_.id rfl
theorem size8 : (CC W).size 8 = some 4 := _root_.id rfl
theorem zero8 : (CC W).zero 8 = (some [.int .i64 0, .int .i64 0, .bool false, .int .u8 0]) := _root_.id rfl
theorem kind9 : (CC W).kind 9 = .str := _root_.id rfl
theorem size9 : (CC W).size 9 = some 1 := _root_.id rfl
theorem zero9 : (CC W).zero 9 = (some [.str []]) := _root_.id rfl
theorem kind10 : (CC W).kind 10 = .str := _root_.id rfl
theorem size10 : (CC W).size 10 = some 1 := _root_.id rfl
theorem zero10 : (CC W).zero 10 = (some [.str []]) := _root_.id rfl
theorem kind11 : (CC W).kind 11 = .str := _root_.id rfl
theorem size11 : (CC W).size 11 = some 1 := _root_.id rfl
theorem zero11 : (CC W).zero 11 = (some [.str []]) := _root_.id rfl
theorem kind12 : (CC W).kind 12 = .int .u64 := _root_.id rfl
theorem size12 : (CC W).size 12 = some 1 := _root_.id rfl
theorem zero12 : (CC W).zero 12 = (some [.int .u64 0]) := _root_.id rfl
theorem kind13 : (CC W).kind 13 = .struct [(0, 9), (1, 12)] false := _root_.id rfl
theorem size13 : (CC W).size 13 = some 2 := _root_.id rfl
theorem zero13 : (CC W).zero 13 = (some [.str [], .int .u64 0]) := _root_.id rfl
theorem kind14 : (CC W).kind 14 = .struct [(0, 9), (1, 12)] false := _root_.id rfl
theorem size14 : (CC W).size 14 = some 2 := _root_.id rfl
theorem zero14 : (CC W).zero 14 = (some [.str [], .int .u64 0]) := _root_.id rfl
theorem kind15 : (CC W).kind 15 = .ptr 51 := _root_.id rfl
theorem size15 : (CC W).size 15 = some 1 := _root_.id rfl
theorem zero15 : (CC W).zero 15 = (some [.ptr none]) := _root_.id rfl
theorem kind16 : (CC W).kind 16 = .ptr 54 := _root_.id rfl
theorem size16 : (CC W).size 16 = some 1 := _root_.id rfl
theorem zero16 : (CC W).zero 16 = (some [.ptr none]) := _root_.id rfl
theorem kind17 : (CC W).kind 17 = .ptr 64 := _root_.id rfl
theorem size17 : (CC W).size 17 = some 1 := _root_.id rfl
theorem zero17 : (CC W).zero 17 = (some [.ptr none]) := _root_.id rfl
theorem kind18 : (CC W).kind 18 = .struct [(0, 17)] false := _root_.id rfl
theorem size18 : (CC W).size 18 = some 1 := _root_.id rfl
theorem zero18 : (CC W).zero 18 = (some [.ptr none]) := _root_.id rfl
theorem kind19 : (CC W).kind 19 = .struct [(0, 17)] false := _root_.id rfl
theorem size19 : (CC W).size 19 = some 1 := _root_.id rfl
theorem zero19 : (CC W).zero 19 = (some [.ptr none]) := _root_.id rfl
theorem kind20 : (CC W).kind 20 = .iface true := _root_.id rfl
theorem size20 : (CC W).size 20 = some 1 := _root_.id rfl
theorem zero20 : (CC W).zero 20 = (some [.nilifc]) := _root_.id rfl
theorem kind21 : (CC W).kind 21 = .int .i32 := _root_.id rfl
theorem size21 : (CC W).size 21 = some 1 := _root_.id rfl
theorem zero21 : (CC W).zero 21 = (some [.int .i32 0]) := _root_.id rfl
theorem kind22 : (CC W).kind 22 = .int .i64 := _root_.id rfl
theorem size22 : (CC W).size 22 = some 1 := _root_.id rfl
theorem zero22 : (CC W).zero 22 = (some [.int .i64 0]) := _root_.id rfl
theorem kind23 : (CC W).kind 23 = .tuple := _root_.id rfl
theorem size23 : (CC W).size 23 = some 1 := _root_.id rfl
theorem kind24 : (CC W).kind 24 = .func := _root_.id rfl
theorem size24 : (CC W).size 24 = some 1 := _root_.id rfl
theorem zero24 : (CC W).zero 24 = (some [.nilfn]) := _root_.id rfl
theorem kind25 : (CC W).kind 25 = .tuple := _root_.id rfl
theorem size25 : (CC W).size 25 = some 1 := _root_.id rfl
theorem kind26 : (CC W).kind 26 = .func := _root_.id rfl
theorem size26 : (CC W).size 26 = some 1 := _root_.id rfl
theorem zero26 : (CC W).zero 26 = (some [.nilfn]) := _root_.id rfl
theorem kind27 : (CC W).kind 27 = .tuple := _root_.id rfl
theorem size27 : (CC W).size 27 = some 1 := _root_.id rfl
theorem kind28 : (CC W).kind 28 = .func := _root_.id rfl
theorem size28 : (CC W).size 28 = some 1 := _root_.id rfl
theorem zero28 : (CC W).zero 28 = (some [.nilfn]) := _root_.id rfl
theorem kind29 : (CC W).kind 29 = .tuple := _root_.id rfl
theorem size29 : (CC W).size 29 = some 1 := _root_.id rfl
theorem kind30 : (CC W).kind 30 = .func := _root_.id rfl
theorem size30 : (CC W).size 30 = some 1 := _root_.id rfl
theorem zero30 : (CC W).zero 30 = (some [.nilfn]) := _root_.id rfl
theorem kind31 : (CC W).kind 31 = .func := _root_.id rfl
theorem size31 : (CC W).size 31 = some 1 := _root_.id rfl
theorem zero31 : (CC W).zero 31 = (some [.nilfn]) := _root_.id rfl
theorem kind32 : (CC W).kind 32 = .func := _root_.id rfl
theorem size32 : (CC W).size 32 = some 1 := _root_.id rfl
theorem zero32 : (CC W).zero 32 = (some [.nilfn]) := _root_.id rfl
theorem kind33 : (CC W).kind 33 = .struct [(0, 3), (1, 3), (2, 3)] true := _root_.id rfl
theorem size33 : (CC W).size 33 = some 3 := _root_.id rfl
theorem zero33 : (CC W).zero 33 = (some [.int .i64 0, .int .i64 0, .int .i64 0]) := _root_.id rfl
theorem kind34 : (CC W).kind 34 = .struct [(0, 3), (1, 3), (2, 3)] true := _root_.id rfl
theorem size34 : (CC W).size 34 = some 3 := _root_.id rfl
theorem zero34 : (CC W).zero 34 = (some [.int .i64 0, .int .i64 0, .int .i64 0]) := _root_.id rfl
theorem kind35 : (CC W).kind 35 = .tuple := _root_.id rfl
theorem size35 : (CC W).size 35 = some 1 := _root_.id rfl
theorem kind36 : (CC W).kind 36 = .func := _root_.id rfl
theorem size36 : (CC W).size 36 = some 1 := _root_.id rfl
theorem zero36 : (CC W).zero 36 = (some [.nilfn]) := _root_.id rfl
theorem kind37 : (CC W).kind 37 = .tuple := _root_.id rfl
theorem size37 : (CC W).size 37 = some 1 := _root_.id rfl
theorem kind38 : (CC W).kind 38 = .func := _root_.id rfl
theorem size38 : (CC W).size 38 = some 1 := _root_.id rfl
theorem zero38 : (CC W).zero 38 = (some [.nilfn]) := _root_.id rfl
theorem kind39 : (CC W).kind 39 = .func := _root_.id rfl
theorem size39 : (CC W).size 39 = some 1 := _root_.id rfl
theorem zero39 : (CC W).zero 39 = (some [.nilfn]) := _root_.id rfl
theorem kind40 : (CC W).kind 40 = .func := _root_.id rfl
theorem size40 : (CC W).size 40 = some 1 := _root_.id rfl
theorem zero40 : (CC W).zero 40 = (some [.nilfn]) := _root_.id rfl
theorem kind41 : (CC W).kind 41 = .func := _root_.id rfl
theorem size41 : (CC W).size 41 = some 1 := _root_.id rfl
theorem zero41 : (CC W).zero 41 = (some [.nilfn]) := _root_.id rfl
theorem kind42 : (CC W).kind 42 = .func := _root_.id rfl
theorem size42 : (CC W).size 42 = some 1 := _root_.id rfl
theorem zero42 : (CC W).zero 42 = (some [.nilfn]) := _root_.id rfl
theorem kind43 : (CC W).kind 43 = .func := _root_.id rfl
theorem size43 : (CC W).size 43 = some 1 := _root_.id rfl
theorem zero43 : (CC W).zero 43 = (some [.nilfn]) := _root_.id rfl
theorem kind44 : (CC W).kind 44 = .func := _root_.id rfl
theorem size44 : (CC W).size 44 = some 1 := _root_.id rfl
theorem zero44 : (CC W).zero 44 = (some [.nilfn]) := _root_.id rfl
theorem kind45 : (CC W).kind 45 = .slice 5 := _root_.id rfl
theorem size45 : (CC W).size 45 = some 1 := _root_.id rfl
theorem zero45 : (CC W).zero 45 = (some [.sl none 0 0 none]) := _root_.id rfl
theorem kind46 : (CC W).kind 46 = .int .u64 := _root_.id rfl
theorem size46 : (CC W).size 46 = some 1 := _root_.id rfl
theorem zero46 : (CC W).zero 46 = (some [.int .u64 0]) := _root_.id rfl
theorem kind47 : (CC W).kind 47 = .func := _root_.id rfl
theorem size47 : (CC W).size 47 = some 1 := _root_.id rfl
theorem zero47 : (CC W).zero 47 = (some [.nilfn]) := _root_.id rfl
theorem kind48 : (CC W).kind 48 = .func := _root_.id rfl
theorem size48 : (CC W).size 48 = some 1 := _root_.id rfl
theorem zero48 : (CC W).zero 48 = (some [.nilfn]) := _root_.id rfl
theorem kind49 : (CC W).kind 49 = .func := _root_.id rfl
theorem size49 : (CC W).size 49 = some 1 := _root_.id rfl
theorem zero49 : (CC W).zero 49 = (some [.nilfn]) := _root_.id rfl
theorem kind50 : (CC W).kind 50 = .struct [(0, 17), (1, 17), (2, 17), (3, 9)] false := _root_.id rfl
theorem size50 : (CC W).size 50 = some 4 := _root_.id rfl
theorem zero50 : (CC W).zero 50 = (some [.ptr none, .ptr none, .ptr none, .str []]) := _root_.id rfl
theorem kind51 : (CC W).kind 51 = .struct [(0, 17), (1, 17), (2, 17), (3, 9)] false := _root_.id rfl
theorem size51 : (CC W).size 51 = some 4 := _root_.id rfl
theorem zero51 : (CC W).zero 51 = (some [.ptr none, .ptr none, .ptr none, .str []]) := _root_.id rfl
theorem kind52 : (CC W).kind 52 = .array 0 16 := _root_.id rfl
theorem size52 : (CC W).size 52 = some 0 := _root_.id rfl
theorem zero52 : (CC W).zero 52 = (some []) := _root_.id rfl
theorem kind53 : (CC W).kind 53 = .struct [(0, 52)] false := _root_.id rfl
theorem size53 : (CC W).size 53 = some 0 := _root_.id rfl
theorem zero53 : (CC W).zero 53 = (some []) := _root_.id rfl
theorem kind54 : (CC W).kind 54 = .struct [(0, 52)] false := _root_.id rfl
theorem size54 : (CC W).size 54 = some 0 := _root_.id rfl
theorem zero54 : (CC W).zero 54 = (some []) := _root_.id rfl
theorem kind55 : (CC W).kind 55 = .func := _root_.id rfl
theorem size55 : (CC W).size 55 = some 1 := _root_.id rfl
theorem zero55 : (CC W).zero 55 = (some [.nilfn]) := _root_.id rfl
theorem kind56 : (CC W).kind 56 = .int .u32 := _root_.id rfl
theorem size56 : (CC W).size 56 = some 1 := _root_.id rfl
theorem zero56 : (CC W).zero 56 = (some [.int .u32 0]) := _root_.id rfl
theorem kind57 : (CC W).kind 57 = .int .u8 := _root_.id rfl
theorem size57 : (CC W).size 57 = some 1 := _root_.id rfl
theorem zero57 : (CC W).zero 57 = (some [.int .u8 0]) := _root_.id rfl
theorem kind58 : (CC W).kind 58 = .int .u8 := _root_.id rfl
theorem size58 : (CC W).size 58 = some 1 := _root_.id rfl
theorem zero58 : (CC W).zero 58 = (some [.int .u8 0]) := _root_.id rfl
theorem kind59 : (CC W).kind 59 = .func := _root_.id rfl
theorem size59 : (CC W).size 59 = some 1 := _root_.id rfl
theorem zero59 : (CC W).zero 59 = (some [.nilfn]) := _root_.id rfl
theorem kind60 : (CC W).kind 60 = .ptr 5 := _root_.id rfl
theorem size60 : (CC W).size 60 = some 1 := _root_.id rfl
theorem zero60 : (CC W).zero 60 = (some [.ptr none]) := _root_.id rfl
theorem kind61 : (CC W).kind 61 = .int .i32 := _root_.id rfl
theorem size61 : (CC W).size 61 = some 1 := _root_.id rfl
theorem zero61 : (CC W).zero 61 = (some [.int .i32 0]) := _root_.id rfl
theorem kind62 : (CC W).kind 62 = .int .i32 := _root_.id rfl
theorem size62 : (CC W).size 62 = some 1 := _root_.id rfl
theorem zero62 : (CC W).zero 62 = (some [.int .i32 0]) := _root_.id rfl
theorem kind63 : (CC W).kind 63 = .struct [(0, 12), (1, 12), (2, 56), (3, 57), (4, 5), (5, 5), (6, 58), (7, 59), (8, 60), (9, 61), (10, 62)] false := _root_.id rfl
theorem size63 : (CC W).size 63 = some 11 := _root_.id rfl
theorem zero63 : (CC W).zero 63 = (some [.int .u64 0, .int .u64 0, .int .u32 0, .int .u8 0, .int .u8 0, .int .u8 0, .int .u8 0, .nilfn, .ptr none, .int .i32 0, .int .i32 0]) := _root_.id rfl
theorem kind64 : (CC W).kind 64 = .struct [(0, 12), (1, 12), (2, 56), (3, 57), (4, 5), (5, 5), (6, 58), (7, 59), (8, 60), (9, 61), (10, 62)] false := _root_.id rfl
theorem size64 : (CC W).size 64 = some 11 := _root_.id rfl
theorem zero64 : (CC W).zero 64 = (some [.int .u64 0, .int .u64 0, .int .u32 0, .int .u8 0, .int .u8 0, .int .u8 0, .int .u8 0, .nilfn, .ptr none, .int .i32 0, .int .i32 0]) := _root_.id rfl
theorem fn2 : (CC W).fn 2 = some Try.f2 := _root_.id rfl
theorem fn3 : (CC W).fn 3 = some Try.f3 := _root_.id rfl
theorem fn4 : (CC W).fn 4 = some Try.f4 := _root_.id rfl
theorem fn5 : (CC W).fn 5 = some Try.f5 := _root_.id rfl
theorem fn6 : (CC W).fn 6 = some Try.f6 := _root_.id rfl
theorem fn7 : (CC W).fn 7 = some Try.f7 := _root_.id rfl
theorem fn8 : (CC W).fn 8 = some Try.f8 := _root_.id rfl
theorem fn9 : (CC W).fn 9 = some Try.f9 := _root_.id rfl
theorem fn10 : (CC W).fn 10 = some Try.f10 := _root_.id rfl
theorem fn11 : (CC W).fn 11 = some Try.f11 := _root_.id rfl
theorem fn12 : (CC W).fn 12 = some Try.f12 := _root_.id rfl
theorem fn13 : (CC W).fn 13 = some Try.f13 := _root_.id rfl
theorem fn14 : (CC W).fn 14 = some Try.f14 := _root_.id rfl
theorem fn15 : (CC W).fn 15 = some Try.f15 := _root_.id rfl
theorem fn16 : (CC W).fn 16 = some Try.f16 := _root_.id rfl
theorem fn17 : (CC W).fn 17 = some Try.f17 := _root_.id rfl
theorem fn18 : (CC W).fn 18 = some Try.f18 := _root_.id rfl
theorem fn19 : (CC W).fn 19 = some Try.f19 := _root_.id rfl
theorem fn20 : (CC W).fn 20 = some Try.f20 := _root_.id rfl
theorem fn21 : (CC W).fn 21 = some Try.f21 := _root_.id rfl
end
end Go.Proofs.Ytoioomplhebadaa.Ax
