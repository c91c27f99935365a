/- The tables of the program, for AX: what its types are, which of its functions have a body. -/
import Derived.Test.YteedadelgpagfaaDoorProg
import Derived.Test.YteedadelgpagfaaDoorAx24
import Derived.KernelRfl
set_option linter.unusedVariables false
set_option linter.unusedSimpArgs false
namespace Go.Proofs.YteedadelgpagfaaDoor.Ax
open Go.RowKit
def T0 : ATy := ⟨.tuple, 1, 0, none⟩
def T1 : ATy := ⟨.func, 1, 8, (some [.nilfn])⟩
def T2 : ATy := ⟨.int .i64, 1, 8, (some [.int .i64 0])⟩
def T3 : ATy := ⟨.int .i64, 1, 8, (some [.int .i64 0])⟩
def T4 : ATy := ⟨.bool, 1, 1, (some [.bool false])⟩
def T5 : ATy := ⟨.int .u8, 1, 1, (some [.int .u8 0])⟩
def T6 : ATy := ⟨.int .u8, 1, 1, (some [.int .u8 0])⟩
def T7 : ATy := ⟨.struct [(0, 2), (1, 3), (2, 4), (3, 6)] true, 4, 24, (some [.int .i64 0, .int .i64 0, .bool false, .int .u8 0])⟩
def T8 : ATy := ⟨.struct [(0, 2), (1, 3), (2, 4), (3, 6)] true, 4, 24, (some [.int .i64 0, .int .i64 0, .bool false, .int .u8 0])⟩
def T9 : ATy := ⟨.str, 1, 16, (some [.str []])⟩
def T10 : ATy := ⟨.str, 1, 16, (some [.str []])⟩
def T11 : ATy := ⟨.str, 1, 16, (some [.str []])⟩
def T12 : ATy := ⟨.int .u64, 1, 8, (some [.int .u64 0])⟩
def T13 : ATy := ⟨.struct [(0, 9), (1, 12)] false, 2, 24, (some [.str [], .int .u64 0])⟩
def T14 : ATy := ⟨.struct [(0, 9), (1, 12)] false, 2, 24, (some [.str [], .int .u64 0])⟩
def T15 : ATy := ⟨.ptr 97, 1, 8, (some [.ptr none])⟩
def T16 : ATy := ⟨.ptr 100, 1, 8, (some [.ptr none])⟩
def T17 : ATy := ⟨.ptr 109, 1, 8, (some [.ptr none])⟩
def T18 : ATy := ⟨.struct [(0, 17)] false, 1, 8, (some [.ptr none])⟩
def T19 : ATy := ⟨.struct [(0, 17)] false, 1, 8, (some [.ptr none])⟩
def T20 : ATy := ⟨.iface true, 1, 16, (some [.nilifc])⟩
def T21 : ATy := ⟨.int .i32, 1, 4, (some [.int .i32 0])⟩
def T22 : ATy := ⟨.slice 27, 1, 24, (some [.sl none 0 0 none])⟩
def T23 : ATy := ⟨.ptr 62, 1, 8, (some [.ptr none])⟩
def T24 : ATy := ⟨.func, 1, 8, (some [.nilfn])⟩
def T25 : ATy := ⟨.array 16 4, 16, 16, (some [.bool false, .bool false, .bool false, .bool false, .bool false, .bool false, .bool false, .bool false, .bool false, .bool false, .bool false, .bool false, .bool false, .bool false, .bool false, .bool false])⟩
def T26 : ATy := ⟨.struct [(0, 3), (1, 3), (2, 3), (3, 3), (4, 9)] true, 5, 48, (some [.int .i64 0, .int .i64 0, .int .i64 0, .int .i64 0, .str []])⟩
def T27 : ATy := ⟨.struct [(0, 3), (1, 3), (2, 3), (3, 3), (4, 9)] true, 5, 48, (some [.int .i64 0, .int .i64 0, .int .i64 0, .int .i64 0, .str []])⟩
def T28 : ATy := ⟨.int .i64, 1, 8, (some [.int .i64 0])⟩
def T29 : ATy := ⟨.tuple, 1, 0, none⟩
def T30 : ATy := ⟨.func, 1, 8, (some [.nilfn])⟩
def T31 : ATy := ⟨.slice 9, 1, 24, (some [.sl none 0 0 none])⟩
def T32 : ATy := ⟨.tuple, 1, 0, none⟩
def T33 : ATy := ⟨.func, 1, 8, (some [.nilfn])⟩
def T34 : ATy := ⟨.func, 1, 8, (some [.nilfn])⟩
def T35 : ATy := ⟨.slice 3, 1, 24, (some [.sl none 0 0 none])⟩
def T36 : ATy := ⟨.func, 1, 8, (some [.nilfn])⟩
def T37 : ATy := ⟨.func, 1, 8, (some [.nilfn])⟩
def T38 : ATy := ⟨.func, 1, 8, (some [.nilfn])⟩
def T39 : ATy := ⟨.func, 1, 8, (some [.nilfn])⟩
def T40 : ATy := ⟨.struct [(0, 3), (1, 3), (2, 3), (3, 9), (4, 9), (5, 9)] true, 6, 72, (some [.int .i64 0, .int .i64 0, .int .i64 0, .str [], .str [], .str []])⟩
def T41 : ATy := ⟨.struct [(0, 3), (1, 3), (2, 3), (3, 9), (4, 9), (5, 9)] true, 6, 72, (some [.int .i64 0, .int .i64 0, .int .i64 0, .str [], .str [], .str []])⟩
def T42 : ATy := ⟨.tuple, 1, 0, none⟩
def T43 : ATy := ⟨.func, 1, 8, (some [.nilfn])⟩
def T44 : ATy := ⟨.func, 1, 8, (some [.nilfn])⟩
def T45 : ATy := ⟨.func, 1, 8, (some [.nilfn])⟩
def T46 : ATy := ⟨.tuple, 1, 0, none⟩
def T47 : ATy := ⟨.func, 1, 8, (some [.nilfn])⟩
def T48 : ATy := ⟨.ptr 51, 1, 8, (some [.ptr none])⟩
def T49 : ATy := ⟨.slice 54, 1, 24, (some [.sl none 0 0 none])⟩
def T50 : ATy := ⟨.struct [(0, 49)] true, 1, 24, (some [.sl none 0 0 none])⟩
def T51 : ATy := ⟨.struct [(0, 49)] true, 1, 24, (some [.sl none 0 0 none])⟩
def T52 : ATy := ⟨.func, 1, 8, (some [.nilfn])⟩
def T53 : ATy := ⟨.struct [(0, 3), (1, 3), (2, 9)] true, 3, 32, (some [.int .i64 0, .int .i64 0, .str []])⟩
def T54 : ATy := ⟨.struct [(0, 3), (1, 3), (2, 9)] true, 3, 32, (some [.int .i64 0, .int .i64 0, .str []])⟩
def T55 : ATy := ⟨.func, 1, 8, (some [.nilfn])⟩
def T56 : ATy := ⟨.func, 1, 8, (some [.nilfn])⟩
def T57 : ATy := ⟨.func, 1, 8, (some [.nilfn])⟩
def T58 : ATy := ⟨.struct [(0, 9), (1, 3)] true, 2, 24, (some [.str [], .int .i64 0])⟩
def T59 : ATy := ⟨.struct [(0, 9), (1, 3)] true, 2, 24, (some [.str [], .int .i64 0])⟩
def T60 : ATy := ⟨.array 16 59, 32, 384, (some [.str [], .int .i64 0, .str [], .int .i64 0, .str [], .int .i64 0, .str [], .int .i64 0, .str [], .int .i64 0, .str [], .int .i64 0, .str [], .int .i64 0, .str [], .int .i64 0, .str [], .int .i64 0, .str [], .int .i64 0, .str [], .int .i64 0, .str [], .int .i64 0, .str [], .int .i64 0, .str [], .int .i64 0, .str [], .int .i64 0, .str [], .int .i64 0])⟩
def T61 : ATy := ⟨.struct [(0, 60)] true, 32, 384, (some [.str [], .int .i64 0, .str [], .int .i64 0, .str [], .int .i64 0, .str [], .int .i64 0, .str [], .int .i64 0, .str [], .int .i64 0, .str [], .int .i64 0, .str [], .int .i64 0, .str [], .int .i64 0, .str [], .int .i64 0, .str [], .int .i64 0, .str [], .int .i64 0, .str [], .int .i64 0, .str [], .int .i64 0, .str [], .int .i64 0, .str [], .int .i64 0])⟩
def T62 : ATy := ⟨.struct [(0, 60)] true, 32, 384, (some [.str [], .int .i64 0, .str [], .int .i64 0, .str [], .int .i64 0, .str [], .int .i64 0, .str [], .int .i64 0, .str [], .int .i64 0, .str [], .int .i64 0, .str [], .int .i64 0, .str [], .int .i64 0, .str [], .int .i64 0, .str [], .int .i64 0, .str [], .int .i64 0, .str [], .int .i64 0, .str [], .int .i64 0, .str [], .int .i64 0, .str [], .int .i64 0])⟩
def T63 : ATy := ⟨.tuple, 1, 0, none⟩
def T64 : ATy := ⟨.func, 1, 8, (some [.nilfn])⟩
def T65 : ATy := ⟨.func, 1, 8, (some [.nilfn])⟩
def T66 : ATy := ⟨.ptr 59, 1, 8, (some [.ptr none])⟩
def T67 : ATy := ⟨.tuple, 1, 0, none⟩
def T68 : ATy := ⟨.func, 1, 8, (some [.nilfn])⟩
def T69 : ATy := ⟨.func, 1, 8, (some [.nilfn])⟩
def T70 : ATy := ⟨.tuple, 1, 0, none⟩
def T71 : ATy := ⟨.func, 1, 8, (some [.nilfn])⟩
def T72 : ATy := ⟨.func, 1, 8, (some [.nilfn])⟩
def T73 : ATy := ⟨.tuple, 1, 0, none⟩
def T74 : ATy := ⟨.func, 1, 8, (some [.nilfn])⟩
def T75 : ATy := ⟨.func, 1, 8, (some [.nilfn])⟩
def T76 : ATy := ⟨.tuple, 1, 0, none⟩
def T77 : ATy := ⟨.func, 1, 8, (some [.nilfn])⟩
def T78 : ATy := ⟨.func, 1, 8, (some [.nilfn])⟩
def T79 : ATy := ⟨.func, 1, 8, (some [.nilfn])⟩
def T80 : ATy := ⟨.func, 1, 8, (some [.nilfn])⟩
def T81 : ATy := ⟨.func, 1, 8, (some [.nilfn])⟩
def T82 : ATy := ⟨.func, 1, 8, (some [.nilfn])⟩
def T83 : ATy := ⟨.func, 1, 8, (some [.nilfn])⟩
def T84 : ATy := ⟨.tuple, 1, 0, none⟩
def T85 : ATy := ⟨.func, 1, 8, (some [.nilfn])⟩
def T86 : ATy := ⟨.func, 1, 8, (some [.nilfn])⟩
def T87 : ATy := ⟨.int .u64, 1, 8, (some [.int .u64 0])⟩
def T88 : ATy := ⟨.array 256 5, 256, 256, (some (List.replicate 256 (.int .u8 0)))⟩
def T89 : ATy := ⟨.struct [(0, 5), (1, 5)] true, 2, 2, (some [.int .u8 0, .int .u8 0])⟩
def T90 : ATy := ⟨.struct [(0, 5), (1, 5)] true, 2, 2, (some [.int .u8 0, .int .u8 0])⟩
def T91 : ATy := ⟨.array 16 90, 32, 32, (some (List.replicate 32 (.int .u8 0)))⟩
def T92 : ATy := ⟨.int .u32, 1, 4, (some [.int .u32 0])⟩
def T93 : ATy := ⟨.tuple, 1, 0, none⟩
def T94 : ATy := ⟨.func, 1, 8, (some [.nilfn])⟩
def T95 : ATy := ⟨.func, 1, 8, (some [.nilfn])⟩
def T96 : ATy := ⟨.struct [(0, 17), (1, 17), (2, 17), (3, 9)] false, 4, 40, (some [.ptr none, .ptr none, .ptr none, .str []])⟩
def T97 : ATy := ⟨.struct [(0, 17), (1, 17), (2, 17), (3, 9)] false, 4, 40, (some [.ptr none, .ptr none, .ptr none, .str []])⟩
def T98 : ATy := ⟨.array 0 16, 0, 0, (some [])⟩
def T99 : ATy := ⟨.struct [(0, 98)] false, 0, 0, (some [])⟩
def T100 : ATy := ⟨.struct [(0, 98)] false, 0, 0, (some [])⟩
def T101 : ATy := ⟨.func, 1, 8, (some [.nilfn])⟩
def T102 : ATy := ⟨.int .u8, 1, 1, (some [.int .u8 0])⟩
def T103 : ATy := ⟨.int .u8, 1, 1, (some [.int .u8 0])⟩
def T104 : ATy := ⟨.func, 1, 8, (some [.nilfn])⟩
def T105 : ATy := ⟨.ptr 5, 1, 8, (some [.ptr none])⟩
def T106 : ATy := ⟨.int .i32, 1, 4, (some [.int .i32 0])⟩
def T107 : ATy := ⟨.int .i32, 1, 4, (some [.int .i32 0])⟩
def T108 : ATy := ⟨.struct [(0, 12), (1, 12), (2, 92), (3, 102), (4, 5), (5, 5), (6, 103), (7, 104), (8, 105), (9, 106), (10, 107)] false, 11, 48, (some [.int .u64 0, .int .u64 0, .int .u32 0, .int .u8 0, .int .u8 0, .int .u8 0, .int .u8 0, .nilfn, .ptr none, .int .i32 0, .int .i32 0])⟩
def T109 : ATy := ⟨.struct [(0, 12), (1, 12), (2, 92), (3, 102), (4, 5), (5, 5), (6, 103), (7, 104), (8, 105), (9, 106), (10, 107)] false, 11, 48, (some [.int .u64 0, .int .u64 0, .int .u32 0, .int .u8 0, .int .u8 0, .int .u8 0, .int .u8 0, .nilfn, .ptr none, .int .i32 0, .int .i32 0])⟩
def tt : Tr ATy := (.node (some T0) (.node (some T1) (.node (some T3) (.node (some T7) (.node (some T15) (.node (some T31) (.node (some T63) .leaf .leaf) (.node (some T95) .leaf .leaf)) (.node (some T47) (.node (some T79) .leaf .leaf) .leaf)) (.node (some T23) (.node (some T39) (.node (some T71) .leaf .leaf) (.node (some T103) .leaf .leaf)) (.node (some T55) (.node (some T87) .leaf .leaf) .leaf))) (.node (some T11) (.node (some T19) (.node (some T35) (.node (some T67) .leaf .leaf) (.node (some T99) .leaf .leaf)) (.node (some T51) (.node (some T83) .leaf .leaf) .leaf)) (.node (some T27) (.node (some T43) (.node (some T75) .leaf .leaf) (.node (some T107) .leaf .leaf)) (.node (some T59) (.node (some T91) .leaf .leaf) .leaf)))) (.node (some T5) (.node (some T9) (.node (some T17) (.node (some T33) (.node (some T65) .leaf .leaf) (.node (some T97) .leaf .leaf)) (.node (some T49) (.node (some T81) .leaf .leaf) .leaf)) (.node (some T25) (.node (some T41) (.node (some T73) .leaf .leaf) (.node (some T105) .leaf .leaf)) (.node (some T57) (.node (some T89) .leaf .leaf) .leaf))) (.node (some T13) (.node (some T21) (.node (some T37) (.node (some T69) .leaf .leaf) (.node (some T101) .leaf .leaf)) (.node (some T53) (.node (some T85) .leaf .leaf) .leaf)) (.node (some T29) (.node (some T45) (.node (some T77) .leaf .leaf) (.node (some T109) .leaf .leaf)) (.node (some T61) (.node (some T93) .leaf .leaf) .leaf))))) (.node (some T2) (.node (some T4) (.node (some T8) (.node (some T16) (.node (some T32) (.node (some T64) .leaf .leaf) (.node (some T96) .leaf .leaf)) (.node (some T48) (.node (some T80) .leaf .leaf) .leaf)) (.node (some T24) (.node (some T40) (.node (some T72) .leaf .leaf) (.node (some T104) .leaf .leaf)) (.node (some T56) (.node (some T88) .leaf .leaf) .leaf))) (.node (some T12) (.node (some T20) (.node (some T36) (.node (some T68) .leaf .leaf) (.node (some T100) .leaf .leaf)) (.node (some T52) (.node (some T84) .leaf .leaf) .leaf)) (.node (some T28) (.node (some T44) (.node (some T76) .leaf .leaf) (.node (some T108) .leaf .leaf)) (.node (some T60) (.node (some T92) .leaf .leaf) .leaf)))) (.node (some T6) (.node (some T10) (.node (some T18) (.node (some T34) (.node (some T66) .leaf .leaf) (.node (some T98) .leaf .leaf)) (.node (some T50) (.node (some T82) .leaf .leaf) .leaf)) (.node (some T26) (.node (some T42) (.node (some T74) .leaf .leaf) (.node (some T106) .leaf .leaf)) (.node (some T58) (.node (some T90) .leaf .leaf) .leaf))) (.node (some T14) (.node (some T22) (.node (some T38) (.node (some T70) .leaf .leaf) (.node (some T102) .leaf .leaf)) (.node (some T54) (.node (some T86) .leaf .leaf) .leaf)) (.node (some T30) (.node (some T46) (.node (some T78) .leaf .leaf) .leaf) (.node (some T62) (.node (some T94) .leaf .leaf) .leaf))))))
def mask : Nat := 0x800002ddfffffffffc
theorem tab_ok : tabOK Tryd.prog tt 111 = true := by decide +kernel
theorem fn_ok : fnOK Tryd.prog mask 72 = true := by decide +kernel
def extT (f : FuncId) (args : List AV) : Option AV := if f = 41 then countA args else if f = 48 then indexByteA args else none
theorem ext_ok : ∀ f, ExtOK Tryd.prog f (extT f) := by
  intro f args v hv ρ vs w hr
  unfold extT at hv
  by_cases h41 : f = 41
  · subst h41
    exact ext_count (fn := Tryd.f41) (by kernel_rfl) (by kernel_rfl) (by kernel_rfl) (by kernel_rfl) (by kernel_rfl) args v (by simpa using hv) ρ vs w hr
  rw [if_neg h41] at hv
  by_cases h48 : f = 48
  · subst h48
    exact ext_indexByte (fn := Tryd.f48) (by kernel_rfl) (by kernel_rfl) (by kernel_rfl) (by kernel_rfl) (by kernel_rfl) args v (by simpa using hv) ρ vs w hr
  rw [if_neg h48] at hv
  simp at hv

noncomputable def CC (W : World) : Cx := mkCxE Tryd.prog W tt 111 mask (fun _ _ => none) extT
theorem cc_ok (W : World) : (CC W).OK := mkCxE_ok tab_ok fn_ok (fun _ _ _ h => by simp at h) ext_ok
theorem extU {W : World} {f : FuncId} {args : List AV} : (CC W).ext f args = if f = 41 then countA args else if f = 48 then indexByteA args else none := _root_.id rfl
theorem calls_cc {W : World} {f : FuncId} {args : List AV} {vs : Array Value} (ha : VsRel [] args vs.toList) (hc : RetA (CC W) f args (.bool true)) :
    Calls Tryd.prog f vs W fun e w' => e = .returned (.bool true) ∧ Below W.heap.size W w' := calls_of_acallE rfl rfl ha ((hc AH.empty).mono (fun _ _ h => h) fun _ _ h => h)
section
variable (W : World)
theorem ty0 : (CC W).ty 0 = some T0 := _root_.id rfl
theorem ty1 : (CC W).ty 1 = some T1 := _root_.id rfl
theorem ty2 : (CC W).ty 2 = some T2 := _root_.id rfl
theorem ty3 : (CC W).ty 3 = some T3 := _root_.id rfl
theorem ty4 : (CC W).ty 4 = some T4 := _root_.id rfl
theorem ty5 : (CC W).ty 5 = some T5 := _root_.id rfl
theorem ty6 : (CC W).ty 6 = some T6 := _root_.id rfl
theorem ty7 : (CC W).ty 7 = some T7 := _root_.id rfl
theorem ty8 : (CC W).ty 8 = some T8 := _root_.id rfl
theorem ty9 : (CC W).ty 9 = some T9 := _root_.id rfl
theorem ty10 : (CC W).ty 10 = some T10 := _root_.id rfl
theorem ty11 : (CC W).ty 11 = some T11 := _root_.id rfl
theorem ty12 : (CC W).ty 12 = some T12 := _root_.id rfl
theorem ty13 : (CC W).ty 13 = some T13 := _root_.id rfl
theorem ty14 : (CC W).ty 14 = some T14 := _root_.id rfl
theorem ty15 : (CC W).ty 15 = some T15 := _root_.id rfl
theorem ty16 : (CC W).ty 16 = some T16 := _root_.id rfl
theorem ty17 : (CC W).ty 17 = some T17 := _root_.id rfl
theorem ty18 : (CC W).ty 18 = some T18 := _root_.id rfl
theorem ty19 : (CC W).ty 19 = some T19 := _root_.id rfl
theorem ty20 : (CC W).ty 20 = some T20 := _root_.id rfl
theorem ty21 : (CC W).ty 21 = some T21 := _root_.id rfl
theorem ty22 : (CC W).ty 22 = some T22 := _root_.id rfl
theorem ty23 : (CC W).ty 23 = some T23 := _root_.id rfl
theorem ty24 : (CC W).ty 24 = some T24 := _root_.id rfl
theorem ty25 : (CC W).ty 25 = some T25 := _root_.id rfl
theorem ty26 : (CC W).ty 26 = some T26 := _root_.id rfl
theorem ty27 : (CC W).ty 27 = some T27 := _root_.id rfl
theorem ty28 : (CC W).ty 28 = some T28 := _root_.id rfl
theorem ty29 : (CC W).ty 29 = some T29 := _root_.id rfl
theorem ty30 : (CC W).ty 30 = some T30 := _root_.id rfl
theorem ty31 : (CC W).ty 31 = some T31 := _root_.id rfl
theorem ty32 : (CC W).ty 32 = some T32 := _root_.id rfl
theorem ty33 : (CC W).ty 33 = some T33 := _root_.id rfl
theorem ty34 : (CC W).ty 34 = some T34 := _root_.id rfl
theorem ty35 : (CC W).ty 35 = some T35 := _root_.id rfl
theorem ty36 : (CC W).ty 36 = some T36 := _root_.id rfl
theorem ty37 : (CC W).ty 37 = some T37 := _root_.id rfl
theorem ty38 : (CC W).ty 38 = some T38 := _root_.id rfl
theorem ty39 : (CC W).ty 39 = some T39 := _root_.id rfl
theorem ty40 : (CC W).ty 40 = some T40 := _root_.id rfl
theorem ty41 : (CC W).ty 41 = some T41 := _root_.id rfl
theorem ty42 : (CC W).ty 42 = some T42 := _root_.id rfl
theorem ty43 : (CC W).ty 43 = some T43 := _root_.id rfl
theorem ty44 : (CC W).ty 44 = some T44 := _root_.id rfl
theorem ty45 : (CC W).ty 45 = some T45 := _root_.id rfl
theorem ty46 : (CC W).ty 46 = some T46 := _root_.id rfl
theorem ty47 : (CC W).ty 47 = some T47 := _root_.id rfl
theorem ty48 : (CC W).ty 48 = some T48 := _root_.id rfl
theorem ty49 : (CC W).ty 49 = some T49 := _root_.id rfl
theorem ty50 : (CC W).ty 50 = some T50 := _root_.id rfl
theorem ty51 : (CC W).ty 51 = some T51 := _root_.id rfl
theorem ty52 : (CC W).ty 52 = some T52 := _root_.id rfl
theorem ty53 : (CC W).ty 53 = some T53 := _root_.id rfl
theorem ty54 : (CC W).ty 54 = some T54 := _root_.id rfl
theorem ty55 : (CC W).ty 55 = some T55 := _root_.id rfl
theorem ty56 : (CC W).ty 56 = some T56 := _root_.id rfl
theorem ty57 : (CC W).ty 57 = some T57 := _root_.id rfl
theorem ty58 : (CC W).ty 58 = some T58 := _root_.id rfl
theorem ty59 : (CC W).ty 59 = some T59 := _root_.id rfl
theorem ty60 : (CC W).ty 60 = some T60 := _root_.id rfl
theorem ty61 : (CC W).ty 61 = some T61 := _root_.id rfl
theorem ty62 : (CC W).ty 62 = some T62 := _root_.id rfl
theorem ty63 : (CC W).ty 63 = some T63 := _root_.id rfl
theorem ty64 : (CC W).ty 64 = some T64 := _root_.id rfl
theorem ty65 : (CC W).ty 65 = some T65 := _root_.id rfl
theorem ty66 : (CC W).ty 66 = some T66 := _root_.id rfl
theorem ty67 : (CC W).ty 67 = some T67 := _root_.id rfl
theorem ty68 : (CC W).ty 68 = some T68 := _root_.id rfl
theorem ty69 : (CC W).ty 69 = some T69 := _root_.id rfl
theorem ty70 : (CC W).ty 70 = some T70 := _root_.id rfl
theorem ty71 : (CC W).ty 71 = some T71 := _root_.id rfl
theorem ty72 : (CC W).ty 72 = some T72 := _root_.id rfl
theorem ty73 : (CC W).ty 73 = some T73 := _root_.id rfl
theorem ty74 : (CC W).ty 74 = some T74 := _root_.id rfl
theorem ty75 : (CC W).ty 75 = some T75 := _root_.id rfl
theorem ty76 : (CC W).ty 76 = some T76 := _root_.id rfl
theorem ty77 : (CC W).ty 77 = some T77 := _root_.id rfl
theorem ty78 : (CC W).ty 78 = some T78 := _root_.id rfl
theorem ty79 : (CC W).ty 79 = some T79 := _root_.id rfl
theorem ty80 : (CC W).ty 80 = some T80 := _root_.id rfl
theorem ty81 : (CC W).ty 81 = some T81 := _root_.id rfl
theorem ty82 : (CC W).ty 82 = some T82 := _root_.id rfl
theorem ty83 : (CC W).ty 83 = some T83 := _root_.id rfl
theorem ty84 : (CC W).ty 84 = some T84 := _root_.id rfl
theorem ty85 : (CC W).ty 85 = some T85 := _root_.id rfl
theorem ty86 : (CC W).ty 86 = some T86 := _root_.id rfl
theorem ty87 : (CC W).ty 87 = some T87 := _root_.id rfl
theorem ty88 : (CC W).ty 88 = some T88 := _root_.id rfl
theorem ty89 : (CC W).ty 89 = some T89 := _root_.id rfl
theorem ty90 : (CC W).ty 90 = some T90 := _root_.id rfl
theorem ty91 : (CC W).ty 91 = some T91 := _root_.id rfl
theorem ty92 : (CC W).ty 92 = some T92 := _root_.id rfl
theorem ty93 : (CC W).ty 93 = some T93 := _root_.id rfl
theorem ty94 : (CC W).ty 94 = some T94 := _root_.id rfl
theorem ty95 : (CC W).ty 95 = some T95 := _root_.id rfl
theorem ty96 : (CC W).ty 96 = some T96 := _root_.id rfl
theorem ty97 : (CC W).ty 97 = some T97 := _root_.id rfl
theorem ty98 : (CC W).ty 98 = some T98 := _root_.id rfl
theorem ty99 : (CC W).ty 99 = some T99 := _root_.id rfl
theorem ty100 : (CC W).ty 100 = some T100 := _root_.id rfl
theorem ty101 : (CC W).ty 101 = some T101 := _root_.id rfl
theorem ty102 : (CC W).ty 102 = some T102 := _root_.id rfl
theorem ty103 : (CC W).ty 103 = some T103 := _root_.id rfl
theorem ty104 : (CC W).ty 104 = some T104 := _root_.id rfl
theorem ty105 : (CC W).ty 105 = some T105 := _root_.id rfl
theorem ty106 : (CC W).ty 106 = some T106 := _root_.id rfl
theorem ty107 : (CC W).ty 107 = some T107 := _root_.id rfl
theorem ty108 : (CC W).ty 108 = some T108 := _root_.id rfl
theorem ty109 : (CC W).ty 109 = some T109 := _root_.id rfl
theorem kind0 : (CC W).kind 0 = .tuple := _root_.id rfl
theorem size0 : (CC W).size 0 = some 1 := _root_.id rfl
theorem kind1 : (CC W).kind 1 = .func := _root_.id rfl
theorem size1 : (CC W).size 1 = some 1 := _root_.id rfl
theorem zero1 : (CC W).zero 1 = (some [.nilfn]) := _root_.id rfl
theorem kind2 : (CC W).kind 2 = .int .i64 := _root_.id rfl
theorem size2 : (CC W).size 2 = some 1 := _root_.id rfl
theorem zero2 : (CC W).zero 2 = (some [.int .i64 0]) := _root_.id rfl
theorem kind3 : (CC W).kind 3 = .int .i64 := _root_.id rfl
theorem size3 : (CC W).size 3 = some 1 := _root_.id rfl
theorem zero3 : (CC W).zero 3 = (some [.int .i64 0]) := _root_.id rfl
theorem kind4 : (CC W).kind 4 = .bool := _root_.id rfl
theorem size4 : (CC W).size 4 = some 1 := _root_.id rfl
theorem zero4 : (CC W).zero 4 = (some [.bool false]) := _root_.id rfl
theorem kind5 : (CC W).kind 5 = .int .u8 := _root_.id rfl
theorem size5 : (CC W).size 5 = some 1 := _root_.id rfl
theorem zero5 : (CC W).zero 5 = (some [.int .u8 0]) := _root_.id rfl
theorem kind6 : (CC W).kind 6 = .int .u8 := _root_.id rfl
theorem size6 : (CC W).size 6 = some 1 := _root_.id rfl
theorem zero6 : (CC W).zero 6 = (some [.int .u8 0]) := _root_.id rfl
theorem kind7 : (CC W).kind 7 = .struct [(0, 2), (1, 3), (2, 4), (3, 6)] true := _root_.id rfl
theorem size7 : (CC W).size 7 = some 4 := _root_.id rfl
theorem zero7 : (CC W).zero 7 = (some [.int .i64 0, .int .i64 0, .bool false, .int .u8 0]) := _root_.id rfl
theorem kind8 : (CC W).kind 8 = .struct [(0, 2), (1, 3), (2, 4), (3, 6)] true := _root_.id rfl
theorem size8 : (CC W).size 8 = some 4 := _root_.id rfl
theorem zero8 : (CC W).zero 8 = (some [.int .i64 0, .int .i64 0, .bool false, .int .u8 0]) := _root_.id rfl
theorem kind9 : (CC W).kind 9 = .str := _root_.id rfl
theorem size9 : (CC W).size 9 = some 1 := _root_.id rfl
theorem zero9 : (CC W).zero 9 = (some [.str []]) := _root_.id rfl
theorem kind10 : (CC W).kind 10 = .str := _root_.id rfl
theorem size10 : (CC W).size 10 = some 1 := _root_.id rfl
theorem zero10 : (CC W).zero 10 = (some [.str []]) := _root_.id rfl
theorem kind11 : (CC W).kind 11 = .str := _root_.id rfl
theorem size11 : (CC W).size 11 = some 1 := _root_.id rfl
theorem zero11 : (CC W).zero 11 = (some [.str []]) := _root_.id rfl
theorem kind12 : (CC W).kind 12 = .int .u64 := _root_.id rfl
theorem size12 : (CC W).size 12 = some 1 := _root_.id rfl
theorem zero12 : (CC W).zero 12 = (some [.int .u64 0]) := _root_.id rfl
theorem kind13 : (CC W).kind 13 = .struct [(0, 9), (1, 12)] false := _root_.id rfl
theorem size13 : (CC W).size 13 = some 2 := _root_.id rfl
theorem zero13 : (CC W).zero 13 = (some [.str [], .int .u64 0]) := _root_.id rfl
theorem kind14 : (CC W).kind 14 = .struct [(0, 9), (1, 12)] false := _root_.id rfl
theorem size14 : (CC W).size 14 = some 2 := _root_.id rfl
theorem zero14 : (CC W).zero 14 = (some [.str [], .int .u64 0]) := _root_.id rfl
theorem kind15 : (CC W).kind 15 = .ptr 97 := _root_.id rfl
theorem size15 : (CC W).size 15 = some 1 := _root_.id rfl
theorem zero15 : (CC W).zero 15 = (some [.ptr none]) := _root_.id rfl
theorem kind16 : (CC W).kind 16 = .ptr 100 := _root_.id rfl
theorem size16 : (CC W).size 16 = some 1 := _root_.id rfl
theorem zero16 : (CC W).zero 16 = (some [.ptr none]) := _root_.id rfl
theorem kind17 : (CC W).kind 17 = .ptr 109 := _root_.id rfl
theorem size17 : (CC W).size 17 = some 1 := _root_.id rfl
theorem zero17 : (CC W).zero 17 = (some [.ptr none]) := _root_.id rfl
theorem kind18 : (CC W).kind 18 = .struct [(0, 17)] false := _root_.id rfl
theorem size18 : (CC W).size 18 = some 1 := _root_.id rfl
theorem zero18 : (CC W).zero 18 = (some [.ptr none]) := _root_.id rfl
theorem kind19 : (CC W).kind 19 = .struct [(0, 17)] false := _root_.id rfl
theorem size19 : (CC W).size 19 = some 1 := _root_.id rfl
theorem zero19 : (CC W).zero 19 = (some [.ptr none]) := _root_.id rfl
theorem kind20 : (CC W).kind 20 = .iface true := _root_.id rfl
theorem size20 : (CC W).size 20 = some 1 := _root_.id rfl
theorem zero20 : (CC W).zero 20 = (some [.nilifc]) := _root_.id rfl
theorem kind21 : (CC W).kind 21 = .int .i32 := _root_.id rfl
theorem size21 : (CC W).size 21 = some 1 := _root_.id rfl
theorem zero21 : (CC W).zero 21 = (some [.int .i32 0]) := _root_.id rfl
theorem kind22 : (CC W).kind 22 = .slice 27 := _root_.id rfl
theorem size22 : (CC W).size 22 = some 1 := _root_.id rfl
theorem zero22 : (CC W).zero 22 = (some [.sl none 0 0 none]) := _root_.id rfl
theorem kind23 : (CC W).kind 23 = .ptr 62 := _root_.id rfl
theorem size23 : (CC W).size 23 = some 1 := _root_.id rfl
theorem zero23 : (CC W).zero 23 = (some [.ptr none]) := _root_.id rfl
theorem kind24 : (CC W).kind 24 = .func := _root_.id rfl
theorem size24 : (CC W).size 24 = some 1 := _root_.id rfl
theorem zero24 : (CC W).zero 24 = (some [.nilfn]) := _root_.id rfl
theorem kind25 : (CC W).kind 25 = .array 16 4 := _root_.id rfl
theorem size25 : (CC W).size 25 = some 16 := _root_.id rfl
theorem zero25 : (CC W).zero 25 = (some [.bool false, .bool false, .bool false, .bool false, .bool false, .bool false, .bool false, .bool false, .bool false, .bool false, .bool false, .bool false, .bool false, .bool false, .bool false, .bool false]) := _root_.id rfl
theorem kind26 : (CC W).kind 26 = .struct [(0, 3), (1, 3), (2, 3), (3, 3), (4, 9)] true := _root_.id rfl
theorem size26 : (CC W).size 26 = some 5 := _root_.id rfl
theorem zero26 : (CC W).zero 26 = (some [.int .i64 0, .int .i64 0, .int .i64 0, .int .i64 0, .str []]) := _root_.id rfl
theorem kind27 : (CC W).kind 27 = .struct [(0, 3), (1, 3), (2, 3), (3, 3), (4, 9)] true := _root_.id rfl
theorem size27 : (CC W).size 27 = some 5 := _root_.id rfl
theorem zero27 : (CC W).zero 27 = (some [.int .i64 0, .int .i64 0, .int .i64 0, .int .i64 0, .str []]) := _root_.id rfl
theorem kind28 : (CC W).kind 28 = .int .i64 := _root_.id rfl
theorem size28 : (CC W).size 28 = some 1 := _root_.id rfl
theorem zero28 : (CC W).zero 28 = (some [.int .i64 0]) := _root_.id rfl
theorem kind29 : (CC W).kind 29 = .tuple := _root_.id rfl
theorem size29 : (CC W).size 29 = some 1 := _root_.id rfl
theorem kind30 : (CC W).kind 30 = .func := _root_.id rfl
theorem size30 : (CC W).size 30 = some 1 := _root_.id rfl
theorem zero30 : (CC W).zero 30 = (some [.nilfn]) := _root_.id rfl
theorem kind31 : (CC W).kind 31 = .slice 9 := _root_.id rfl
theorem size31 : (CC W).size 31 = some 1 := _root_.id rfl
theorem zero31 : (CC W).zero 31 = (some [.sl none 0 0 none]) := _root_.id rfl
theorem kind32 : (CC W).kind 32 = .tuple := _root_.id rfl
theorem size32 : (CC W).size 32 = some 1 := _root_.id rfl
theorem kind33 : (CC W).kind 33 = .func := _root_.id rfl
theorem size33 : (CC W).size 33 = some 1 := _root_.id rfl
theorem zero33 : (CC W).zero 33 = (some [.nilfn]) := _root_.id rfl
theorem kind34 : (CC W).kind 34 = .func := _root_.id rfl
theorem size34 : (CC W).size 34 = some 1 := _root_.id rfl
theorem zero34 : (CC W).zero 34 = (some [.nilfn]) := _root_.id rfl
theorem kind35 : (CC W).kind 35 = .slice 3 := _root_.id rfl
theorem size35 : (CC W).size 35 = some 1 := _root_.id rfl
theorem zero35 : (CC W).zero 35 = (some [.sl none 0 0 none]) := _root_.id rfl
theorem kind36 : (CC W).kind 36 = .func := _root_.id rfl
theorem size36 : (CC W).size 36 = some 1 := _root_.id rfl
theorem zero36 : (CC W).zero 36 = (some [.nilfn]) := _root_.id rfl
theorem kind37 : (CC W).kind 37 = .func := _root_.id rfl
theorem size37 : (CC W).size 37 = some 1 := _root_.id rfl
theorem zero37 : (CC W).zero 37 = (some [.nilfn]) := _root_.id rfl
theorem kind38 : (CC W).kind 38 = .func := _root_.id rfl
theorem size38 : (CC W).size 38 = some 1 := _root_.id rfl
theorem zero38 : (CC W).zero 38 = (some [.nilfn]) := _root_.id rfl
theorem kind39 : (CC W).kind 39 = .func := _root_.id rfl
theorem size39 : (CC W).size 39 = some 1 := _root_.id rfl
theorem zero39 : (CC W).zero 39 = (some [.nilfn]) := _root_.id rfl
theorem kind40 : (CC W).kind 40 = .struct [(0, 3), (1, 3), (2, 3), (3, 9), (4, 9), (5, 9)] true := _root_.id rfl
theorem size40 : (CC W).size 40 = some 6 := _root_.id rfl
theorem zero40 : (CC W).zero 40 = (some [.int .i64 0, .int .i64 0, .int .i64 0, .str [], .str [], .str []]) := _root_.id rfl
theorem kind41 : (CC W).kind 41 = .struct [(0, 3), (1, 3), (2, 3), (3, 9), (4, 9), (5, 9)] true := _root_.id rfl
theorem size41 : (CC W).size 41 = some 6 := _root_.id rfl
theorem zero41 : (CC W).zero 41 = (some [.int .i64 0, .int .i64 0, .int .i64 0, .str [], .str [], .str []]) := _root_.id rfl
theorem kind42 : (CC W).kind 42 = .tuple := _root_.id rfl
theorem size42 : (CC W).size 42 = some 1 := _root_.id rfl
theorem kind43 : (CC W).kind 43 = .func := _root_.id rfl
theorem size43 : (CC W).size 43 = some 1 := _root_.id rfl
theorem zero43 : (CC W).zero 43 = (some [.nilfn]) := _root_.id rfl
theorem kind44 : (CC W).kind 44 = .func := _root_.id rfl
theorem size44 : (CC W).size 44 = some 1 := _root_.id rfl
theorem zero44 : (CC W).zero 44 = (some [.nilfn]) := _root_.id rfl
theorem kind45 : (CC W).kind 45 = .func := _root_.id rfl
theorem size45 : (CC W).size 45 = some 1 := _root_.id rfl
theorem zero45 : (CC W).zero 45 = (some [.nilfn]) := _root_.id rfl
theorem kind46 : (CC W).kind 46 = .tuple := _root_.id rfl
theorem size46 : (CC W).size 46 = some 1 := _root_.id rfl
theorem kind47 : (CC W).kind 47 = .func := _root_.id rfl
theorem size47 : (CC W).size 47 = some 1 := _root_.id rfl
theorem zero47 : (CC W).zero 47 = (some [.nilfn]) := _root_.id rfl
theorem kind48 : (CC W).kind 48 = .ptr 51 := _root_.id rfl
theorem size48 : (CC W).size 48 = some 1 := _root_.id rfl
theorem zero48 : (CC W).zero 48 = (some [.ptr none]) := _root_.id rfl
theorem kind49 : (CC W).kind 49 = .slice 54 := _root_.id rfl
theorem size49 : (CC W).size 49 = some 1 := _root_.id rfl
theorem zero49 : (CC W).zero 49 = (some [.sl none 0 0 none]) := _root_.id rfl
theorem kind50 : (CC W).kind 50 = .struct [(0, 49)] true := _root_.id rfl
theorem size50 : (CC W).size 50 = some 1 := _root_.id rfl
theorem zero50 : (CC W).zero 50 = (some [.sl none 0 0 none]) := _root_.id rfl
theorem kind51 : (CC W).kind 51 = .struct [(0, 49)] true := _root_.id rfl
theorem size51 : (CC W).size 51 = some 1 := _root_.id rfl
theorem zero51 : (CC W).zero 51 = (some [.sl none 0 0 none]) := _root_.id rfl
theorem kind52 : (CC W).kind 52 = .func := _root_.id rfl
theorem size52 : (CC W).size 52 = some 1 := _root_.id rfl
theorem zero52 : (CC W).zero 52 = (some [.nilfn]) := _root_.id rfl
theorem kind53 : (CC W).kind 53 = .struct [(0, 3), (1, 3), (2, 9)] true := _root_.id rfl
theorem size53 : (CC W).size 53 = some 3 := _root_.id rfl
theorem zero53 : (CC W).zero 53 = (some [.int .i64 0, .int .i64 0, .str []]) := _root_.id rfl
theorem kind54 : (CC W).kind 54 = .struct [(0, 3), (1, 3), (2, 9)] true := _root_.id rfl
theorem size54 : (CC W).size 54 = some 3 := _root_.id rfl
theorem zero54 : (CC W).zero 54 = (some [.int .i64 0, .int .i64 0, .str []]) := _root_.id rfl
theorem kind55 : (CC W).kind 55 = .func := _root_.id rfl
theorem size55 : (CC W).size 55 = some 1 := _root_.id rfl
theorem zero55 : (CC W).zero 55 = (some [.nilfn]) := _root_.id rfl
theorem kind56 : (CC W).kind 56 = .func := _root_.id rfl
theorem size56 : (CC W).size 56 = some 1 := _root_.id rfl
theorem zero56 : (CC W).zero 56 = (some [.nilfn]) := _root_.id rfl
theorem kind57 : (CC W).kind 57 = .func := _root_.id rfl
theorem size57 : (CC W).size 57 = some 1 := _root_.id rfl
theorem zero57 : (CC W).zero 57 = (some [.nilfn]) := _root_.id rfl
theorem kind58 : (CC W).kind 58 = .struct [(0, 9), (1, 3)] true := _root_.id rfl
theorem size58 : (CC W).size 58 = some 2 := _root_.id rfl
theorem zero58 : (CC W).zero 58 = (some [.str [], .int .i64 0]) := _root_.id rfl
theorem kind59 : (CC W).kind 59 = .struct [(0, 9), (1, 3)] true := _root_.id rfl
theorem size59 : (CC W).size 59 = some 2 := _root_.id rfl
theorem zero59 : (CC W).zero 59 = (some [.str [], .int .i64 0]) := _root_.id rfl
theorem kind60 : (CC W).kind 60 = .array 16 59 := _root_.id rfl
theorem size60 : (CC W).size 60 = some 32 := _root_.id rfl
theorem kind61 : (CC W).kind 61 = .struct [(0, 60)] true := _root_.id rfl
theorem size61 : (CC W).size 61 = some 32 := _root_.id rfl
theorem kind62 : (CC W).kind 62 = .struct [(0, 60)] true := _root_.id rfl
theorem size62 : (CC W).size 62 = some 32 := _root_.id rfl
theorem kind63 : (CC W).kind 63 = .tuple := _root_.id rfl
theorem size63 : (CC W).size 63 = some 1 := _root_.id rfl
theorem kind64 : (CC W).kind 64 = .func := _root_.id rfl
theorem size64 : (CC W).size 64 = some 1 := _root_.id rfl
theorem zero64 : (CC W).zero 64 = (some [.nilfn]) := _root_.id rfl
theorem kind65 : (CC W).kind 65 = .func := _root_.id rfl
theorem size65 : (CC W).size 65 = some 1 := _root_.id rfl
theorem zero65 : (CC W).zero 65 = (some [.nilfn]) := _root_.id rfl
theorem kind66 : (CC W).kind 66 = .ptr 59 := _root_.id rfl
theorem size66 : (CC W).size 66 = some 1 := _root_.id rfl
theorem zero66 : (CC W).zero 66 = (some [.ptr none]) := _root_.id rfl
theorem kind67 : (CC W).kind 67 = .tuple := _root_.id rfl
theorem size67 : (CC W).size 67 = some 1 := _root_.id rfl
theorem kind68 : (CC W).kind 68 = .func := _root_.id rfl
theorem size68 : (CC W).size 68 = some 1 := _root_.id rfl
theorem zero68 : (CC W).zero 68 = (some [.nilfn]) := _root_.id rfl
theorem kind69 : (CC W).kind 69 = .func := _root_.id rfl
theorem size69 : (CC W).size 69 = some 1 := _root_.id rfl
theorem zero69 : (CC W).zero 69 = (some [.nilfn]) := _root_.id rfl
theorem kind70 : (CC W).kind 70 = .tuple := _root_.id rfl
theorem size70 : (CC W).size 70 = some 1 := _root_.id rfl
theorem kind71 : (CC W).kind 71 = .func := _root_.id rfl
theorem size71 : (CC W).size 71 = some 1 := _root_.id rfl
theorem zero71 : (CC W).zero 71 = (some [.nilfn]) := _root_.id rfl
theorem kind72 : (CC W).kind 72 = .func := _root_.id rfl
theorem size72 : (CC W).size 72 = some 1 := _root_.id rfl
theorem zero72 : (CC W).zero 72 = (some [.nilfn]) := _root_.id rfl
theorem kind73 : (CC W).kind 73 = .tuple := _root_.id rfl
theorem size73 : (CC W).size 73 = some 1 := _root_.id rfl
theorem kind74 : (CC W).kind 74 = .func := _root_.id rfl
theorem size74 : (CC W).size 74 = some 1 := _root_.id rfl
theorem zero74 : (CC W).zero 74 = (some [.nilfn]) := _root_.id rfl
theorem kind75 : (CC W).kind 75 = .func := _root_.id rfl
theorem size75 : (CC W).size 75 = some 1 := _root_.id rfl
theorem zero75 : (CC W).zero 75 = (some [.nilfn]) := _root_.id rfl
theorem kind76 : (CC W).kind 76 = .tuple := _root_.id rfl
theorem size76 : (CC W).size 76 = some 1 := _root_.id rfl
theorem kind77 : (CC W).kind 77 = .func := _root_.id rfl
theorem size77 : (CC W).size 77 = some 1 := _root_.id rfl
theorem zero77 : (CC W).zero 77 = (some [.nilfn]) := _root_.id rfl
theorem kind78 : (CC W).kind 78 = .func := _root_.id rfl
theorem size78 : (CC W).size 78 = some 1 := _root_.id rfl
theorem zero78 : (CC W).zero 78 = (some [.nilfn]) := _root_.id rfl
theorem kind79 : (CC W).kind 79 = .func := _root_.id rfl
theorem size79 : (CC W).size 79 = some 1 := _root_.id rfl
theorem zero79 : (CC W).zero 79 = (some [.nilfn]) := _root_.id rfl
theorem kind80 : (CC W).kind 80 = .func := _root_.id rfl
theorem size80 : (CC W).size 80 = some 1 := _root_.id rfl
theorem zero80 : (CC W).zero 80 = (some [.nilfn]) := _root_.id rfl
theorem kind81 : (CC W).kind 81 = .func := _root_.id rfl
theorem size81 : (CC W).size 81 = some 1 := _root_.id rfl
theorem zero81 : (CC W).zero 81 = (some [.nilfn]) := _root_.id rfl
theorem kind82 : (CC W).kind 82 = .func := _root_.id rfl
theorem size82 : (CC W).size 82 = some 1 := _root_.id rfl
theorem zero82 : (CC W).zero 82 = (some [.nilfn]) := _root_.id rfl
theorem kind83 : (CC W).kind 83 = .func := _root_.id rfl
theorem size83 : (CC W).size 83 = some 1 := _root_.id rfl
theorem zero83 : (CC W).zero 83 = (some [.nilfn]) := _root_.id rfl
theorem kind84 : (CC W).kind 84 = .tuple := _root_.id rfl
theorem size84 : (CC W).size 84 = some 1 := _root_.id rfl
theorem kind85 : (CC W).kind 85 = .func := _root_.id rfl
theorem size85 : (CC W).size 85 = some 1 := _root_.id rfl
theorem zero85 : (CC W).zero 85 = (some [.nilfn]) := _root_.id rfl
theorem kind86 : (CC W).kind 86 = .func := _root_.id rfl
theorem size86 : (CC W).size 86 = some 1 := _root_.id rfl
theorem zero86 : (CC W).zero 86 = (some [.nilfn]) := _root_.id rfl
theorem kind87 : (CC W).kind 87 = .int .u64 := _root_.id rfl
theorem size87 : (CC W).size 87 = some 1 := _root_.id rfl
theorem zero87 : (CC W).zero 87 = (some [.int .u64 0]) := _root_.id rfl
theorem kind88 : (CC W).kind 88 = .array 256 5 := _root_.id rfl
theorem size88 : (CC W).size 88 = some 256 := _root_.id rfl
theorem kind89 : (CC W).kind 89 = .struct [(0, 5), (1, 5)] true := _root_.id rfl
theorem size89 : (CC W).size 89 = some 2 := _root_.id rfl
theorem zero89 : (CC W).zero 89 = (some [.int .u8 0, .int .u8 0]) := _root_.id rfl
theorem kind90 : (CC W).kind 90 = .struct [(0, 5), (1, 5)] true := _root_.id rfl
theorem size90 : (CC W).size 90 = some 2 := _root_.id rfl
theorem zero90 : (CC W).zero 90 = (some [.int .u8 0, .int .u8 0]) := _root_.id rfl
theorem kind91 : (CC W).kind 91 = .array 16 90 := _root_.id rfl
theorem size91 : (CC W).size 91 = some 32 := _root_.id rfl
theorem kind92 : (CC W).kind 92 = .int .u32 := _root_.id rfl
theorem size92 : (CC W).size 92 = some 1 := _root_.id rfl
theorem zero92 : (CC W).zero 92 = (some [.int .u32 0]) := _root_.id rfl
theorem kind93 : (CC W).kind 93 = .tuple := _root_.id rfl
theorem size93 : (CC W).size 93 = some 1 := _root_.id rfl
theorem kind94 : (CC W).kind 94 = .func := _root_.id rfl
theorem size94 : (CC W).size 94 = some 1 := _root_.id rfl
theorem zero94 : (CC W).zero 94 = (some [.nilfn]) := _root_.id rfl
theorem kind95 : (CC W).kind 95 = .func := _root_.id rfl
theorem size95 : (CC W).size 95 = some 1 := _root_.id rfl
theorem zero95 : (CC W).zero 95 = (some [.nilfn]) := _root_.id rfl
theorem kind96 : (CC W).kind 96 = .struct [(0, 17), (1, 17), (2, 17), (3, 9)] false := _root_.id rfl
theorem size96 : (CC W).size 96 = some 4 := _root_.id rfl
theorem zero96 : (CC W).zero 96 = (some [.ptr none, .ptr none, .ptr none, .str []]) := _root_.id rfl
theorem kind97 : (CC W).kind 97 = .struct [(0, 17), (1, 17), (2, 17), (3, 9)] false := _root_.id rfl
theorem size97 : (CC W).size 97 = some 4 := _root_.id rfl
theorem zero97 : (CC W).zero 97 = (some [.ptr none, .ptr none, .ptr none, .str []]) := _root_.id rfl
theorem kind98 : (CC W).kind 98 = .array 0 16 := _root_.id rfl
theorem size98 : (CC W).size 98 = some 0 := _root_.id rfl
theorem zero98 : (CC W).zero 98 = (some []) := _root_.id rfl
theorem kind99 : (CC W).kind 99 = .struct [(0, 98)] false := _root_.id rfl
theorem size99 : (CC W).size 99 = some 0 := _root_.id rfl
theorem zero99 : (CC W).zero 99 = (some []) := _root_.id rfl
theorem kind100 : (CC W).kind 100 = .struct [(0, 98)] false := _root_.id rfl
theorem size100 : (CC W).size 100 = some 0 := _root_.id rfl
theorem zero100 : (CC W).zero 100 = (some []) := _root_.id rfl
theorem kind101 : (CC W).kind 101 = .func := _root_.id rfl
theorem size101 : (CC W).size 101 = some 1 := _root_.id rfl
theorem zero101 : (CC W).zero 101 = (some [.nilfn]) := _root_.id rfl
theorem kind102 : (CC W).kind 102 = .int .u8 := _root_.id rfl
theorem size102 : (CC W).size 102 = some 1 := _root_.id rfl
theorem zero102 : (CC W).zero 102 = (some [.int .u8 0]) := _root_.id rfl
theorem kind103 : (CC W).kind 103 = .int .u8 := _root_.id rfl
theorem size103 : (CC W).size 103 = some 1 := _root_.id rfl
theorem zero103 : (CC W).zero 103 = (some [.int .u8 0]) := _root_.id rfl
theorem kind104 : (CC W).kind 104 = .func := _root_.id rfl
theorem size104 : (CC W).size 104 = some 1 := _root_.id rfl
theorem zero104 : (CC W).zero 104 = (some [.nilfn]) := _root_.id rfl
theorem kind105 : (CC W).kind 105 = .ptr 5 := _root_.id rfl
theorem size105 : (CC W).size 105 = some 1 := _root_.id rfl
theorem zero105 : (CC W).zero 105 = (some [.ptr none]) := _root_.id rfl
theorem kind106 : (CC W).kind 106 = .int .i32 := _root_.id rfl
theorem size106 : (CC W).size 106 = some 1 := _root_.id rfl
theorem zero106 : (CC W).zero 106 = (some [.int .i32 0]) := _root_.id rfl
theorem kind107 : (CC W).kind 107 = .int .i32 := _root_.id rfl
theorem size107 : (CC W).size 107 = some 1 := _root_.id rfl
theorem zero107 : (CC W).zero 107 = (some [.int .i32 0]) := _root_.id rfl
theorem kind108 : (CC W).kind 108 = .struct [(0, 12), (1, 12), (2, 92), (3, 102), (4, 5), (5, 5), (6, 103), (7, 104), (8, 105), (9, 106), (10, 107)] false := _root_.id rfl
theorem size108 : (CC W).size 108 = some 11 := _root_.id rfl
theorem zero108 : (CC W).zero 108 = (some [.int .u64 0, .int .u64 0, .int .u32 0, .int .u8 0, .int .u8 0, .int .u8 0, .int .u8 0, .nilfn, .ptr none, .int .i32 0, .int .i32 0]) := _root_.id rfl
theorem kind109 : (CC W).kind 109 = .struct [(0, 12), (1, 12), (2, 92), (3, 102), (4, 5), (5, 5), (6, 103), (7, 104), (8, 105), (9, 106), (10, 107)] false := _root_.id rfl
theorem size109 : (CC W).size 109 = some 11 := _root_.id rfl
theorem zero109 : (CC W).zero 109 = (some [.int .u64 0, .int .u64 0, .int .u32 0, .int .u8 0, .int .u8 0, .int .u8 0, .int .u8 0, .nilfn, .ptr none, .int .i32 0, .int .i32 0]) := _root_.id rfl
theorem fn2 : (CC W).fn 2 = some Tryd.f2 := _root_.id rfl
theorem fn3 : (CC W).fn 3 = some Tryd.f3 := _root_.id rfl
theorem fn4 : (CC W).fn 4 = some Tryd.f4 := _root_.id rfl
theorem fn5 : (CC W).fn 5 = some Tryd.f5 := _root_.id rfl
theorem fn6 : (CC W).fn 6 = some Tryd.f6 := _root_.id rfl
theorem fn7 : (CC W).fn 7 = some Tryd.f7 := _root_.id rfl
theorem fn8 : (CC W).fn 8 = some Tryd.f8 := _root_.id rfl
theorem fn9 : (CC W).fn 9 = some Tryd.f9 := _root_.id rfl
theorem fn10 : (CC W).fn 10 = some Tryd.f10 := _root_.id rfl
theorem fn11 : (CC W).fn 11 = some Tryd.f11 := _root_.id rfl
theorem fn12 : (CC W).fn 12 = some Tryd.f12 := _root_.id rfl
theorem fn13 : (CC W).fn 13 = some Tryd.f13 := _root_.id rfl
theorem fn14 : (CC W).fn 14 = some Tryd.f14 := _root_.id rfl
theorem fn15 : (CC W).fn 15 = some Tryd.f15 := _root_.id rfl
theorem fn16 : (CC W).fn 16 = some Tryd.f16 := _root_.id rfl
theorem fn17 : (CC W).fn 17 = some Tryd.f17 := _root_.id rfl
theorem fn18 : (CC W).fn 18 = some Tryd.f18 := _root_.id rfl
theorem fn19 : (CC W).fn 19 = some Tryd.f19 := _root_.id rfl
theorem fn20 : (CC W).fn 20 = some Tryd.f20 := _root_.id rfl
theorem fn21 : (CC W).fn 21 = some Tryd.f21 := _root_.id rfl
theorem fn22 : (CC W).fn 22 = some Tryd.f22 := _root_.id rfl
theorem fn23 : (CC W).fn 23 = some Tryd.f23 := _root_.id rfl
theorem fn24 : (CC W).fn 24 = some Tryd.f24 := _root_.id rfl
theorem fn25 : (CC W).fn 25 = some Tryd.f25 := _root_.id rfl
theorem fn26 : (CC W).fn 26 = some Tryd.f26 := _root_.id rfl
theorem fn27 : (CC W).fn 27 = some Tryd.f27 := _root_.id rfl
theorem fn28 : (CC W).fn 28 = some Tryd.f28 := _root_.id rfl
theorem fn29 : (CC W).fn 29 = some Tryd.f29 := _root_.id rfl
theorem fn30 : (CC W).fn 30 = some Tryd.f30 := _root_.id rfl
theorem fn31 : (CC W).fn 31 = some Tryd.f31 := _root_.id rfl
theorem fn32 : (CC W).fn 32 = some Tryd.f32 := _root_.id rfl
theorem fn33 : (CC W).fn 33 = some Tryd.f33 := _root_.id rfl
theorem fn34 : (CC W).fn 34 = some Tryd.f34 := _root_.id rfl
theorem fn35 : (CC W).fn 35 = some Tryd.f35 := _root_.id rfl
theorem fn36 : (CC W).fn 36 = some Tryd.f36 := _root_.id rfl
theorem fn37 : (CC W).fn 37 = some Tryd.f37 := _root_.id rfl
theorem fn38 : (CC W).fn 38 = some Tryd.f38 := _root_.id rfl
theorem fn39 : (CC W).fn 39 = some Tryd.f39 := _root_.id rfl
theorem fn40 : (CC W).fn 40 = some Tryd.f40 := _root_.id rfl
theorem fn42 : (CC W).fn 42 = some Tryd.f42 := _root_.id rfl
theorem fn43 : (CC W).fn 43 = some Tryd.f43 := _root_.id rfl
theorem fn44 : (CC W).fn 44 = some Tryd.f44 := _root_.id rfl
theorem fn46 : (CC W).fn 46 = some Tryd.f46 := _root_.id rfl
theorem fn47 : (CC W).fn 47 = some Tryd.f47 := _root_.id rfl
theorem fn49 : (CC W).fn 49 = some Tryd.f49 := _root_.id rfl
theorem fn71 : (CC W).fn 71 = some Tryd.f71 := _root_.id rfl
end
end Go.Proofs.YteedadelgpagfaaDoor.Ax
