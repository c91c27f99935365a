/- The texts Tab, as one. -/
import Derived.Test.YtbofhlifobjolaaGreatDoorProg
import Derived.Test.YtbofhlifobjolaaGreatDoorGba
import Derived.KernelRfl
section
set_option linter.unusedVariables false
set_option linter.unusedSimpArgs false
set_option maxRecDepth 100000
namespace Go.Proofs.YtbofhlifobjolaaGreatDoor.Ax
open Go.RowKit
def T0:ATy:=⟨.tuple,1,0,none⟩
def T1:ATy:=⟨.func,1,8,(some [.nilfn])⟩
def T2:ATy:=⟨.int .i64,1,8,(some [.int .i64 0])⟩
def T3:ATy:=⟨.int .i64,1,8,(some [.int .i64 0])⟩
def T4:ATy:=⟨.bool,1,1,(some [.bool false])⟩
def T5:ATy:=⟨.int .u8,1,1,(some [.int .u8 0])⟩
def T6:ATy:=⟨.int .u8,1,1,(some [.int .u8 0])⟩
def T7:ATy:=⟨.struct [(0,2),(1,3),(2,4),(3,6)] true,4,24,(some [.int .i64 0,.int .i64 0,.bool false,.int .u8 0])⟩
def T8:ATy:=⟨.struct [(0,2),(1,3),(2,4),(3,6)] true,4,24,(some [.int .i64 0,.int .i64 0,.bool false,.int .u8 0])⟩
def T9:ATy:=⟨.str,1,16,(some [.str []])⟩
def T10:ATy:=⟨.str,1,16,(some [.str []])⟩
def T11:ATy:=⟨.str,1,16,(some [.str []])⟩
def T12:ATy:=⟨.int .u64,1,8,(some [.int .u64 0])⟩
def T13:ATy:=⟨.struct [(0,9),(1,12)] false,2,24,(some [.str [],.int .u64 0])⟩
def T14:ATy:=⟨.struct [(0,9),(1,12)] false,2,24,(some [.str [],.int .u64 0])⟩
def T15:ATy:=⟨.ptr 275,1,8,(some [.ptr none])⟩
def T16:ATy:=⟨.ptr 278,1,8,(some [.ptr none])⟩
def T17:ATy:=⟨.ptr 285,1,8,(some [.ptr none])⟩
def T18:ATy:=⟨.struct [(0,17)] false,1,8,(some [.ptr none])⟩
def T19:ATy:=⟨.struct [(0,17)] false,1,8,(some [.ptr none])⟩
def T20:ATy:=⟨.iface true,1,16,(some [.nilifc])⟩
def T21:ATy:=⟨.int .i32,1,4,(some [.int .i32 0])⟩
def T22:ATy:=⟨.struct [(0,3),(1,3),(2,3)] true,3,24,(some [.int .i64 0,.int .i64 0,.int .i64 0])⟩
def T23:ATy:=⟨.struct [(0,3),(1,3),(2,3)] true,3,24,(some [.int .i64 0,.int .i64 0,.int .i64 0])⟩
def T24:ATy:=⟨.slice 35,1,24,(some [.sl none 0 0 none])⟩
def T25:ATy:=⟨.ptr 88,1,8,(some [.ptr none])⟩
def T26:ATy:=⟨.int .i64,1,8,(some [.int .i64 0])⟩
def T27:ATy:=⟨.tuple,1,0,none⟩
def T28:ATy:=⟨.func,1,8,(some [.nilfn])⟩
def T29:ATy:=⟨.ptr 60,1,8,(some [.ptr none])⟩
def T30:ATy:=⟨.tuple,1,0,none⟩
def T31:ATy:=⟨.func,1,8,(some [.nilfn])⟩
def T32:ATy:=⟨.func,1,8,(some [.nilfn])⟩
def T33:ATy:=⟨.func,1,8,(some [.nilfn])⟩
def T34:ATy:=⟨.struct [(0,3),(1,3),(2,3),(3,9),(4,9),(5,9)] true,6,72,(some [.int .i64 0,.int .i64 0,.int .i64 0,.str [],.str [],.str []])⟩
def T35:ATy:=⟨.struct [(0,3),(1,3),(2,3),(3,9),(4,9),(5,9)] true,6,72,(some [.int .i64 0,.int .i64 0,.int .i64 0,.str [],.str [],.str []])⟩
def T36:ATy:=⟨.func,1,8,(some [.nilfn])⟩
def T37:ATy:=⟨.slice 9,1,24,(some [.sl none 0 0 none])⟩
def T38:ATy:=⟨.struct [(0,26),(1,9),(2,3),(3,3),(4,3),(5,37)] true,6,72,(some [.int .i64 0,.str [],.int .i64 0,.int .i64 0,.int .i64 0,.sl none 0 0 none])⟩
def T39:ATy:=⟨.struct [(0,26),(1,9),(2,3),(3,3),(4,3),(5,37)] true,6,72,(some [.int .i64 0,.str [],.int .i64 0,.int .i64 0,.int .i64 0,.sl none 0 0 none])⟩
def T40:ATy:=⟨.func,1,8,(some [.nilfn])⟩
def T41:ATy:=⟨.tuple,1,0,none⟩
def T42:ATy:=⟨.func,1,8,(some [.nilfn])⟩
def T43:ATy:=⟨.func,1,8,(some [.nilfn])⟩
def T44:ATy:=⟨.slice 55,1,24,(some [.sl none 0 0 none])⟩
def T45:ATy:=⟨.func,1,8,(some [.nilfn])⟩
def T46:ATy:=⟨.slice 108,1,24,(some [.sl none 0 0 none])⟩
def T47:ATy:=⟨.func,1,8,(some [.nilfn])⟩
def T48:ATy:=⟨.func,1,8,(some [.nilfn])⟩
def T49:ATy:=⟨.func,1,8,(some [.nilfn])⟩
def T50:ATy:=⟨.func,1,8,(some [.nilfn])⟩
def T51:ATy:=⟨.slice 5,1,24,(some [.sl none 0 0 none])⟩
def T52:ATy:=⟨.func,1,8,(some [.nilfn])⟩
def T53:ATy:=⟨.slice 3,1,24,(some [.sl none 0 0 none])⟩
def T54:ATy:=⟨.struct [(0,9),(1,3),(2,3),(3,3),(4,3),(5,53),(6,9)] true,7,88,(some [.str [],.int .i64 0,.int .i64 0,.int .i64 0,.int .i64 0,.sl none 0 0 none,.str []])⟩
def T55:ATy:=⟨.struct [(0,9),(1,3),(2,3),(3,3),(4,3),(5,53),(6,9)] true,7,88,(some [.str [],.int .i64 0,.int .i64 0,.int .i64 0,.int .i64 0,.sl none 0 0 none,.str []])⟩
def T56:ATy:=⟨.func,1,8,(some [.nilfn])⟩
def T57:ATy:=⟨.func,1,8,(some [.nilfn])⟩
def T58:ATy:=⟨.slice 100,1,24,(some [.sl none 0 0 none])⟩
def T59:ATy:=⟨.struct [(0,58),(1,3)] true,2,32,(some [.sl none 0 0 none,.int .i64 0])⟩
def T60:ATy:=⟨.struct [(0,58),(1,3)] true,2,32,(some [.sl none 0 0 none,.int .i64 0])⟩
def T61:ATy:=⟨.func,1,8,(some [.nilfn])⟩
def T62:ATy:=⟨.func,1,8,(some [.nilfn])⟩
def T63:ATy:=⟨.slice 73,1,24,(some [.sl none 0 0 none])⟩
def T64:ATy:=⟨.func,1,8,(some [.nilfn])⟩
def T65:ATy:=⟨.tuple,1,0,none⟩
def T66:ATy:=⟨.func,1,8,(some [.nilfn])⟩
def T67:ATy:=⟨.func,1,8,(some [.nilfn])⟩
def T68:ATy:=⟨.struct [(0,3),(1,3),(2,3),(3,3),(4,3),(5,3),(6,35)] true,12,120,(some [.int .i64 0,.int .i64 0,.int .i64 0,.int .i64 0,.int .i64 0,.int .i64 0,.int .i64 0,.int .i64 0,.int .i64 0,.str [],.str [],.str []])⟩
def T69:ATy:=⟨.struct [(0,3),(1,3),(2,3),(3,3),(4,3),(5,3),(6,35)] true,12,120,(some [.int .i64 0,.int .i64 0,.int .i64 0,.int .i64 0,.int .i64 0,.int .i64 0,.int .i64 0,.int .i64 0,.int .i64 0,.str [],.str [],.str []])⟩
def T70:ATy:=⟨.slice 75,1,24,(some [.sl none 0 0 none])⟩
def T71:ATy:=⟨.slice 78,1,24,(some [.sl none 0 0 none])⟩
def T72:ATy:=⟨.struct [(0,69),(12,70),(13,71)] true,14,168,(some [.int .i64 0,.int .i64 0,.int .i64 0,.int .i64 0,.int .i64 0,.int .i64 0,.int .i64 0,.int .i64 0,.int .i64 0,.str [],.str [],.str [],.sl none 0 0 none,.sl none 0 0 none])⟩
def T73:ATy:=⟨.struct [(0,69),(12,70),(13,71)] true,14,168,(some [.int .i64 0,.int .i64 0,.int .i64 0,.int .i64 0,.int .i64 0,.int .i64 0,.int .i64 0,.int .i64 0,.int .i64 0,.str [],.str [],.str [],.sl none 0 0 none,.sl none 0 0 none])⟩
def T74:ATy:=⟨.struct [(0,3),(1,3),(2,3),(3,39)] true,9,96,(some [.int .i64 0,.int .i64 0,.int .i64 0,.int .i64 0,.str [],.int .i64 0,.int .i64 0,.int .i64 0,.sl none 0 0 none])⟩
def T75:ATy:=⟨.struct [(0,3),(1,3),(2,3),(3,39)] true,9,96,(some [.int .i64 0,.int .i64 0,.int .i64 0,.int .i64 0,.str [],.int .i64 0,.int .i64 0,.int .i64 0,.sl none 0 0 none])⟩
def T76:ATy:=⟨.func,1,8,(some [.nilfn])⟩
def T77:ATy:=⟨.struct [(0,3),(1,3),(2,3),(3,35)] true,9,96,(some [.int .i64 0,.int .i64 0,.int .i64 0,.int .i64 0,.int .i64 0,.int .i64 0,.str [],.str [],.str []])⟩
def T78:ATy:=⟨.struct [(0,3),(1,3),(2,3),(3,35)] true,9,96,(some [.int .i64 0,.int .i64 0,.int .i64 0,.int .i64 0,.int .i64 0,.int .i64 0,.str [],.str [],.str []])⟩
def T79:ATy:=⟨.func,1,8,(some [.nilfn])⟩
def T80:ATy:=⟨.func,1,8,(some [.nilfn])⟩
def T81:ATy:=⟨.struct [(0,3),(1,3),(2,3),(3,3),(4,3)] true,5,40,(some [.int .i64 0,.int .i64 0,.int .i64 0,.int .i64 0,.int .i64 0])⟩
def T82:ATy:=⟨.struct [(0,3),(1,3),(2,3),(3,3),(4,3)] true,5,40,(some [.int .i64 0,.int .i64 0,.int .i64 0,.int .i64 0,.int .i64 0])⟩
def T83:ATy:=⟨.tuple,1,0,none⟩
def T84:ATy:=⟨.func,1,8,(some [.nilfn])⟩
def T85:ATy:=⟨.slice 89,1,24,(some [.sl none 0 0 none])⟩
def T86:ATy:=⟨.slice 96,1,24,(some [.sl none 0 0 none])⟩
def T87:ATy:=⟨.struct [(0,85),(1,3),(2,86)] true,3,56,(some [.sl none 0 0 none,.int .i64 0,.sl none 0 0 none])⟩
def T88:ATy:=⟨.struct [(0,85),(1,3),(2,86)] true,3,56,(some [.sl none 0 0 none,.int .i64 0,.sl none 0 0 none])⟩
def T89:ATy:=⟨.ptr 93,1,8,(some [.ptr none])⟩
def T90:ATy:=⟨.map 3 9,1,8,(some [.map none])⟩
def T91:ATy:=⟨.slice 159,1,24,(some [.sl none 0 0 none])⟩
def T92:ATy:=⟨.struct [(0,3),(1,3),(2,3),(3,90),(4,91)] true,5,56,(some [.int .i64 0,.int .i64 0,.int .i64 0,.map none,.sl none 0 0 none])⟩
def T93:ATy:=⟨.struct [(0,3),(1,3),(2,3),(3,90),(4,91)] true,5,56,(some [.int .i64 0,.int .i64 0,.int .i64 0,.map none,.sl none 0 0 none])⟩
def T94:ATy:=⟨.func,1,8,(some [.nilfn])⟩
def T95:ATy:=⟨.struct [(0,3),(1,4),(2,94)] true,3,24,(some [.int .i64 0,.bool false,.nilfn])⟩
def T96:ATy:=⟨.struct [(0,3),(1,4),(2,94)] true,3,24,(some [.int .i64 0,.bool false,.nilfn])⟩
def T97:ATy:=⟨.func,1,8,(some [.nilfn])⟩
def T98:ATy:=⟨.func,1,8,(some [.nilfn])⟩
def T99:ATy:=⟨.struct [(0,3),(1,3),(2,3),(3,53),(4,37),(5,37),(6,53)] true,7,120,(some [.int .i64 0,.int .i64 0,.int .i64 0,.sl none 0 0 none,.sl none 0 0 none,.sl none 0 0 none,.sl none 0 0 none])⟩
def T100:ATy:=⟨.struct [(0,3),(1,3),(2,3),(3,53),(4,37),(5,37),(6,53)] true,7,120,(some [.int .i64 0,.int .i64 0,.int .i64 0,.sl none 0 0 none,.sl none 0 0 none,.sl none 0 0 none,.sl none 0 0 none])⟩
def T101:ATy:=⟨.func,1,8,(some [.nilfn])⟩
def T102:ATy:=⟨.func,1,8,(some [.nilfn])⟩
def T103:ATy:=⟨.func,1,8,(some [.nilfn])⟩
def T104:ATy:=⟨.func,1,8,(some [.nilfn])⟩
def T105:ATy:=⟨.tuple,1,0,none⟩
def T106:ATy:=⟨.func,1,8,(some [.nilfn])⟩
def T107:ATy:=⟨.func,1,8,(some [.nilfn])⟩
def T108:ATy:=⟨.struct [(0,9),(1,3),(2,3),(3,3),(4,3),(5,53),(6,9)] true,7,88,(some [.str [],.int .i64 0,.int .i64 0,.int .i64 0,.int .i64 0,.sl none 0 0 none,.str []])⟩
def T109:ATy:=⟨.func,1,8,(some [.nilfn])⟩
def T110:ATy:=⟨.func,1,8,(some [.nilfn])⟩
def T111:ATy:=⟨.func,1,8,(some [.nilfn])⟩
def T112:ATy:=⟨.func,1,8,(some [.nilfn])⟩
def T113:ATy:=⟨.func,1,8,(some [.nilfn])⟩
def T114:ATy:=⟨.func,1,8,(some [.nilfn])⟩
def T115:ATy:=⟨.func,1,8,(some [.nilfn])⟩
def T116:ATy:=⟨.func,1,8,(some [.nilfn])⟩
def T117:ATy:=⟨.func,1,8,(some [.nilfn])⟩
def T118:ATy:=⟨.ptr 126,1,8,(some [.ptr none])⟩
def T119:ATy:=⟨.func,1,8,(some [.nilfn])⟩
def T120:ATy:=⟨.func,1,8,(some [.nilfn])⟩
def T121:ATy:=⟨.func,1,8,(some [.nilfn])⟩
def T122:ATy:=⟨.map 128 129,1,8,(some [.map none])⟩
def T123:ATy:=⟨.slice 128,1,24,(some [.sl none 0 0 none])⟩
def T124:ATy:=⟨.map 128 3,1,8,(some [.map none])⟩
def T125:ATy:=⟨.struct [(0,23),(3,122),(4,123),(5,71),(6,3),(7,73),(21,124)] true,22,264,(some [.int .i64 0,.int .i64 0,.int .i64 0,.map none,.sl none 0 0 none,.sl none 0 0 none,.int .i64 0,.int .i64 0,.int .i64 0,.int .i64 0,.int .i64 0,.int .i64 0,.int .i64 0,.int .i64 0,.int .i64 0,.int .i64 0,.str [],.str [],.str [],.sl none 0 0 none,.sl none 0 0 none,.map none])⟩
def T126:ATy:=⟨.struct [(0,23),(3,122),(4,123),(5,71),(6,3),(7,73),(21,124)] true,22,264,(some [.int .i64 0,.int .i64 0,.int .i64 0,.map none,.sl none 0 0 none,.sl none 0 0 none,.int .i64 0,.int .i64 0,.int .i64 0,.int .i64 0,.int .i64 0,.int .i64 0,.int .i64 0,.int .i64 0,.int .i64 0,.int .i64 0,.str [],.str [],.str [],.sl none 0 0 none,.sl none 0 0 none,.map none])⟩
def T127:ATy:=⟨.struct [(0,3),(1,3)] true,2,16,(some [.int .i64 0,.int .i64 0])⟩
def T128:ATy:=⟨.struct [(0,3),(1,3)] true,2,16,(some [.int .i64 0,.int .i64 0])⟩
def T129:ATy:=⟨.ptr 131,1,8,(some [.ptr none])⟩
def T130:ATy:=⟨.struct [(0,35),(6,3),(7,53),(8,3)] true,9,112,(some [.int .i64 0,.int .i64 0,.int .i64 0,.str [],.str [],.str [],.int .i64 0,.sl none 0 0 none,.int .i64 0])⟩
def T131:ATy:=⟨.struct [(0,35),(6,3),(7,53),(8,3)] true,9,112,(some [.int .i64 0,.int .i64 0,.int .i64 0,.str [],.str [],.str [],.int .i64 0,.sl none 0 0 none,.int .i64 0])⟩
def T132:ATy:=⟨.func,1,8,(some [.nilfn])⟩
def T133:ATy:=⟨.tuple,1,0,none⟩
def T134:ATy:=⟨.func,1,8,(some [.nilfn])⟩
def T135:ATy:=⟨.func,1,8,(some [.nilfn])⟩
def T136:ATy:=⟨.func,1,8,(some [.nilfn])⟩
def T137:ATy:=⟨.func,1,8,(some [.nilfn])⟩
def T138:ATy:=⟨.tuple,1,0,none⟩
def T139:ATy:=⟨.func,1,8,(some [.nilfn])⟩
def T140:ATy:=⟨.func,1,8,(some [.nilfn])⟩
def T141:ATy:=⟨.tuple,1,0,none⟩
def T142:ATy:=⟨.func,1,8,(some [.nilfn])⟩
def T143:ATy:=⟨.func,1,8,(some [.nilfn])⟩
def T144:ATy:=⟨.ptr 146,1,8,(some [.ptr none])⟩
def T145:ATy:=⟨.struct [(0,144),(1,51)] true,2,32,(some [.ptr none,.sl none 0 0 none])⟩
def T146:ATy:=⟨.struct [(0,144),(1,51)] true,2,32,(some [.ptr none,.sl none 0 0 none])⟩
def T147:ATy:=⟨.iface false,1,16,(some [.nilifc])⟩
def T148:ATy:=⟨.iface false,1,16,(some [.nilifc])⟩
def T149:ATy:=⟨.func,1,8,(some [.nilfn])⟩
def T150:ATy:=⟨.func,1,8,(some [.nilfn])⟩
def T151:ATy:=⟨.tuple,1,0,none⟩
def T152:ATy:=⟨.func,1,8,(some [.nilfn])⟩
def T153:ATy:=⟨.func,1,8,(some [.nilfn])⟩
def T154:ATy:=⟨.func,1,8,(some [.nilfn])⟩
def T155:ATy:=⟨.tuple,1,0,none⟩
def T156:ATy:=⟨.func,1,8,(some [.nilfn])⟩
def T157:ATy:=⟨.func,1,8,(some [.nilfn])⟩
def T158:ATy:=⟨.struct [(0,9),(1,3)] true,2,24,(some [.str [],.int .i64 0])⟩
def T159:ATy:=⟨.struct [(0,9),(1,3)] true,2,24,(some [.str [],.int .i64 0])⟩
def T160:ATy:=⟨.func,1,8,(some [.nilfn])⟩
def T161:ATy:=⟨.func,1,8,(some [.nilfn])⟩
def T162:ATy:=⟨.func,1,8,(some [.nilfn])⟩
def T163:ATy:=⟨.func,1,8,(some [.nilfn])⟩
def T164:ATy:=⟨.func,1,8,(some [.nilfn])⟩
def T165:ATy:=⟨.tuple,1,0,none⟩
def T166:ATy:=⟨.func,1,8,(some [.nilfn])⟩
def T167:ATy:=⟨.func,1,8,(some [.nilfn])⟩
def T168:ATy:=⟨.func,1,8,(some [.nilfn])⟩
def T169:ATy:=⟨.func,1,8,(some [.nilfn])⟩
def T170:ATy:=⟨.func,1,8,(some [.nilfn])⟩
def T171:ATy:=⟨.func,1,8,(some [.nilfn])⟩
def T172:ATy:=⟨.func,1,8,(some [.nilfn])⟩
def T173:ATy:=⟨.tuple,1,0,none⟩
def T174:ATy:=⟨.func,1,8,(some [.nilfn])⟩
def T175:ATy:=⟨.func,1,8,(some [.nilfn])⟩
def T176:ATy:=⟨.func,1,8,(some [.nilfn])⟩
def T177:ATy:=⟨.struct [(0,3),(1,33)] true,2,16,(some [.int .i64 0,.nilfn])⟩
def T178:ATy:=⟨.struct [(0,3),(1,33)] true,2,16,(some [.int .i64 0,.nilfn])⟩
def T179:ATy:=⟨.slice 178,1,24,(some [.sl none 0 0 none])⟩
def T180:ATy:=⟨.func,1,8,(some [.nilfn])⟩
def T181:ATy:=⟨.ptr 5,1,8,(some [.ptr none])⟩
def T182:ATy:=⟨.func,1,8,(some [.nilfn])⟩
def T183:ATy:=⟨.func,1,8,(some [.nilfn])⟩
def T184:ATy:=⟨.func,1,8,(some [.nilfn])⟩
def T185:ATy:=⟨.func,1,8,(some [.nilfn])⟩
def T186:ATy:=⟨.func,1,8,(some [.nilfn])⟩
def T187:ATy:=⟨.func,1,8,(some [.nilfn])⟩
def T188:ATy:=⟨.func,1,8,(some [.nilfn])⟩
def T189:ATy:=⟨.func,1,8,(some [.nilfn])⟩
def T190:ATy:=⟨.func,1,8,(some [.nilfn])⟩
def T191:ATy:=⟨.func,1,8,(some [.nilfn])⟩
def T192:ATy:=⟨.func,1,8,(some [.nilfn])⟩
def T193:ATy:=⟨.map 196 4,1,8,(some [.map none])⟩
def T194:ATy:=⟨.tuple,1,0,none⟩
def T195:ATy:=⟨.func,1,8,(some [.nilfn])⟩
def T196:ATy:=⟨.array 2 3,2,16,(some [.int .i64 0,.int .i64 0])⟩
def T197:ATy:=⟨.func,1,8,(some [.nilfn])⟩
def T198:ATy:=⟨.func,1,8,(some [.nilfn])⟩
def T199:ATy:=⟨.func,1,8,(some [.nilfn])⟩
def T200:ATy:=⟨.func,1,8,(some [.nilfn])⟩
def T201:ATy:=⟨.func,1,8,(some [.nilfn])⟩
def T202:ATy:=⟨.tuple,1,0,none⟩
def T203:ATy:=⟨.func,1,8,(some [.nilfn])⟩
def T204:ATy:=⟨.map 3 3,1,8,(some [.map none])⟩
def T205:ATy:=⟨.tuple,1,0,none⟩
def T206:ATy:=⟨.func,1,8,(some [.nilfn])⟩
def T207:ATy:=⟨.func,1,8,(some [.nilfn])⟩
def T208:ATy:=⟨.func,1,8,(some [.nilfn])⟩
def T209:ATy:=⟨.func,1,8,(some [.nilfn])⟩
def T210:ATy:=⟨.slice 39,1,24,(some [.sl none 0 0 none])⟩
def T211:ATy:=⟨.uptr,1,8,(some [.ptr none])⟩
def T212:ATy:=⟨.func,1,8,(some [.nilfn])⟩
def T213:ATy:=⟨.func,1,8,(some [.nilfn])⟩
def T214:ATy:=⟨.func,1,8,(some [.nilfn])⟩
def T215:ATy:=⟨.int .u64,1,8,(some [.int .u64 0])⟩
def T216:ATy:=⟨.slice 26,1,24,(some [.sl none 0 0 none])⟩
def T217:ATy:=⟨.func,1,8,(some [.nilfn])⟩
def T218:ATy:=⟨.func,1,8,(some [.nilfn])⟩
def T219:ATy:=⟨.func,1,8,(some [.nilfn])⟩
def T220:ATy:=⟨.func,1,8,(some [.nilfn])⟩
def T221:ATy:=⟨.func,1,8,(some [.nilfn])⟩
def T222:ATy:=⟨.func,1,8,(some [.nilfn])⟩
def T223:ATy:=⟨.func,1,8,(some [.nilfn])⟩
def T224:ATy:=⟨.ptr 248,1,8,(some [.ptr none])⟩
def T225:ATy:=⟨.func,1,8,(some [.nilfn])⟩
def T226:ATy:=⟨.func,1,8,(some [.nilfn])⟩
def T227:ATy:=⟨.func,1,8,(some [.nilfn])⟩
def T228:ATy:=⟨.func,1,8,(some [.nilfn])⟩
def T229:ATy:=⟨.int .i64,1,8,(some [.int .i64 0])⟩
def T230:ATy:=⟨.tuple,1,0,none⟩
def T231:ATy:=⟨.func,1,8,(some [.nilfn])⟩
def T232:ATy:=⟨.func,1,8,(some [.nilfn])⟩
def T233:ATy:=⟨.func,1,8,(some [.nilfn])⟩
def T234:ATy:=⟨.tuple,1,0,none⟩
def T235:ATy:=⟨.func,1,8,(some [.nilfn])⟩
def T236:ATy:=⟨.func,1,8,(some [.nilfn])⟩
def T237:ATy:=⟨.int .u32,1,4,(some [.int .u32 0])⟩
def T238:ATy:=⟨.func,1,8,(some [.nilfn])⟩
def T239:ATy:=⟨.int .u64,1,8,(some [.int .u64 0])⟩
def T240:ATy:=⟨.tuple,1,0,none⟩
def T241:ATy:=⟨.func,1,8,(some [.nilfn])⟩
def T242:ATy:=⟨.func,1,8,(some [.nilfn])⟩
def T243:ATy:=⟨.func,1,8,(some [.nilfn])⟩
def T244:ATy:=⟨.func,1,8,(some [.nilfn])⟩
def T245:ATy:=⟨.func,1,8,(some [.nilfn])⟩
def T246:ATy:=⟨.func,1,8,(some [.nilfn])⟩
def T247:ATy:=⟨.struct [(0,51)] true,1,24,(some [.sl none 0 0 none])⟩
def T248:ATy:=⟨.struct [(0,51)] true,1,24,(some [.sl none 0 0 none])⟩
def T249:ATy:=⟨.func,1,8,(some [.nilfn])⟩
def T250:ATy:=⟨.int .u64,1,8,(some [.int .u64 0])⟩
def T251:ATy:=⟨.func,1,8,(some [.nilfn])⟩
def T252:ATy:=⟨.func,1,8,(some [.nilfn])⟩
def T253:ATy:=⟨.func,1,8,(some [.nilfn])⟩
def T254:ATy:=⟨.ptr 3,1,8,(some [.ptr none])⟩
def T255:ATy:=⟨.func,1,8,(some [.nilfn])⟩
def T256:ATy:=⟨.func,1,8,(some [.nilfn])⟩
def T257:ATy:=⟨.func,1,8,(some [.nilfn])⟩
def T258:ATy:=⟨.func,1,8,(some [.nilfn])⟩
def T259:ATy:=⟨.func,1,8,(some [.nilfn])⟩
def T260:ATy:=⟨.func,1,8,(some [.nilfn])⟩
def T261:ATy:=⟨.func,1,8,(some [.nilfn])⟩
def T262:ATy:=⟨.func,1,8,(some [.nilfn])⟩
def T263:ATy:=⟨.ptr 250,1,8,(some [.ptr none])⟩
def T264:ATy:=⟨.func,1,8,(some [.nilfn])⟩
def T265:ATy:=⟨.array 256 5,256,256,(some (List.replicate 256 (.int .u8 0)))⟩
def T266:ATy:=⟨.struct [(0,5),(1,5)] true,2,2,(some [.int .u8 0,.int .u8 0])⟩
def T267:ATy:=⟨.struct [(0,5),(1,5)] true,2,2,(some [.int .u8 0,.int .u8 0])⟩
def T268:ATy:=⟨.array 16 267,32,32,(some (List.replicate 32 (.int .u8 0)))⟩
def T269:ATy:=⟨.tuple,1,0,none⟩
def T270:ATy:=⟨.func,1,8,(some [.nilfn])⟩
def T271:ATy:=⟨.func,1,8,(some [.nilfn])⟩
def T272:ATy:=⟨.func,1,8,(some [.nilfn])⟩
def T273:ATy:=⟨.func,1,8,(some [.nilfn])⟩
def T274:ATy:=⟨.struct [(0,17),(1,17),(2,17),(3,9)] false,4,40,(some [.ptr none,.ptr none,.ptr none,.str []])⟩
def T275:ATy:=⟨.struct [(0,17),(1,17),(2,17),(3,9)] false,4,40,(some [.ptr none,.ptr none,.ptr none,.str []])⟩
def T276:ATy:=⟨.array 0 16,0,0,(some [])⟩
def T277:ATy:=⟨.struct [(0,276)] false,0,0,(some [])⟩
def T278:ATy:=⟨.struct [(0,276)] false,0,0,(some [])⟩
def T279:ATy:=⟨.int .u8,1,1,(some [.int .u8 0])⟩
def T280:ATy:=⟨.int .u8,1,1,(some [.int .u8 0])⟩
def T281:ATy:=⟨.func,1,8,(some [.nilfn])⟩
def T282:ATy:=⟨.int .i32,1,4,(some [.int .i32 0])⟩
def T283:ATy:=⟨.int .i32,1,4,(some [.int .i32 0])⟩
def T284:ATy:=⟨.struct [(0,12),(1,12),(2,237),(3,279),(4,5),(5,5),(6,280),(7,281),(8,181),(9,282),(10,283)] false,11,48,(some [.int .u64 0,.int .u64 0,.int .u32 0,.int .u8 0,.int .u8 0,.int .u8 0,.int .u8 0,.nilfn,.ptr none,.int .i32 0,.int .i32 0])⟩
def T285:ATy:=⟨.struct [(0,12),(1,12),(2,237),(3,279),(4,5),(5,5),(6,280),(7,281),(8,181),(9,282),(10,283)] false,11,48,(some [.int .u64 0,.int .u64 0,.int .u32 0,.int .u8 0,.int .u8 0,.int .u8 0,.int .u8 0,.nilfn,.ptr none,.int .i32 0,.int .i32 0])⟩
def tt:Tr ATy:=(.node (some T0) (.node (some T1) (.node (some T3) (.node (some T7) (.node (some T15) (.node (some T31) (.node (some T63) (.node (some T127) (.node (some T255) .leaf .leaf) .leaf) (.node (some T191) .leaf .leaf)) (.node (some T95) (.node (some T159) .leaf .leaf) (.node (some T223) .leaf .leaf))) (.node (some T47) (.node (some T79) (.node (some T143) (.node (some T271) .leaf .leaf) .leaf) (.node (some T207) .leaf .leaf)) (.node (some T111) (.node (some T175) .leaf .leaf) (.node (some T239) .leaf .leaf)))) (.node (some T23) (.node (some T39) (.node (some T71) (.node (some T135) (.node (some T263) .leaf .leaf) .leaf) (.node (some T199) .leaf .leaf)) (.node (some T103) (.node (some T167) .leaf .leaf) (.node (some T231) .leaf .leaf))) (.node (some T55) (.node (some T87) (.node (some T151) (.node (some T279) .leaf .leaf) .leaf) (.node (some T215) .leaf .leaf)) (.node (some T119) (.node (some T183) .leaf .leaf) (.node (some T247) .leaf .leaf))))) (.node (some T11) (.node (some T19) (.node (some T35) (.node (some T67) (.node (some T131) (.node (some T259) .leaf .leaf) .leaf) (.node (some T195) .leaf .leaf)) (.node (some T99) (.node (some T163) .leaf .leaf) (.node (some T227) .leaf .leaf))) (.node (some T51) (.node (some T83) (.node (some T147) (.node (some T275) .leaf .leaf) .leaf) (.node (some T211) .leaf .leaf)) (.node (some T115) (.node (some T179) .leaf .leaf) (.node (some T243) .leaf .leaf)))) (.node (some T27) (.node (some T43) (.node (some T75) (.node (some T139) (.node (some T267) .leaf .leaf) .leaf) (.node (some T203) .leaf .leaf)) (.node (some T107) (.node (some T171) .leaf .leaf) (.node (some T235) .leaf .leaf))) (.node (some T59) (.node (some T91) (.node (some T155) (.node (some T283) .leaf .leaf) .leaf) (.node (some T219) .leaf .leaf)) (.node (some T123) (.node (some T187) .leaf .leaf) (.node (some T251) .leaf .leaf)))))) (.node (some T5) (.node (some T9) (.node (some T17) (.node (some T33) (.node (some T65) (.node (some T129) (.node (some T257) .leaf .leaf) .leaf) (.node (some T193) .leaf .leaf)) (.node (some T97) (.node (some T161) .leaf .leaf) (.node (some T225) .leaf .leaf))) (.node (some T49) (.node (some T81) (.node (some T145) (.node (some T273) .leaf .leaf) .leaf) (.node (some T209) .leaf .leaf)) (.node (some T113) (.node (some T177) .leaf .leaf) (.node (some T241) .leaf .leaf)))) (.node (some T25) (.node (some T41) (.node (some T73) (.node (some T137) (.node (some T265) .leaf .leaf) .leaf) (.node (some T201) .leaf .leaf)) (.node (some T105) (.node (some T169) .leaf .leaf) (.node (some T233) .leaf .leaf))) (.node (some T57) (.node (some T89) (.node (some T153) (.node (some T281) .leaf .leaf) .leaf) (.node (some T217) .leaf .leaf)) (.node (some T121) (.node (some T185) .leaf .leaf) (.node (some T249) .leaf .leaf))))) (.node (some T13) (.node (some T21) (.node (some T37) (.node (some T69) (.node (some T133) (.node (some T261) .leaf .leaf) .leaf) (.node (some T197) .leaf .leaf)) (.node (some T101) (.node (some T165) .leaf .leaf) (.node (some T229) .leaf .leaf))) (.node (some T53) (.node (some T85) (.node (some T149) (.node (some T277) .leaf .leaf) .leaf) (.node (some T213) .leaf .leaf)) (.node (some T117) (.node (some T181) .leaf .leaf) (.node (some T245) .leaf .leaf)))) (.node (some T29) (.node (some T45) (.node (some T77) (.node (some T141) (.node (some T269) .leaf .leaf) .leaf) (.node (some T205) .leaf .leaf)) (.node (some T109) (.node (some T173) .leaf .leaf) (.node (some T237) .leaf .leaf))) (.node (some T61) (.node (some T93) (.node (some T157) (.node (some T285) .leaf .leaf) .leaf) (.node (some T221) .leaf .leaf)) (.node (some T125) (.node (some T189) .leaf .leaf) (.node (some T253) .leaf .leaf))))))) (.node (some T2) (.node (some T4) (.node (some T8) (.node (some T16) (.node (some T32) (.node (some T64) (.node (some T128) (.node (some T256) .leaf .leaf) .leaf) (.node (some T192) .leaf .leaf)) (.node (some T96) (.node (some T160) .leaf .leaf) (.node (some T224) .leaf .leaf))) (.node (some T48) (.node (some T80) (.node (some T144) (.node (some T272) .leaf .leaf) .leaf) (.node (some T208) .leaf .leaf)) (.node (some T112) (.node (some T176) .leaf .leaf) (.node (some T240) .leaf .leaf)))) (.node (some T24) (.node (some T40) (.node (some T72) (.node (some T136) (.node (some T264) .leaf .leaf) .leaf) (.node (some T200) .leaf .leaf)) (.node (some T104) (.node (some T168) .leaf .leaf) (.node (some T232) .leaf .leaf))) (.node (some T56) (.node (some T88) (.node (some T152) (.node (some T280) .leaf .leaf) .leaf) (.node (some T216) .leaf .leaf)) (.node (some T120) (.node (some T184) .leaf .leaf) (.node (some T248) .leaf .leaf))))) (.node (some T12) (.node (some T20) (.node (some T36) (.node (some T68) (.node (some T132) (.node (some T260) .leaf .leaf) .leaf) (.node (some T196) .leaf .leaf)) (.node (some T100) (.node (some T164) .leaf .leaf) (.node (some T228) .leaf .leaf))) (.node (some T52) (.node (some T84) (.node (some T148) (.node (some T276) .leaf .leaf) .leaf) (.node (some T212) .leaf .leaf)) (.node (some T116) (.node (some T180) .leaf .leaf) (.node (some T244) .leaf .leaf)))) (.node (some T28) (.node (some T44) (.node (some T76) (.node (some T140) (.node (some T268) .leaf .leaf) .leaf) (.node (some T204) .leaf .leaf)) (.node (some T108) (.node (some T172) .leaf .leaf) (.node (some T236) .leaf .leaf))) (.node (some T60) (.node (some T92) (.node (some T156) (.node (some T284) .leaf .leaf) .leaf) (.node (some T220) .leaf .leaf)) (.node (some T124) (.node (some T188) .leaf .leaf) (.node (some T252) .leaf .leaf)))))) (.node (some T6) (.node (some T10) (.node (some T18) (.node (some T34) (.node (some T66) (.node (some T130) (.node (some T258) .leaf .leaf) .leaf) (.node (some T194) .leaf .leaf)) (.node (some T98) (.node (some T162) .leaf .leaf) (.node (some T226) .leaf .leaf))) (.node (some T50) (.node (some T82) (.node (some T146) (.node (some T274) .leaf .leaf) .leaf) (.node (some T210) .leaf .leaf)) (.node (some T114) (.node (some T178) .leaf .leaf) (.node (some T242) .leaf .leaf)))) (.node (some T26) (.node (some T42) (.node (some T74) (.node (some T138) (.node (some T266) .leaf .leaf) .leaf) (.node (some T202) .leaf .leaf)) (.node (some T106) (.node (some T170) .leaf .leaf) (.node (some T234) .leaf .leaf))) (.node (some T58) (.node (some T90) (.node (some T154) (.node (some T282) .leaf .leaf) .leaf) (.node (some T218) .leaf .leaf)) (.node (some T122) (.node (some T186) .leaf .leaf) (.node (some T250) .leaf .leaf))))) (.node (some T14) (.node (some T22) (.node (some T38) (.node (some T70) (.node (some T134) (.node (some T262) .leaf .leaf) .leaf) (.node (some T198) .leaf .leaf)) (.node (some T102) (.node (some T166) .leaf .leaf) (.node (some T230) .leaf .leaf))) (.node (some T54) (.node (some T86) (.node (some T150) (.node (some T278) .leaf .leaf) .leaf) (.node (some T214) .leaf .leaf)) (.node (some T118) (.node (some T182) .leaf .leaf) (.node (some T246) .leaf .leaf)))) (.node (some T30) (.node (some T46) (.node (some T78) (.node (some T142) (.node (some T270) .leaf .leaf) .leaf) (.node (some T206) .leaf .leaf)) (.node (some T110) (.node (some T174) .leaf .leaf) (.node (some T238) .leaf .leaf))) (.node (some T62) (.node (some T94) (.node (some T158) .leaf .leaf) (.node (some T222) .leaf .leaf)) (.node (some T126) (.node (some T190) .leaf .leaf) (.node (some T254) .leaf .leaf))))))))
def mask:Nat:=0x1000003f7ffbff77fffffffdfffffffbffffffffffffffffffffffffffc
theorem tab_ok:tabOK Tryz.prog tt 286=true:=by decide +kernel
theorem fn_ok:fnOK Tryz.prog mask 233=true:=by decide +kernel
def extT (f:FuncId) (args:List AV):Option AV:=if f=141 then sameA args else if f=175 then countA args else if f=203 then indexByteA args else none
theorem ext_ok:∀f,ExtOK Tryz.prog f (extT f):=by
  intro f args v hv ρ vs w hr
  unfold extT at hv
  by_cases h141:f=141
  · subst h141
    exact ext_same (fn:=Tryz.f141) (by kernel_rfl) (by kernel_rfl) (by kernel_rfl) (by kernel_rfl) (by kernel_rfl) args v (by simpa using hv) ρ vs w hr
  rw [if_neg h141] at hv
  by_cases h175:f=175
  · subst h175
    exact ext_count (fn:=Tryz.f175) (by kernel_rfl) (by kernel_rfl) (by kernel_rfl) (by kernel_rfl) (by kernel_rfl) args v (by simpa using hv) ρ vs w hr
  rw [if_neg h175] at hv
  by_cases h203:f=203
  · subst h203
    exact ext_indexByte (fn:=Tryz.f203) (by kernel_rfl) (by kernel_rfl) (by kernel_rfl) (by kernel_rfl) (by kernel_rfl) args v (by simpa using hv) ρ vs w hr
  rw [if_neg h203] at hv
  simp at hv
def extET (f:FuncId) (args:List AV) (h:AH):Option (AV×AH):=if f=110 then cloneA args h else none
theorem extE_ok (W:World):ExtEOK Tryz.prog W extET:=by
  intro f args h v h2 hv
  unfold extET at hv
  by_cases h110:f=110
  · subst h110
    exact ext_clone (fn:=Tryz.f110) (by kernel_rfl) (by kernel_rfl) (by kernel_rfl) (by kernel_rfl) (by kernel_rfl) args h v h2 (by simpa using hv)
  rw [if_neg h110] at hv
  simp at hv
noncomputable def CC (W:World):Cx:=mkCxE Tryz.prog W tt 286 mask (fun _ _=>none) extT extET
theorem cc_ok (W:World):(CC W).OK:=mkCxE_ok tab_ok fn_ok (fun _ _ _ h=>by simp at h) ext_ok (extE_ok W)
theorem zs9 {W:World} {f:FuncId} {args:List AV} {h:AH}:(CC W).extE f args h=if f=110 then cloneA args h else none:=_root_.id rfl
theorem zr9 {W:World} {f:FuncId} {args:List AV}:(CC W).ext f args=if f=141 then sameA args else if f=175 then countA args else if f=203 then indexByteA args else none:=_root_.id rfl
section
variable (W:World)
theorem ty3:(CC W).ty 3=some T3:=_root_.id rfl
theorem ty4:(CC W).ty 4=some T4:=_root_.id rfl
theorem ty9:(CC W).ty 9=some T9:=_root_.id rfl
theorem ty23:(CC W).ty 23=some T23:=_root_.id rfl
theorem ty26:(CC W).ty 26=some T26:=_root_.id rfl
theorem ty35:(CC W).ty 35=some T35:=_root_.id rfl
theorem ty37:(CC W).ty 37=some T37:=_root_.id rfl
theorem ty39:(CC W).ty 39=some T39:=_root_.id rfl
theorem ty51:(CC W).ty 51=some T51:=_root_.id rfl
theorem ty53:(CC W).ty 53=some T53:=_root_.id rfl
theorem ty55:(CC W).ty 55=some T55:=_root_.id rfl
theorem ty58:(CC W).ty 58=some T58:=_root_.id rfl
theorem ty82:(CC W).ty 82=some T82:=_root_.id rfl
theorem ty85:(CC W).ty 85=some T85:=_root_.id rfl
theorem ty86:(CC W).ty 86=some T86:=_root_.id rfl
theorem ty89:(CC W).ty 89=some T89:=_root_.id rfl
theorem ty90:(CC W).ty 90=some T90:=_root_.id rfl
theorem ty91:(CC W).ty 91=some T91:=_root_.id rfl
theorem ty94:(CC W).ty 94=some T94:=_root_.id rfl
theorem ty96:(CC W).ty 96=some T96:=_root_.id rfl
theorem ty100:(CC W).ty 100=some T100:=_root_.id rfl
theorem ty108:(CC W).ty 108=some T108:=_root_.id rfl
theorem ty144:(CC W).ty 144=some T144:=_root_.id rfl
theorem ty159:(CC W).ty 159=some T159:=_root_.id rfl
theorem size3:(CC W).size 3=some 1:=_root_.id rfl
theorem zero3:(CC W).zero 3=(some [.int .i64 0]):=_root_.id rfl
theorem kind4:(CC W).kind 4= .bool:=_root_.id rfl
theorem kind5:(CC W).kind 5= .int .u8:=_root_.id rfl
theorem size5:(CC W).size 5=some 1:=_root_.id rfl
theorem zero5:(CC W).zero 5=(some [.int .u8 0]):=_root_.id rfl
theorem kind9:(CC W).kind 9= .str:=_root_.id rfl
theorem size9:(CC W).size 9=some 1:=_root_.id rfl
theorem zero9:(CC W).zero 9=(some [.str []]):=_root_.id rfl
theorem kind23:(CC W).kind 23= .struct [(0,3),(1,3),(2,3)] true:=_root_.id rfl
theorem kind24:(CC W).kind 24= .slice 35:=_root_.id rfl
theorem kind25:(CC W).kind 25= .ptr 88:=_root_.id rfl
theorem size26:(CC W).size 26=some 1:=_root_.id rfl
theorem zero26:(CC W).zero 26=(some [.int .i64 0]):=_root_.id rfl
theorem kind29:(CC W).kind 29= .ptr 60:=_root_.id rfl
theorem kind35:(CC W).kind 35= .struct [(0,3),(1,3),(2,3),(3,9),(4,9),(5,9)] true:=_root_.id rfl
theorem size35:(CC W).size 35=some 6:=_root_.id rfl
theorem kind37:(CC W).kind 37= .slice 9:=_root_.id rfl
theorem size37:(CC W).size 37=some 1:=_root_.id rfl
theorem kind39:(CC W).kind 39= .struct [(0,26),(1,9),(2,3),(3,3),(4,3),(5,37)] true:=_root_.id rfl
theorem size39:(CC W).size 39=some 6:=_root_.id rfl
theorem kind44:(CC W).kind 44= .slice 55:=_root_.id rfl
theorem kind46:(CC W).kind 46= .slice 108:=_root_.id rfl
theorem kind51:(CC W).kind 51= .slice 5:=_root_.id rfl
theorem size51:(CC W).size 51=some 1:=_root_.id rfl
theorem kind53:(CC W).kind 53= .slice 3:=_root_.id rfl
theorem size53:(CC W).size 53=some 1:=_root_.id rfl
theorem kind55:(CC W).kind 55= .struct [(0,9),(1,3),(2,3),(3,3),(4,3),(5,53),(6,9)] true:=_root_.id rfl
theorem size55:(CC W).size 55=some 7:=_root_.id rfl
theorem zero55:(CC W).zero 55=(some [.str [],.int .i64 0,.int .i64 0,.int .i64 0,.int .i64 0,.sl none 0 0 none,.str []]):=_root_.id rfl
theorem kind58:(CC W).kind 58= .slice 100:=_root_.id rfl
theorem size58:(CC W).size 58=some 1:=_root_.id rfl
theorem kind60:(CC W).kind 60= .struct [(0,58),(1,3)] true:=_root_.id rfl
theorem kind82:(CC W).kind 82= .struct [(0,3),(1,3),(2,3),(3,3),(4,3)] true:=_root_.id rfl
theorem size82:(CC W).size 82=some 5:=_root_.id rfl
theorem kind85:(CC W).kind 85= .slice 89:=_root_.id rfl
theorem kind86:(CC W).kind 86= .slice 96:=_root_.id rfl
theorem size86:(CC W).size 86=some 1:=_root_.id rfl
theorem kind88:(CC W).kind 88= .struct [(0,85),(1,3),(2,86)] true:=_root_.id rfl
theorem size89:(CC W).size 89=some 1:=_root_.id rfl
theorem zero89:(CC W).zero 89=(some [.ptr none]):=_root_.id rfl
theorem kind90:(CC W).kind 90= .map 3 9:=_root_.id rfl
theorem size90:(CC W).size 90=some 1:=_root_.id rfl
theorem kind91:(CC W).kind 91= .slice 159:=_root_.id rfl
theorem size91:(CC W).size 91=some 1:=_root_.id rfl
theorem kind93:(CC W).kind 93= .struct [(0,3),(1,3),(2,3),(3,90),(4,91)] true:=_root_.id rfl
theorem kind96:(CC W).kind 96= .struct [(0,3),(1,4),(2,94)] true:=_root_.id rfl
theorem size96:(CC W).size 96=some 3:=_root_.id rfl
theorem zero96:(CC W).zero 96=(some [.int .i64 0,.bool false,.nilfn]):=_root_.id rfl
theorem kind100:(CC W).kind 100= .struct [(0,3),(1,3),(2,3),(3,53),(4,37),(5,37),(6,53)] true:=_root_.id rfl
theorem size100:(CC W).size 100=some 7:=_root_.id rfl
theorem zero100:(CC W).zero 100=(some [.int .i64 0,.int .i64 0,.int .i64 0,.sl none 0 0 none,.sl none 0 0 none,.sl none 0 0 none,.sl none 0 0 none]):=_root_.id rfl
theorem kind108:(CC W).kind 108= .struct [(0,9),(1,3),(2,3),(3,3),(4,3),(5,53),(6,9)] true:=_root_.id rfl
theorem size108:(CC W).size 108=some 7:=_root_.id rfl
theorem zero108:(CC W).zero 108=(some [.str [],.int .i64 0,.int .i64 0,.int .i64 0,.int .i64 0,.sl none 0 0 none,.str []]):=_root_.id rfl
theorem kind144:(CC W).kind 144= .ptr 146:=_root_.id rfl
theorem size144:(CC W).size 144=some 1:=_root_.id rfl
theorem kind146:(CC W).kind 146= .struct [(0,144),(1,51)] true:=_root_.id rfl
theorem size146:(CC W).size 146=some 2:=_root_.id rfl
theorem kind159:(CC W).kind 159= .struct [(0,9),(1,3)] true:=_root_.id rfl
theorem size159:(CC W).size 159=some 2:=_root_.id rfl
theorem kind181:(CC W).kind 181= .ptr 5:=_root_.id rfl
theorem kind193:(CC W).kind 193= .map 196 4:=_root_.id rfl
theorem kind211:(CC W).kind 211= .uptr:=_root_.id rfl
theorem kind216:(CC W).kind 216= .slice 26:=_root_.id rfl
theorem fn3:(CC W).fn 3=some Tryz.f3:=_root_.id rfl
theorem fn12:(CC W).fn 12=some Tryz.f12:=_root_.id rfl
theorem fn13:(CC W).fn 13=some Tryz.f13:=_root_.id rfl
theorem fn14:(CC W).fn 14=some Tryz.f14:=_root_.id rfl
theorem fn15:(CC W).fn 15=some Tryz.f15:=_root_.id rfl
theorem fn16:(CC W).fn 16=some Tryz.f16:=_root_.id rfl
theorem fn17:(CC W).fn 17=some Tryz.f17:=_root_.id rfl
theorem fn18:(CC W).fn 18=some Tryz.f18:=_root_.id rfl
theorem fn19:(CC W).fn 19=some Tryz.f19:=_root_.id rfl
theorem fn20:(CC W).fn 20=some Tryz.f20:=_root_.id rfl
theorem fn21:(CC W).fn 21=some Tryz.f21:=_root_.id rfl
theorem fn22:(CC W).fn 22=some Tryz.f22:=_root_.id rfl
theorem fn23:(CC W).fn 23=some Tryz.f23:=_root_.id rfl
theorem fn24:(CC W).fn 24=some Tryz.f24:=_root_.id rfl
theorem fn26:(CC W).fn 26=some Tryz.f26:=_root_.id rfl
theorem fn34:(CC W).fn 34=some Tryz.f34:=_root_.id rfl
theorem fn35:(CC W).fn 35=some Tryz.f35:=_root_.id rfl
theorem fn36:(CC W).fn 36=some Tryz.f36:=_root_.id rfl
theorem fn37:(CC W).fn 37=some Tryz.f37:=_root_.id rfl
theorem fn38:(CC W).fn 38=some Tryz.f38:=_root_.id rfl
theorem fn39:(CC W).fn 39=some Tryz.f39:=_root_.id rfl
theorem fn40:(CC W).fn 40=some Tryz.f40:=_root_.id rfl
theorem fn41:(CC W).fn 41=some Tryz.f41:=_root_.id rfl
theorem fn42:(CC W).fn 42=some Tryz.f42:=_root_.id rfl
theorem fn43:(CC W).fn 43=some Tryz.f43:=_root_.id rfl
theorem fn44:(CC W).fn 44=some Tryz.f44:=_root_.id rfl
theorem fn45:(CC W).fn 45=some Tryz.f45:=_root_.id rfl
theorem fn46:(CC W).fn 46=some Tryz.f46:=_root_.id rfl
theorem fn47:(CC W).fn 47=some Tryz.f47:=_root_.id rfl
theorem fn48:(CC W).fn 48=some Tryz.f48:=_root_.id rfl
theorem fn49:(CC W).fn 49=some Tryz.f49:=_root_.id rfl
theorem fn50:(CC W).fn 50=some Tryz.f50:=_root_.id rfl
theorem fn51:(CC W).fn 51=some Tryz.f51:=_root_.id rfl
theorem fn52:(CC W).fn 52=some Tryz.f52:=_root_.id rfl
theorem fn53:(CC W).fn 53=some Tryz.f53:=_root_.id rfl
theorem fn54:(CC W).fn 54=some Tryz.f54:=_root_.id rfl
theorem fn55:(CC W).fn 55=some Tryz.f55:=_root_.id rfl
theorem fn56:(CC W).fn 56=some Tryz.f56:=_root_.id rfl
theorem fn57:(CC W).fn 57=some Tryz.f57:=_root_.id rfl
theorem fn58:(CC W).fn 58=some Tryz.f58:=_root_.id rfl
theorem fn67:(CC W).fn 67=some Tryz.f67:=_root_.id rfl
theorem fn68:(CC W).fn 68=some Tryz.f68:=_root_.id rfl
theorem fn69:(CC W).fn 69=some Tryz.f69:=_root_.id rfl
theorem fn70:(CC W).fn 70=some Tryz.f70:=_root_.id rfl
theorem fn71:(CC W).fn 71=some Tryz.f71:=_root_.id rfl
theorem fn72:(CC W).fn 72=some Tryz.f72:=_root_.id rfl
theorem fn73:(CC W).fn 73=some Tryz.f73:=_root_.id rfl
theorem fn74:(CC W).fn 74=some Tryz.f74:=_root_.id rfl
theorem fn75:(CC W).fn 75=some Tryz.f75:=_root_.id rfl
theorem fn76:(CC W).fn 76=some Tryz.f76:=_root_.id rfl
theorem fn77:(CC W).fn 77=some Tryz.f77:=_root_.id rfl
theorem fn78:(CC W).fn 78=some Tryz.f78:=_root_.id rfl
theorem fn79:(CC W).fn 79=some Tryz.f79:=_root_.id rfl
theorem fn80:(CC W).fn 80=some Tryz.f80:=_root_.id rfl
theorem fn81:(CC W).fn 81=some Tryz.f81:=_root_.id rfl
theorem fn82:(CC W).fn 82=some Tryz.f82:=_root_.id rfl
theorem fn83:(CC W).fn 83=some Tryz.f83:=_root_.id rfl
theorem fn84:(CC W).fn 84=some Tryz.f84:=_root_.id rfl
theorem fn85:(CC W).fn 85=some Tryz.f85:=_root_.id rfl
theorem fn86:(CC W).fn 86=some Tryz.f86:=_root_.id rfl
theorem fn87:(CC W).fn 87=some Tryz.f87:=_root_.id rfl
theorem fn88:(CC W).fn 88=some Tryz.f88:=_root_.id rfl
theorem fn89:(CC W).fn 89=some Tryz.f89:=_root_.id rfl
theorem fn90:(CC W).fn 90=some Tryz.f90:=_root_.id rfl
theorem fn91:(CC W).fn 91=some Tryz.f91:=_root_.id rfl
theorem fn92:(CC W).fn 92=some Tryz.f92:=_root_.id rfl
theorem fn93:(CC W).fn 93=some Tryz.f93:=_root_.id rfl
theorem fn94:(CC W).fn 94=some Tryz.f94:=_root_.id rfl
theorem fn95:(CC W).fn 95=some Tryz.f95:=_root_.id rfl
theorem fn96:(CC W).fn 96=some Tryz.f96:=_root_.id rfl
theorem fn97:(CC W).fn 97=some Tryz.f97:=_root_.id rfl
theorem fn98:(CC W).fn 98=some Tryz.f98:=_root_.id rfl
theorem fn99:(CC W).fn 99=some Tryz.f99:=_root_.id rfl
theorem fn100:(CC W).fn 100=some Tryz.f100:=_root_.id rfl
theorem fn101:(CC W).fn 101=some Tryz.f101:=_root_.id rfl
theorem fn111:(CC W).fn 111=some Tryz.f111:=_root_.id rfl
theorem fn112:(CC W).fn 112=some Tryz.f112:=_root_.id rfl
theorem fn113:(CC W).fn 113=some Tryz.f113:=_root_.id rfl
theorem fn114:(CC W).fn 114=some Tryz.f114:=_root_.id rfl
theorem fn115:(CC W).fn 115=some Tryz.f115:=_root_.id rfl
theorem fn116:(CC W).fn 116=some Tryz.f116:=_root_.id rfl
theorem fn117:(CC W).fn 117=some Tryz.f117:=_root_.id rfl
theorem fn118:(CC W).fn 118=some Tryz.f118:=_root_.id rfl
theorem fn119:(CC W).fn 119=some Tryz.f119:=_root_.id rfl
theorem fn120:(CC W).fn 120=some Tryz.f120:=_root_.id rfl
theorem fn121:(CC W).fn 121=some Tryz.f121:=_root_.id rfl
theorem fn122:(CC W).fn 122=some Tryz.f122:=_root_.id rfl
theorem fn123:(CC W).fn 123=some Tryz.f123:=_root_.id rfl
theorem fn124:(CC W).fn 124=some Tryz.f124:=_root_.id rfl
theorem fn125:(CC W).fn 125=some Tryz.f125:=_root_.id rfl
theorem fn126:(CC W).fn 126=some Tryz.f126:=_root_.id rfl
theorem fn127:(CC W).fn 127=some Tryz.f127:=_root_.id rfl
theorem fn128:(CC W).fn 128=some Tryz.f128:=_root_.id rfl
theorem fn129:(CC W).fn 129=some Tryz.f129:=_root_.id rfl
theorem fn130:(CC W).fn 130=some Tryz.f130:=_root_.id rfl
theorem fn131:(CC W).fn 131=some Tryz.f131:=_root_.id rfl
theorem fn132:(CC W).fn 132=some Tryz.f132:=_root_.id rfl
theorem fn144:(CC W).fn 144=some Tryz.f144:=_root_.id rfl
theorem fn146:(CC W).fn 146=some Tryz.f146:=_root_.id rfl
theorem fn147:(CC W).fn 147=some Tryz.f147:=_root_.id rfl
theorem fn148:(CC W).fn 148=some Tryz.f148:=_root_.id rfl
theorem fn149:(CC W).fn 149=some Tryz.f149:=_root_.id rfl
theorem fn150:(CC W).fn 150=some Tryz.f150:=_root_.id rfl
theorem fn176:(CC W).fn 176=some Tryz.f176:=_root_.id rfl
theorem fn189:(CC W).fn 189=some Tryz.f189:=_root_.id rfl
end
attribute [push_cast] qa9 qb9 qc9 qd9 qe9 qf9 qg9 qh9 qi9 qj9 qk9 ql9 qm9 qn9 qo9 qp9 qq9 qr9 qs9 qt9 qu9 qv9 qw9 qx9 ev qy9 qz9 za9 zb9 zc9 zd9 ze9 zf9 zg9 zh9 zi9 zj9 zk9 zl9 zm9 zn9 zo9 zp9 zq9 zr9 zs9 zt9 zu9 zv9 zw9
end Go.Proofs.YtbofhlifobjolaaGreatDoor.Ax
end
