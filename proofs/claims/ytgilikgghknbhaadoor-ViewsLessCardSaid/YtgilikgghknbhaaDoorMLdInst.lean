/- Proved: what functions of the given program compute (used by the theorem of this claim). Conditions: none but those that each theorem states. -/
import Derived.Test.YtgilikgghknbhaaDoorMSxPanic
import Derived.Test.YtgilikgghknbhaaDoorProg
import Derived.Test.YtgilikgghknbhaaDoorChecked
set_option linter.unusedVariables false
set_option linter.unusedSimpArgs false
set_option linter.unnecessarySimpa false

namespace Go.Sx
open Go.Proofs Go.Proofs.Tryd
set_option maxRecDepth 100000
instance : ZrT prog 1 (.nilf):=⟨_,_,O,O,by decide,O⟩
instance : IkT prog 2 .i64:=⟨O⟩
instance : ZrT prog 2 (.int 0):=⟨_,_,O,O,by decide,O⟩
instance : LdT prog 3 1 false:=⟨_,_,O,O,O,O⟩
instance : ElT prog 3 1 8:=⟨_,_,O,O,O,O,O,by decide,O⟩
instance : IkT prog 3 .i64:=⟨O⟩
instance : ZrT prog 3 (.int 0):=⟨_,_,O,O,by decide,O⟩
instance : LdT prog 4 1 false:=⟨_,_,O,O,O,O⟩
instance : BoT prog 4:=⟨O⟩
instance : ZrT prog 4 (.bool false):=⟨_,_,O,O,by decide,O⟩
instance : LdT prog 5 1 false:=⟨_,_,O,O,O,O⟩
instance : ElT prog 5 1 1:=⟨_,_,O,O,O,O,O,by decide,O⟩
instance : IkT prog 5 .u8:=⟨O⟩
instance : ZrT prog 5 (.u8 0):=⟨_,_,O,O,by decide,O⟩
instance : IkT prog 6 .u8:=⟨O⟩
instance : ZrT prog 6 (.u8 0):=⟨_,_,O,O,by decide,O⟩
instance : ZrT prog 7 (.agg [.int 0,.int 0,.bool false,.u8 0]):=⟨_,_,O,O,by decide,O⟩
instance : BsT prog 7 ([.int 0,.int 0,.bool false,.u8 0]):=⟨_,_,_,O,O,O,O,by decide⟩
instance : ZrT prog 8 (.agg [.int 0,.int 0,.bool false,.u8 0]):=⟨_,_,O,O,by decide,O⟩
instance : BsT prog 8 ([.int 0,.int 0,.bool false,.u8 0]):=⟨_,_,_,O,O,O,O,by decide⟩
instance : StT prog 9:=⟨O⟩
instance : ZrT prog 9 (.str []):=⟨_,_,O,O,by decide,O⟩
instance : StT prog 10:=⟨O⟩
instance : ZrT prog 10 (.str []):=⟨_,_,O,O,by decide,O⟩
instance : StT prog 11:=⟨O⟩
instance : ZrT prog 11 (.str []):=⟨_,_,O,O,by decide,O⟩
instance : IkT prog 12 .u64:=⟨O⟩
instance : ZrT prog 12 (.u64 0):=⟨_,_,O,O,by decide,O⟩
instance : ZrT prog 13 (.agg [.str [],.u64 0]):=⟨_,_,O,O,by decide,O⟩
instance : BsT prog 13 ([.str [],.u64 0]):=⟨_,_,_,O,O,O,O,by decide⟩
instance : ZrT prog 14 (.agg [.str [],.u64 0]):=⟨_,_,O,O,by decide,O⟩
instance : BsT prog 14 ([.str [],.u64 0]):=⟨_,_,_,O,O,O,O,by decide⟩
instance : ZrT prog 15 (.nilp):=⟨_,_,O,O,by decide,O⟩
instance : ZrT prog 17 (.nilp):=⟨_,_,O,O,by decide,O⟩
instance : ZrT prog 18 (.agg [.nilp]):=⟨_,_,O,O,by decide,O⟩
instance : BsT prog 18 ([.nilp]):=⟨_,_,_,O,O,O,O,by decide⟩
instance : ZrT prog 19 (.agg [.nilp]):=⟨_,_,O,O,by decide,O⟩
instance : BsT prog 19 ([.nilp]):=⟨_,_,_,O,O,O,O,by decide⟩
instance : IkT prog 21 .i32:=⟨O⟩
instance : ZrT prog 21 (.ik .i32 0):=⟨_,_,O,O,by decide,O⟩
instance : SlT prog 22 56:=⟨O⟩
instance : ZrT prog 22 (.nils):=⟨_,_,O,O,by decide,O⟩
instance : SlT prog 23 77:=⟨O⟩
instance : ZrT prog 23 (.nils):=⟨_,_,O,O,by decide,O⟩
instance : LdT prog 24 1 false:=⟨_,_,O,O,O,O⟩
instance : ElT prog 24 1 24:=⟨_,_,O,O,O,O,O,by decide,O⟩
instance : SlT prog 24 5:=⟨O⟩
instance : ZrT prog 24 (.nils):=⟨_,_,O,O,by decide,O⟩
instance : EqT prog 25:=⟨by decide +kernel⟩
instance : ZrT prog 25 (.arr 32 1 ((List.replicate 32 0).map D.u8)):=⟨_,_,O,O,by decide,O⟩
instance : LdT prog 26 32 true:=⟨_,_,O,O,O,O⟩
instance : ElT prog 26 32 32:=⟨_,_,O,O,O,O,O,by decide,O⟩
instance : ArT prog 26 32 5:=⟨O⟩
instance : EqT prog 26:=⟨by decide +kernel⟩
instance : ZrT prog 26 (.arr 32 1 ((List.replicate 32 0).map D.u8)):=⟨_,_,O,O,by decide,O⟩
instance : ZrT prog 27 (.nilf):=⟨_,_,O,O,by decide,O⟩
instance : ZrT prog 28 (.nilf):=⟨_,_,O,O,by decide,O⟩
instance : ZrT prog 29 (.nilf):=⟨_,_,O,O,by decide,O⟩
instance : SlT prog 30 72:=⟨O⟩
instance : ZrT prog 30 (.nils):=⟨_,_,O,O,by decide,O⟩
instance : ZrT prog 31 (.nilf):=⟨_,_,O,O,by decide,O⟩
instance : LdT prog 32 1 false:=⟨_,_,O,O,O,O⟩
instance : ElT prog 32 1 4:=⟨_,_,O,O,O,O,O,by decide,O⟩
instance : IkT prog 32 .u32:=⟨O⟩
instance : ZrT prog 32 (.u32 0):=⟨_,_,O,O,by decide,O⟩
instance : LdT prog 33 1 false:=⟨_,_,O,O,O,O⟩
instance : SlT prog 33 188:=⟨O⟩
instance : ZrT prog 33 (.nils):=⟨_,_,O,O,by decide,O⟩
instance : ZrT prog 34 (.agg [.u32 0,.arr 32 1 ((List.replicate 32 0).map D.u8),.arr 32 1 ((List.replicate 32 0).map D.u8),.u32 0,.u32 0,.u32 0]):=⟨_,_,O,O,by decide,O⟩
instance : BsT prog 34 ([.u32 0,.arr 32 1 ((List.replicate 32 0).map D.u8),.arr 32 1 ((List.replicate 32 0).map D.u8),.u32 0,.u32 0,.u32 0]):=⟨_,_,_,O,O,O,O,by decide⟩
instance : LdT prog 35 68 true:=⟨_,_,O,O,O,O⟩
instance : ElT prog 35 68 80:=⟨_,_,O,O,O,O,O,by decide,O⟩
instance : FdT prog 35 0 0:=⟨_,_,_,O,O,O,O,by decide⟩
instance : FdT prog 35 1 1:=⟨_,_,_,O,O,O,O,by decide⟩
instance : FdT prog 35 2 33:=⟨_,_,_,O,O,O,O,by decide⟩
instance : FdT prog 35 3 65:=⟨_,_,_,O,O,O,O,by decide⟩
instance : FdT prog 35 4 66:=⟨_,_,_,O,O,O,O,by decide⟩
instance : FdT prog 35 5 67:=⟨_,_,_,O,O,O,O,by decide⟩
instance : ZrT prog 35 (.agg [.u32 0,.arr 32 1 ((List.replicate 32 0).map D.u8),.arr 32 1 ((List.replicate 32 0).map D.u8),.u32 0,.u32 0,.u32 0]):=⟨_,_,O,O,by decide,O⟩
instance : BsT prog 35 ([.u32 0,.arr 32 1 ((List.replicate 32 0).map D.u8),.arr 32 1 ((List.replicate 32 0).map D.u8),.u32 0,.u32 0,.u32 0]):=⟨_,_,_,O,O,O,O,by decide⟩
instance : ZrT prog 36 (.agg [.u32 0,.int 0,.u32 0,.nils,.agg [.u32 0,.arr 32 1 ((List.replicate 32 0).map D.u8),.arr 32 1 ((List.replicate 32 0).map D.u8),.u32 0,.u32 0,.u32 0]]):=⟨_,_,O,O,by decide,O⟩
instance : BsT prog 36 ([.u32 0,.int 0,.u32 0,.nils,.agg [.u32 0,.arr 32 1 ((List.replicate 32 0).map D.u8),.arr 32 1 ((List.replicate 32 0).map D.u8),.u32 0,.u32 0,.u32 0]]):=⟨_,_,_,O,O,O,O,by decide⟩
instance : LdT prog 37 72 true:=⟨_,_,O,O,O,O⟩
instance : FdT prog 37 0 0:=⟨_,_,_,O,O,O,O,by decide⟩
instance : FdT prog 37 1 1:=⟨_,_,_,O,O,O,O,by decide⟩
instance : FdT prog 37 2 2:=⟨_,_,_,O,O,O,O,by decide⟩
instance : FdT prog 37 3 3:=⟨_,_,_,O,O,O,O,by decide⟩
instance : FdT prog 37 4 4:=⟨_,_,_,O,O,O,O,by decide⟩
instance : ZrT prog 37 (.agg [.u32 0,.int 0,.u32 0,.nils,.agg [.u32 0,.arr 32 1 ((List.replicate 32 0).map D.u8),.arr 32 1 ((List.replicate 32 0).map D.u8),.u32 0,.u32 0,.u32 0]]):=⟨_,_,O,O,by decide,O⟩
instance : BsT prog 37 ([.u32 0,.int 0,.u32 0,.nils,.agg [.u32 0,.arr 32 1 ((List.replicate 32 0).map D.u8),.arr 32 1 ((List.replicate 32 0).map D.u8),.u32 0,.u32 0,.u32 0]]):=⟨_,_,_,O,O,O,O,by decide⟩
instance : ZrT prog 38 (.nilf):=⟨_,_,O,O,by decide,O⟩
instance : ZrT prog 39 (.nils):=⟨_,_,O,O,by decide,O⟩
instance : ZrT prog 40 (.nilf):=⟨_,_,O,O,by decide,O⟩
instance : SlT prog 41 26:=⟨O⟩
instance : ZrT prog 41 (.nils):=⟨_,_,O,O,by decide,O⟩
instance : ZrT prog 42 (.nilf):=⟨_,_,O,O,by decide,O⟩
instance : SlT prog 43 58:=⟨O⟩
instance : ZrT prog 43 (.nils):=⟨_,_,O,O,by decide,O⟩
instance : ZrT prog 44 (.nilf):=⟨_,_,O,O,by decide,O⟩
instance : ZrT prog 45 (.nilf):=⟨_,_,O,O,by decide,O⟩
instance : SlT prog 46 62:=⟨O⟩
instance : ZrT prog 46 (.nils):=⟨_,_,O,O,by decide,O⟩
instance : ZrT prog 47 (.nilf):=⟨_,_,O,O,by decide,O⟩
instance : LdT prog 48 1 false:=⟨_,_,O,O,O,O⟩
instance : ElT prog 48 1 8:=⟨_,_,O,O,O,O,O,by decide,O⟩
instance : IkT prog 48 .u64:=⟨O⟩
instance : ZrT prog 48 (.u64 0):=⟨_,_,O,O,by decide,O⟩
instance : ZrT prog 49 (.nilf):=⟨_,_,O,O,by decide,O⟩
instance : ZrT prog 50 (.nilf):=⟨_,_,O,O,by decide,O⟩
instance : LdT prog 51 1 false:=⟨_,_,O,O,O,O⟩
instance : SlT prog 51 67:=⟨O⟩
instance : ZrT prog 51 (.nils):=⟨_,_,O,O,by decide,O⟩
instance : LdT prog 52 1 false:=⟨_,_,O,O,O,O⟩
instance : SlT prog 52 64:=⟨O⟩
instance : ZrT prog 52 (.nils):=⟨_,_,O,O,by decide,O⟩
instance : ZrT prog 53 (.agg [.u32 0,.nils,.nils,.u32 0]):=⟨_,_,O,O,by decide,O⟩
instance : BsT prog 53 ([.u32 0,.nils,.nils,.u32 0]):=⟨_,_,_,O,O,O,O,by decide⟩
instance : LdT prog 54 4 true:=⟨_,_,O,O,O,O⟩
instance : ElT prog 54 4 64:=⟨_,_,O,O,O,O,O,by decide,O⟩
instance : FdT prog 54 0 0:=⟨_,_,_,O,O,O,O,by decide⟩
instance : FdT prog 54 1 1:=⟨_,_,_,O,O,O,O,by decide⟩
instance : FdT prog 54 2 2:=⟨_,_,_,O,O,O,O,by decide⟩
instance : FdT prog 54 3 3:=⟨_,_,_,O,O,O,O,by decide⟩
instance : ZrT prog 54 (.agg [.u32 0,.nils,.nils,.u32 0]):=⟨_,_,O,O,by decide,O⟩
instance : BsT prog 54 ([.u32 0,.nils,.nils,.u32 0]):=⟨_,_,_,O,O,O,O,by decide⟩
instance : ZrT prog 55 (.agg [.int 0,.arr 32 1 ((List.replicate 32 0).map D.u8),.int 0,.arr 32 1 ((List.replicate 32 0).map D.u8),.nils,.nils,.agg [.u32 0,.nils,.nils,.u32 0]]):=⟨_,_,O,O,by decide,O⟩
instance : BsT prog 55 ([.int 0,.arr 32 1 ((List.replicate 32 0).map D.u8),.int 0,.arr 32 1 ((List.replicate 32 0).map D.u8),.nils,.nils,.agg [.u32 0,.nils,.nils,.u32 0]]):=⟨_,_,_,O,O,O,O,by decide⟩
instance : LdT prog 56 72 true:=⟨_,_,O,O,O,O⟩
instance : ElT prog 56 72 192:=⟨_,_,O,O,O,O,O,by decide,O⟩
instance : FdT prog 56 0 0:=⟨_,_,_,O,O,O,O,by decide⟩
instance : FdT prog 56 3 34:=⟨_,_,_,O,O,O,O,by decide⟩
instance : FdT prog 56 6 68:=⟨_,_,_,O,O,O,O,by decide⟩
instance : ZrT prog 56 (.agg [.int 0,.arr 32 1 ((List.replicate 32 0).map D.u8),.int 0,.arr 32 1 ((List.replicate 32 0).map D.u8),.nils,.nils,.agg [.u32 0,.nils,.nils,.u32 0]]):=⟨_,_,O,O,by decide,O⟩
instance : BsT prog 56 ([.int 0,.arr 32 1 ((List.replicate 32 0).map D.u8),.int 0,.arr 32 1 ((List.replicate 32 0).map D.u8),.nils,.nils,.agg [.u32 0,.nils,.nils,.u32 0]]):=⟨_,_,_,O,O,O,O,by decide⟩
instance : EqT prog 57:=⟨by decide +kernel⟩
instance : ZrT prog 57 (.agg [.int 0,.arr 32 1 ((List.replicate 32 0).map D.u8)]):=⟨_,_,O,O,by decide,O⟩
instance : BsT prog 57 ([.int 0,.arr 32 1 ((List.replicate 32 0).map D.u8)]):=⟨_,_,_,O,O,O,O,by decide⟩
instance : LdT prog 58 33 true:=⟨_,_,O,O,O,O⟩
instance : ElT prog 58 33 40:=⟨_,_,O,O,O,O,O,by decide,O⟩
instance : EqT prog 58:=⟨by decide +kernel⟩
instance : FdT prog 58 1 1:=⟨_,_,_,O,O,O,O,by decide⟩
instance : ZrT prog 58 (.agg [.int 0,.arr 32 1 ((List.replicate 32 0).map D.u8)]):=⟨_,_,O,O,by decide,O⟩
instance : BsT prog 58 ([.int 0,.arr 32 1 ((List.replicate 32 0).map D.u8)]):=⟨_,_,_,O,O,O,O,by decide⟩
instance : EqT prog 59:=⟨by decide +kernel⟩
instance : ZrT prog 59 (.agg [.arr 32 1 ((List.replicate 32 0).map D.u8),.u32 0]):=⟨_,_,O,O,by decide,O⟩
instance : BsT prog 59 ([.arr 32 1 ((List.replicate 32 0).map D.u8),.u32 0]):=⟨_,_,_,O,O,O,O,by decide⟩
instance : LdT prog 60 33 true:=⟨_,_,O,O,O,O⟩
instance : ElT prog 60 33 36:=⟨_,_,O,O,O,O,O,by decide,O⟩
instance : EqT prog 60:=⟨by decide +kernel⟩
instance : FdT prog 60 0 0:=⟨_,_,_,O,O,O,O,by decide⟩
instance : FdT prog 60 1 32:=⟨_,_,_,O,O,O,O,by decide⟩
instance : ZrT prog 60 (.agg [.arr 32 1 ((List.replicate 32 0).map D.u8),.u32 0]):=⟨_,_,O,O,by decide,O⟩
instance : BsT prog 60 ([.arr 32 1 ((List.replicate 32 0).map D.u8),.u32 0]):=⟨_,_,_,O,O,O,O,by decide⟩
instance : EqT prog 61:=⟨by decide +kernel⟩
instance : ZrT prog 61 (.agg [.agg [.arr 32 1 ((List.replicate 32 0).map D.u8),.u32 0],.u64 0,.int 0]):=⟨_,_,O,O,by decide,O⟩
instance : BsT prog 61 ([.agg [.arr 32 1 ((List.replicate 32 0).map D.u8),.u32 0],.u64 0,.int 0]):=⟨_,_,_,O,O,O,O,by decide⟩
instance : LdT prog 62 35 true:=⟨_,_,O,O,O,O⟩
instance : ElT prog 62 35 56:=⟨_,_,O,O,O,O,O,by decide,O⟩
instance : EqT prog 62:=⟨by decide +kernel⟩
instance : FdT prog 62 0 0:=⟨_,_,_,O,O,O,O,by decide⟩
instance : FdT prog 62 1 33:=⟨_,_,_,O,O,O,O,by decide⟩
instance : FdT prog 62 2 34:=⟨_,_,_,O,O,O,O,by decide⟩
instance : ZrT prog 62 (.agg [.agg [.arr 32 1 ((List.replicate 32 0).map D.u8),.u32 0],.u64 0,.int 0]):=⟨_,_,O,O,by decide,O⟩
instance : BsT prog 62 ([.agg [.arr 32 1 ((List.replicate 32 0).map D.u8),.u32 0],.u64 0,.int 0]):=⟨_,_,_,O,O,O,O,by decide⟩
instance : ZrT prog 63 (.agg [.u64 0,.nils]):=⟨_,_,O,O,by decide,O⟩
instance : BsT prog 63 ([.u64 0,.nils]):=⟨_,_,_,O,O,O,O,by decide⟩
instance : LdT prog 64 2 true:=⟨_,_,O,O,O,O⟩
instance : ElT prog 64 2 32:=⟨_,_,O,O,O,O,O,by decide,O⟩
instance : FdT prog 64 0 0:=⟨_,_,_,O,O,O,O,by decide⟩
instance : FdT prog 64 1 1:=⟨_,_,_,O,O,O,O,by decide⟩
instance : ZrT prog 64 (.agg [.u64 0,.nils]):=⟨_,_,O,O,by decide,O⟩
instance : BsT prog 64 ([.u64 0,.nils]):=⟨_,_,_,O,O,O,O,by decide⟩
instance : SlT prog 65 24:=⟨O⟩
instance : ZrT prog 65 (.nils):=⟨_,_,O,O,by decide,O⟩
instance : ZrT prog 66 (.agg [.agg [.arr 32 1 ((List.replicate 32 0).map D.u8),.u32 0],.nils,.u32 0,.nils]):=⟨_,_,O,O,by decide,O⟩
instance : BsT prog 66 ([.agg [.arr 32 1 ((List.replicate 32 0).map D.u8),.u32 0],.nils,.u32 0,.nils]):=⟨_,_,_,O,O,O,O,by decide⟩
instance : LdT prog 67 36 true:=⟨_,_,O,O,O,O⟩
instance : ElT prog 67 36 96:=⟨_,_,O,O,O,O,O,by decide,O⟩
instance : FdT prog 67 0 0:=⟨_,_,_,O,O,O,O,by decide⟩
instance : FdT prog 67 1 33:=⟨_,_,_,O,O,O,O,by decide⟩
instance : FdT prog 67 2 34:=⟨_,_,_,O,O,O,O,by decide⟩
instance : ZrT prog 67 (.agg [.agg [.arr 32 1 ((List.replicate 32 0).map D.u8),.u32 0],.nils,.u32 0,.nils]):=⟨_,_,O,O,by decide,O⟩
instance : BsT prog 67 ([.agg [.arr 32 1 ((List.replicate 32 0).map D.u8),.u32 0],.nils,.u32 0,.nils]):=⟨_,_,_,O,O,O,O,by decide⟩
instance : ZrT prog 68 (.nilf):=⟨_,_,O,O,by decide,O⟩
instance : ZrT prog 69 (.nilf):=⟨_,_,O,O,by decide,O⟩
instance : LdT prog 70 1 false:=⟨_,_,O,O,O,O⟩
instance : SlT prog 70 54:=⟨O⟩
instance : ZrT prog 70 (.nils):=⟨_,_,O,O,by decide,O⟩
instance : ZrT prog 71 (.agg [.agg [.u32 0,.arr 32 1 ((List.replicate 32 0).map D.u8),.arr 32 1 ((List.replicate 32 0).map D.u8),.u32 0,.u32 0,.u32 0],.nils]):=⟨_,_,O,O,by decide,O⟩
instance : BsT prog 71 ([.agg [.u32 0,.arr 32 1 ((List.replicate 32 0).map D.u8),.arr 32 1 ((List.replicate 32 0).map D.u8),.u32 0,.u32 0,.u32 0],.nils]):=⟨_,_,_,O,O,O,O,by decide⟩
instance : LdT prog 72 69 true:=⟨_,_,O,O,O,O⟩
instance : ElT prog 72 69 104:=⟨_,_,O,O,O,O,O,by decide,O⟩
instance : FdT prog 72 0 0:=⟨_,_,_,O,O,O,O,by decide⟩
instance : FdT prog 72 1 68:=⟨_,_,_,O,O,O,O,by decide⟩
instance : ZrT prog 72 (.agg [.agg [.u32 0,.arr 32 1 ((List.replicate 32 0).map D.u8),.arr 32 1 ((List.replicate 32 0).map D.u8),.u32 0,.u32 0,.u32 0],.nils]):=⟨_,_,O,O,by decide,O⟩
instance : BsT prog 72 ([.agg [.u32 0,.arr 32 1 ((List.replicate 32 0).map D.u8),.arr 32 1 ((List.replicate 32 0).map D.u8),.u32 0,.u32 0,.u32 0],.nils]):=⟨_,_,_,O,O,O,O,by decide⟩
instance : ZrT prog 74 (.nilf):=⟨_,_,O,O,by decide,O⟩
instance : LdT prog 75 1 false:=⟨_,_,O,O,O,O⟩
instance : SlT prog 75 86:=⟨O⟩
instance : ZrT prog 75 (.nils):=⟨_,_,O,O,by decide,O⟩
instance : ZrT prog 76 (.agg [.u8 0,.nils,.u8 0]):=⟨_,_,O,O,by decide,O⟩
instance : BsT prog 76 ([.u8 0,.nils,.u8 0]):=⟨_,_,_,O,O,O,O,by decide⟩
instance : LdT prog 77 3 true:=⟨_,_,O,O,O,O⟩
instance : ElT prog 77 3 40:=⟨_,_,O,O,O,O,O,by decide,O⟩
instance : FdT prog 77 0 0:=⟨_,_,_,O,O,O,O,by decide⟩
instance : FdT prog 77 1 1:=⟨_,_,_,O,O,O,O,by decide⟩
instance : FdT prog 77 2 2:=⟨_,_,_,O,O,O,O,by decide⟩
instance : ZrT prog 77 (.agg [.u8 0,.nils,.u8 0]):=⟨_,_,O,O,by decide,O⟩
instance : BsT prog 77 ([.u8 0,.nils,.u8 0]):=⟨_,_,_,O,O,O,O,by decide⟩
instance : IkT prog 78 .i64:=⟨O⟩
instance : ZrT prog 78 (.int 0):=⟨_,_,O,O,by decide,O⟩
instance : ZrT prog 80 (.nilf):=⟨_,_,O,O,by decide,O⟩
instance : ZrT prog 81 (.nilf):=⟨_,_,O,O,by decide,O⟩
instance : ZrT prog 82 (.nilf):=⟨_,_,O,O,by decide,O⟩
instance : ZrT prog 83 (.nilf):=⟨_,_,O,O,by decide,O⟩
instance : ZrT prog 84 (.nilf):=⟨_,_,O,O,by decide,O⟩
instance : ZrT prog 85 (.agg [.u8 0,.bool false,.nils,.u8 0,.u8 0]):=⟨_,_,O,O,by decide,O⟩
instance : BsT prog 85 ([.u8 0,.bool false,.nils,.u8 0,.u8 0]):=⟨_,_,_,O,O,O,O,by decide⟩
instance : LdT prog 86 5 true:=⟨_,_,O,O,O,O⟩
instance : ElT prog 86 5 40:=⟨_,_,O,O,O,O,O,by decide,O⟩
instance : FdT prog 86 0 0:=⟨_,_,_,O,O,O,O,by decide⟩
instance : FdT prog 86 1 1:=⟨_,_,_,O,O,O,O,by decide⟩
instance : FdT prog 86 2 2:=⟨_,_,_,O,O,O,O,by decide⟩
instance : FdT prog 86 3 3:=⟨_,_,_,O,O,O,O,by decide⟩
instance : FdT prog 86 4 4:=⟨_,_,_,O,O,O,O,by decide⟩
instance : ZrT prog 86 (.agg [.u8 0,.bool false,.nils,.u8 0,.u8 0]):=⟨_,_,O,O,by decide,O⟩
instance : BsT prog 86 ([.u8 0,.bool false,.nils,.u8 0,.u8 0]):=⟨_,_,_,O,O,O,O,by decide⟩
instance : SlT prog 87 90:=⟨O⟩
instance : ZrT prog 87 (.nils):=⟨_,_,O,O,by decide,O⟩
instance : ZrT prog 88 (.nilf):=⟨_,_,O,O,by decide,O⟩
instance : ZrT prog 89 (.agg [.int 0,.int 0,.arr 32 1 ((List.replicate 32 0).map D.u8),.agg [.u32 0,.nils,.nils,.u32 0]]):=⟨_,_,O,O,by decide,O⟩
instance : BsT prog 89 ([.int 0,.int 0,.arr 32 1 ((List.replicate 32 0).map D.u8),.agg [.u32 0,.nils,.nils,.u32 0]]):=⟨_,_,_,O,O,O,O,by decide⟩
instance : ElT prog 90 38 112:=⟨_,_,O,O,O,O,O,by decide,O⟩
instance : FdT prog 90 0 0:=⟨_,_,_,O,O,O,O,by decide⟩
instance : FdT prog 90 1 1:=⟨_,_,_,O,O,O,O,by decide⟩
instance : FdT prog 90 2 2:=⟨_,_,_,O,O,O,O,by decide⟩
instance : FdT prog 90 3 34:=⟨_,_,_,O,O,O,O,by decide⟩
instance : ZrT prog 90 (.agg [.int 0,.int 0,.arr 32 1 ((List.replicate 32 0).map D.u8),.agg [.u32 0,.nils,.nils,.u32 0]]):=⟨_,_,O,O,by decide,O⟩
instance : BsT prog 90 ([.int 0,.int 0,.arr 32 1 ((List.replicate 32 0).map D.u8),.agg [.u32 0,.nils,.nils,.u32 0]]):=⟨_,_,_,O,O,O,O,by decide⟩
instance : ZrT prog 91 (.nilf):=⟨_,_,O,O,by decide,O⟩
instance : ZrT prog 92 (.nilf):=⟨_,_,O,O,by decide,O⟩
instance : ZrT prog 95 (.nilf):=⟨_,_,O,O,by decide,O⟩
instance : ZrT prog 96 (.nilf):=⟨_,_,O,O,by decide,O⟩
instance : ZrT prog 97 (.nilf):=⟨_,_,O,O,by decide,O⟩
instance : ZrT prog 98 (.nilf):=⟨_,_,O,O,by decide,O⟩
instance : ZrT prog 99 (.nilf):=⟨_,_,O,O,by decide,O⟩
instance : ZrT prog 100 (.nilf):=⟨_,_,O,O,by decide,O⟩
instance : IkT prog 101 .u64:=⟨O⟩
instance : ZrT prog 101 (.u64 0):=⟨_,_,O,O,by decide,O⟩
instance : SlT prog 102 60:=⟨O⟩
instance : ZrT prog 102 (.nils):=⟨_,_,O,O,by decide,O⟩
instance : SlT prog 103 48:=⟨O⟩
instance : ZrT prog 103 (.nils):=⟨_,_,O,O,by decide,O⟩
instance : ZrT prog 105 (.nilf):=⟨_,_,O,O,by decide,O⟩
instance : ZrT prog 107 (.nilf):=⟨_,_,O,O,by decide,O⟩
instance : SlT prog 108 35:=⟨O⟩
instance : ZrT prog 108 (.nils):=⟨_,_,O,O,by decide,O⟩
instance : ZrT prog 109 (.nilf):=⟨_,_,O,O,by decide,O⟩
instance : ZrT prog 111 (.nilf):=⟨_,_,O,O,by decide,O⟩
instance : ZrT prog 112 (.nilf):=⟨_,_,O,O,by decide,O⟩
instance : ZrT prog 113 (.nilf):=⟨_,_,O,O,by decide,O⟩
instance : ZrT prog 115 (.nilf):=⟨_,_,O,O,by decide,O⟩
instance : ZrT prog 116 (.nilf):=⟨_,_,O,O,by decide,O⟩
instance : ZrT prog 117 (.nilf):=⟨_,_,O,O,by decide,O⟩
instance : ZrT prog 118 (.nilf):=⟨_,_,O,O,by decide,O⟩
instance : ZrT prog 119 (.nilf):=⟨_,_,O,O,by decide,O⟩
instance : ZrT prog 128 (.nilf):=⟨_,_,O,O,by decide,O⟩
instance : SlT prog 129 32:=⟨O⟩
instance : ZrT prog 129 (.nils):=⟨_,_,O,O,by decide,O⟩
instance : ZrT prog 130 (.nilf):=⟨_,_,O,O,by decide,O⟩
instance : ZrT prog 131 (.nilf):=⟨_,_,O,O,by decide,O⟩
instance : ZrT prog 132 (.nilf):=⟨_,_,O,O,by decide,O⟩
instance : ZrT prog 133 (.nilf):=⟨_,_,O,O,by decide,O⟩
instance : ZrT prog 134 (.nilf):=⟨_,_,O,O,by decide,O⟩
instance : ZrT prog 135 (.nilf):=⟨_,_,O,O,by decide,O⟩
instance : ZrT prog 136 (.nilf):=⟨_,_,O,O,by decide,O⟩
instance : ZrT prog 137 (.nilf):=⟨_,_,O,O,by decide,O⟩
instance : EqT prog 138:=⟨by decide +kernel⟩
instance : ZrT prog 138 (.arr 4 1 ((List.replicate 4 0).map D.u64)):=⟨_,_,O,O,by decide,O⟩
instance : LdT prog 139 4 true:=⟨_,_,O,O,O,O⟩
instance : ArT prog 139 4 48:=⟨O⟩
instance : BaT prog 139 4 48 1:=⟨_,_,_,O,O,O,O,O,O⟩
instance : EqT prog 139:=⟨by decide +kernel⟩
instance : ZrT prog 139 (.arr 4 1 ((List.replicate 4 0).map D.u64)):=⟨_,_,O,O,by decide,O⟩
instance : ZrT prog 141 (.nilf):=⟨_,_,O,O,by decide,O⟩
instance : ZrT prog 142 (.nilf):=⟨_,_,O,O,by decide,O⟩
instance : ZrT prog 143 (.nilf):=⟨_,_,O,O,by decide,O⟩
instance : ZrT prog 144 (.nilf):=⟨_,_,O,O,by decide,O⟩
instance : ZrT prog 145 (.nilf):=⟨_,_,O,O,by decide,O⟩
instance : ZrT prog 146 (.nilf):=⟨_,_,O,O,by decide,O⟩
instance : ZrT prog 147 (.nilf):=⟨_,_,O,O,by decide,O⟩
instance : ZrT prog 148 (.nilf):=⟨_,_,O,O,by decide,O⟩
instance : ZrT prog 149 (.agg [.u64 0,.arr 32 1 ((List.replicate 32 0).map D.u8)]):=⟨_,_,O,O,by decide,O⟩
instance : BsT prog 149 ([.u64 0,.arr 32 1 ((List.replicate 32 0).map D.u8)]):=⟨_,_,_,O,O,O,O,by decide⟩
instance : ZrT prog 150 (.agg [.u64 0,.arr 32 1 ((List.replicate 32 0).map D.u8)]):=⟨_,_,O,O,by decide,O⟩
instance : BsT prog 150 ([.u64 0,.arr 32 1 ((List.replicate 32 0).map D.u8)]):=⟨_,_,_,O,O,O,O,by decide⟩
instance : EqT prog 152:=⟨by decide +kernel⟩
instance : ZrT prog 152 (.arr 8 1 ((List.replicate 8 0).map D.u32)):=⟨_,_,O,O,by decide,O⟩
instance : LdT prog 153 8 true:=⟨_,_,O,O,O,O⟩
instance : ArT prog 153 8 32:=⟨O⟩
instance : BaT prog 153 8 32 1:=⟨_,_,_,O,O,O,O,O,O⟩
instance : EqT prog 153:=⟨by decide +kernel⟩
instance : ZrT prog 153 (.arr 8 1 ((List.replicate 8 0).map D.u32)):=⟨_,_,O,O,by decide,O⟩
instance : ArT prog 154 64 5:=⟨O⟩
instance : EqT prog 154:=⟨by decide +kernel⟩
instance : ZrT prog 154 (.arr 64 1 ((List.replicate 64 0).map D.u8)):=⟨_,_,O,O,by decide,O⟩
instance : ZrT prog 155 (.agg [.bool false,.arr 8 1 ((List.replicate 8 0).map D.u32),.arr 64 1 ((List.replicate 64 0).map D.u8),.u64 0]):=⟨_,_,O,O,by decide,O⟩
instance : BsT prog 155 ([.bool false,.arr 8 1 ((List.replicate 8 0).map D.u32),.arr 64 1 ((List.replicate 64 0).map D.u8),.u64 0]):=⟨_,_,_,O,O,O,O,by decide⟩
instance : LdT prog 156 74 true:=⟨_,_,O,O,O,O⟩
instance : FdT prog 156 0 0:=⟨_,_,_,O,O,O,O,by decide⟩
instance : FdT prog 156 1 1:=⟨_,_,_,O,O,O,O,by decide⟩
instance : FdT prog 156 2 9:=⟨_,_,_,O,O,O,O,by decide⟩
instance : FdT prog 156 3 73:=⟨_,_,_,O,O,O,O,by decide⟩
instance : ZrT prog 156 (.agg [.bool false,.arr 8 1 ((List.replicate 8 0).map D.u32),.arr 64 1 ((List.replicate 64 0).map D.u8),.u64 0]):=⟨_,_,O,O,by decide,O⟩
instance : BsT prog 156 ([.bool false,.arr 8 1 ((List.replicate 8 0).map D.u32),.arr 64 1 ((List.replicate 64 0).map D.u8),.u64 0]):=⟨_,_,_,O,O,O,O,by decide⟩
instance : ZrT prog 157 (.nilf):=⟨_,_,O,O,by decide,O⟩
instance : ZrT prog 158 (.nilf):=⟨_,_,O,O,by decide,O⟩
instance : ZrT prog 159 (.nilf):=⟨_,_,O,O,by decide,O⟩
instance : ZrT prog 160 (.nilf):=⟨_,_,O,O,by decide,O⟩
instance : ZrT prog 161 (.nilf):=⟨_,_,O,O,by decide,O⟩
instance : ZrT prog 162 (.nilf):=⟨_,_,O,O,by decide,O⟩
instance : ZrT prog 163 (.nilf):=⟨_,_,O,O,by decide,O⟩
instance : ZrT prog 164 (.nilf):=⟨_,_,O,O,by decide,O⟩
instance : ZrT prog 165 (.nilf):=⟨_,_,O,O,by decide,O⟩
instance : ZrT prog 166 (.nilf):=⟨_,_,O,O,by decide,O⟩
instance : ZrT prog 167 (.nilf):=⟨_,_,O,O,by decide,O⟩
instance : ZrT prog 168 (.nilf):=⟨_,_,O,O,by decide,O⟩
instance : ZrT prog 169 (.nilf):=⟨_,_,O,O,by decide,O⟩
instance : ZrT prog 170 (.nilf):=⟨_,_,O,O,by decide,O⟩
instance : ZrT prog 171 (.nilf):=⟨_,_,O,O,by decide,O⟩
instance : ZrT prog 172 (.nilf):=⟨_,_,O,O,by decide,O⟩
instance : ZrT prog 173 (.nilf):=⟨_,_,O,O,by decide,O⟩
instance : ZrT prog 174 (.nilf):=⟨_,_,O,O,by decide,O⟩
instance : ZrT prog 176 (.nilp):=⟨_,_,O,O,by decide,O⟩
instance : ZrT prog 177 (.agg [.nils]):=⟨_,_,O,O,by decide,O⟩
instance : BsT prog 177 ([.nils]):=⟨_,_,_,O,O,O,O,by decide⟩
instance : ZrT prog 178 (.agg [.nils]):=⟨_,_,O,O,by decide,O⟩
instance : BsT prog 178 ([.nils]):=⟨_,_,_,O,O,O,O,by decide⟩
instance : ZrT prog 179 (.nilf):=⟨_,_,O,O,by decide,O⟩
instance : ZrT prog 180 (.nilf):=⟨_,_,O,O,by decide,O⟩
instance : ZrT prog 181 (.nilf):=⟨_,_,O,O,by decide,O⟩
instance : ZrT prog 182 (.nilf):=⟨_,_,O,O,by decide,O⟩
instance : ZrT prog 183 (.nilp):=⟨_,_,O,O,by decide,O⟩
instance : ArT prog 184 8 5:=⟨O⟩
instance : EqT prog 184:=⟨by decide +kernel⟩
instance : ZrT prog 184 (.arr 8 1 ((List.replicate 8 0).map D.u8)):=⟨_,_,O,O,by decide,O⟩
instance : ZrT prog 185 (.nilf):=⟨_,_,O,O,by decide,O⟩
instance : ZrT prog 186 (.nilf):=⟨_,_,O,O,by decide,O⟩
instance : ZrT prog 187 (.agg [.int 0,.arr 32 1 ((List.replicate 32 0).map D.u8)]):=⟨_,_,O,O,by decide,O⟩
instance : BsT prog 187 ([.int 0,.arr 32 1 ((List.replicate 32 0).map D.u8)]):=⟨_,_,_,O,O,O,O,by decide⟩
instance : ZrT prog 188 (.agg [.int 0,.arr 32 1 ((List.replicate 32 0).map D.u8)]):=⟨_,_,O,O,by decide,O⟩
instance : BsT prog 188 ([.int 0,.arr 32 1 ((List.replicate 32 0).map D.u8)]):=⟨_,_,_,O,O,O,O,by decide⟩
instance : ZrT prog 190 (.nilf):=⟨_,_,O,O,by decide,O⟩
instance : ZrT prog 192 (.nilf):=⟨_,_,O,O,by decide,O⟩
instance : ZrT prog 193 (.nilf):=⟨_,_,O,O,by decide,O⟩
instance : ZrT prog 194 (.nilf):=⟨_,_,O,O,by decide,O⟩
instance : SlT prog 195 3:=⟨O⟩
instance : ZrT prog 195 (.nils):=⟨_,_,O,O,by decide,O⟩
instance : ZrT prog 196 (.nilf):=⟨_,_,O,O,by decide,O⟩
instance : ZrT prog 197 (.nilf):=⟨_,_,O,O,by decide,O⟩
instance : ZrT prog 198 (.nilp):=⟨_,_,O,O,by decide,O⟩
instance : ZrT prog 199 (.agg [.int 0,.nilp]):=⟨_,_,O,O,by decide,O⟩
instance : BsT prog 199 ([.int 0,.nilp]):=⟨_,_,_,O,O,O,O,by decide⟩
instance : ZrT prog 200 (.agg [.int 0,.nilp]):=⟨_,_,O,O,by decide,O⟩
instance : BsT prog 200 ([.int 0,.nilp]):=⟨_,_,_,O,O,O,O,by decide⟩
instance : BgT prog 201 [.agg [.int 0,.nilp],.agg [.int 0,.nilp],.agg [.int 0,.nilp],.agg [.int 0,.nilp]]:=⟨_,_,_,_,_,_,O,O,O,O,O,O,O⟩
instance : ZrT prog 201 (.arr 4 2 (List.replicate 4 (.agg [.int 0,.nilp]))):=⟨_,_,O,O,by decide,O⟩
instance : ZrT prog 202 (.nilf):=⟨_,_,O,O,by decide,O⟩
instance : ZrT prog 203 (.nilp):=⟨_,_,O,O,by decide,O⟩
instance : ZrT prog 204 (.nilf):=⟨_,_,O,O,by decide,O⟩
instance : ZrT prog 205 (.nilf):=⟨_,_,O,O,by decide,O⟩
instance : ZrT prog 206 (.nilf):=⟨_,_,O,O,by decide,O⟩
instance : LdT prog 207 64 true:=⟨_,_,O,O,O,O⟩
instance : ArT prog 207 64 32:=⟨O⟩
instance : EqT prog 207:=⟨by decide +kernel⟩
instance : ZrT prog 207 (.arr 64 1 ((List.replicate 64 0).map D.u32)):=⟨_,_,O,O,by decide,O⟩
instance : ZrT prog 208 (.nilf):=⟨_,_,O,O,by decide,O⟩
instance : ZrT prog 209 (.nilf):=⟨_,_,O,O,by decide,O⟩
instance : ZrT prog 210 (.nilf):=⟨_,_,O,O,by decide,O⟩
instance : ZrT prog 211 (.agg [.nilp,.nilp,.nilp,.str []]):=⟨_,_,O,O,by decide,O⟩
instance : BsT prog 211 ([.nilp,.nilp,.nilp,.str []]):=⟨_,_,_,O,O,O,O,by decide⟩
instance : ZrT prog 212 (.agg [.nilp,.nilp,.nilp,.str []]):=⟨_,_,O,O,by decide,O⟩
instance : BsT prog 212 ([.nilp,.nilp,.nilp,.str []]):=⟨_,_,_,O,O,O,O,by decide⟩
instance : ZrT prog 216 (.nilf):=⟨_,_,O,O,by decide,O⟩
instance : IkT prog 217 .u8:=⟨O⟩
instance : ZrT prog 217 (.u8 0):=⟨_,_,O,O,by decide,O⟩
instance : IkT prog 218 .u8:=⟨O⟩
instance : ZrT prog 218 (.u8 0):=⟨_,_,O,O,by decide,O⟩
instance : ZrT prog 219 (.nilf):=⟨_,_,O,O,by decide,O⟩
instance : ZrT prog 220 (.nilp):=⟨_,_,O,O,by decide,O⟩
instance : IkT prog 221 .i32:=⟨O⟩
instance : ZrT prog 221 (.ik .i32 0):=⟨_,_,O,O,by decide,O⟩
instance : IkT prog 222 .i32:=⟨O⟩
instance : ZrT prog 222 (.ik .i32 0):=⟨_,_,O,O,by decide,O⟩
instance : ZrT prog 223 (.agg [.u64 0,.u64 0,.u32 0,.u8 0,.u8 0,.u8 0,.u8 0,.nilf,.nilp,.ik .i32 0,.ik .i32 0]):=⟨_,_,O,O,by decide,O⟩
instance : BsT prog 223 ([.u64 0,.u64 0,.u32 0,.u8 0,.u8 0,.u8 0,.u8 0,.nilf,.nilp,.ik .i32 0,.ik .i32 0]):=⟨_,_,_,O,O,O,O,by decide⟩
instance : ZrT prog 224 (.agg [.u64 0,.u64 0,.u32 0,.u8 0,.u8 0,.u8 0,.u8 0,.nilf,.nilp,.ik .i32 0,.ik .i32 0]):=⟨_,_,O,O,by decide,O⟩
instance : BsT prog 224 ([.u64 0,.u64 0,.u32 0,.u8 0,.u8 0,.u8 0,.u8 0,.nilf,.nilp,.ik .i32 0,.ik .i32 0]):=⟨_,_,_,O,O,O,O,by decide⟩
instance : CaT prog 7:=⟨_,Tryd.func7,by decide,by decide⟩
instance : CaT prog 8:=⟨_,Tryd.func8,by decide,by decide⟩
instance : CaT prog 9:=⟨_,Tryd.func9,by decide,by decide⟩
instance : CaT prog 10:=⟨_,Tryd.func10,by decide,by decide⟩
instance : CaT prog 11:=⟨_,Tryd.func11,by decide,by decide⟩
instance : CaT prog 13:=⟨_,Tryd.func13,by decide,by decide⟩
instance : CaT prog 16:=⟨_,Tryd.func16,by decide,by decide⟩
instance : CaT prog 18:=⟨_,Tryd.func18,by decide,by decide⟩
instance : CaT prog 22:=⟨_,Tryd.func22,by decide,by decide⟩
instance : CaT prog 27:=⟨_,Tryd.func27,by decide,by decide⟩
instance : CaT prog 28:=⟨_,Tryd.func28,by decide,by decide⟩
instance : CaT prog 29:=⟨_,Tryd.func29,by decide,by decide⟩
instance : CaT prog 30:=⟨_,Tryd.func30,by decide,by decide⟩
instance : CaT prog 31:=⟨_,Tryd.func31,by decide,by decide⟩
instance : CaT prog 32:=⟨_,Tryd.func32,by decide,by decide⟩
instance : CaT prog 33:=⟨_,Tryd.func33,by decide,by decide⟩
instance : CaT prog 35:=⟨_,Tryd.func35,by decide,by decide⟩
instance : CaT prog 36:=⟨_,Tryd.func36,by decide,by decide⟩
instance : CaT prog 38:=⟨_,Tryd.func38,by decide,by decide⟩
instance : CaT prog 39:=⟨_,Tryd.func39,by decide,by decide⟩
instance : CaT prog 40:=⟨_,Tryd.func40,by decide,by decide⟩
instance : CaT prog 41:=⟨_,Tryd.func41,by decide,by decide⟩
instance : CaT prog 42:=⟨_,Tryd.func42,by decide,by decide⟩
instance : CaT prog 43:=⟨_,Tryd.func43,by decide,by decide⟩
instance : CaT prog 49:=⟨_,Tryd.func49,by decide,by decide⟩
instance : CaT prog 50:=⟨_,Tryd.func50,by decide,by decide⟩
instance : CaT prog 51:=⟨_,Tryd.func51,by decide,by decide⟩
instance : CaT prog 52:=⟨_,Tryd.func52,by decide,by decide⟩
instance : CaT prog 53:=⟨_,Tryd.func53,by decide,by decide⟩
instance : CaT prog 54:=⟨_,Tryd.func54,by decide,by decide⟩
instance : CaT prog 55:=⟨_,Tryd.func55,by decide,by decide⟩
instance : CaT prog 56:=⟨_,Tryd.func56,by decide,by decide⟩
instance : CaT prog 57:=⟨_,Tryd.func57,by decide,by decide⟩
instance : CaT prog 58:=⟨_,Tryd.func58,by decide,by decide⟩
instance : CaT prog 59:=⟨_,Tryd.func59,by decide,by decide⟩
instance : CaT prog 60:=⟨_,Tryd.func60,by decide,by decide⟩
instance : CaT prog 61:=⟨_,Tryd.func61,by decide,by decide⟩
instance : CaT prog 62:=⟨_,Tryd.func62,by decide,by decide⟩
instance : CaT prog 72:=⟨_,Tryd.func72,by decide,by decide⟩
instance : CaT prog 73:=⟨_,Tryd.func73,by decide,by decide⟩
instance : CaT prog 74:=⟨_,Tryd.func74,by decide,by decide⟩
instance : CaT prog 75:=⟨_,Tryd.func75,by decide,by decide⟩
instance : CaT prog 76:=⟨_,Tryd.func76,by decide,by decide⟩
instance : CaT prog 77:=⟨_,Tryd.func77,by decide,by decide⟩
instance : CaT prog 78:=⟨_,Tryd.func78,by decide,by decide⟩
instance : CaT prog 79:=⟨_,Tryd.func79,by decide,by decide⟩
instance : CaT prog 80:=⟨_,Tryd.func80,by decide,by decide⟩
instance : CaT prog 81:=⟨_,Tryd.func81,by decide,by decide⟩
instance : CaT prog 82:=⟨_,Tryd.func82,by decide,by decide⟩
instance : CaT prog 83:=⟨_,Tryd.func83,by decide,by decide⟩
instance : CaT prog 84:=⟨_,Tryd.func84,by decide,by decide⟩
instance : CaT prog 85:=⟨_,Tryd.func85,by decide,by decide⟩
instance : CaT prog 86:=⟨_,Tryd.func86,by decide,by decide⟩
instance : CaT prog 87:=⟨_,Tryd.func87,by decide,by decide⟩
instance : CaT prog 88:=⟨_,Tryd.func88,by decide,by decide⟩
instance : CaT prog 89:=⟨_,Tryd.func89,by decide,by decide⟩
instance : CaT prog 95:=⟨_,Tryd.func95,by decide,by decide⟩
instance : CaT prog 96:=⟨_,Tryd.func96,by decide,by decide⟩
instance : CaT prog 97:=⟨_,Tryd.func97,by decide,by decide⟩
instance : CaT prog 98:=⟨_,Tryd.func98,by decide,by decide⟩
instance : CaT prog 99:=⟨_,Tryd.func99,by decide,by decide⟩
instance : CaT prog 100:=⟨_,Tryd.func100,by decide,by decide⟩
instance : CaT prog 101:=⟨_,Tryd.func101,by decide,by decide⟩
instance : CaT prog 102:=⟨_,Tryd.func102,by decide,by decide⟩
instance : CaT prog 103:=⟨_,Tryd.func103,by decide,by decide⟩
instance : CaT prog 104:=⟨_,Tryd.func104,by decide,by decide⟩
instance : CaT prog 105:=⟨_,Tryd.func105,by decide,by decide⟩
instance : CaT prog 106:=⟨_,Tryd.func106,by decide,by decide⟩
instance : CaT prog 113:=⟨_,Tryd.func113,by decide,by decide⟩
instance : CaT prog 114:=⟨_,Tryd.func114,by decide,by decide⟩
instance : CaT prog 115:=⟨_,Tryd.func115,by decide,by decide⟩
instance : CaT prog 116:=⟨_,Tryd.func116,by decide,by decide⟩
def gl : List (Nat × D):=[(0,.arr 64 1 (kTab.map D.u32))]
end Go.Sx

namespace Go.Sx
open Go.Proofs
theorem hP : Tryd.prog.follows .mixedOrders = true:=Tryd.checked.mixed
theorem rot_ok (x : UInt32) (k : Int) : Fn Tryd.prog gl 116 [.u32 x,.int (k : Int)] (.u32 (rotl x k)):=by
 refine Fn.of (n:=17) Tryd.func116 rfl rfl rfl (nU rfl) fun C hC hD=>?_
 refine W.seq ?_
 refine W.l0 1 [.y 4 _] [] [] [(0,_),(1,_)] [] 17 ⟨aU fun _ _ H _=>R.asg (show ev _ _ (.const (.int .u32 0)) = some (.u32 0) from O) O H,Zt⟩ O O O O (tU O ?_)
 refine W.seq ?_
 refine W.l0 4 [.y 6 _,.y 7 _,.y 8 _,.y 5 _] [] [] [(0,_),(5,_)] [] 17 ⟨mU 1 O O,aU fun _ _ H K=>R.conv (eU K 6 O) O H,aU fun _ _ H K=>R.bin (eU K 7 O) (show ev _ _ (.const (.int .u64 31)) = some (.u64 31) from O) O Zt H,aU fun _ _ H K=>R.asg (eU K 8 O) O H,Zt⟩ O O O O (tU O ?_)
 refine W.seq ?_
 refine W.l0 9 [.y 9 _,.y 10 _,.y 11 _,.y 12 _,.y 13 _,.y 14 _,.y 15 _,.y 16 _,.y 4 _] [] [] [(4,_)] [] 17 ⟨mU 0 O O,mU 5 O O,aU fun _ _ H K=>R.bin (eU K 9 O) (eU K 10 O) O bV H,mU 0 O O,mU 5 O O,aU fun _ _ H K=>R.bin (show ev _ _ (.const (.int .u64 32)) = some (.u64 32) from O) (eU K 13 O) O Zt H,aU fun _ _ H K=>R.bin (eU K 12 O) (eU K 14 O) O bV H,aU fun _ _ H K=>R.bin (eU K 11 O) (eU K 15 O) O Zt H,aU fun _ _ H K=>R.asg (eU K 16 O) O H,Zt⟩ O O O O (tU O ?_)
 refine W.ret ?_
 exact Ends.one' (.inr O) O (O) O O Zt
theorem right_ok (x : UInt32) (k : Int) : Fn Tryd.prog gl 114 [.u32 x,.int (k : Int)] (.u32 (right x k)):=by
 refine Fn.of (n:=9) Tryd.func114 rfl rfl rfl (nU rfl) fun C hC hD=>?_
 refine W.seq ?_
 refine W.l0 1 [.y 4 _] [] [] [(0,_),(1,_)] [] 9 ⟨aU fun _ _ H _=>R.asg (show ev _ _ (.const (.int .u32 0)) = some (.u32 0) from O) O H,Zt⟩ O O O O (tU O ?_)
 refine W.seq ?_
 refine W.l0 5 [.y 5 _,.y 6 _,.y 7 _,.y 8 _,.y 4 _] [] [] [(4,_)] [] 9 ⟨mU 0 O O,mU 1 O O,aU fun _ _ H K=>R.un (eU K 6 O) O H,aU fun _ _ H K=>R.callG hC (rot_ok _ _) (Bc (Bp (eU K 5 O) O O) (Bc (Bp (eU K 7 O) O O) Bn)) (FrsR.one (.u32 _)) H,aU fun _ _ H K=>R.asg (eU K 8 O) O H,Zt⟩ O O O O (tU O ?_)
 refine W.ret ?_
 exact Ends.one' (.inr O) O (O) O O Zt
theorem start_ok : Fn Tryd.prog gl 95 [] (.arr 8 1 (iv.map D.u32)):=by
 refine Fn.of (n:=2) Tryd.func95 rfl rfl rfl (nU rfl) fun C hC hD=>?_
 refine W.seq ?_
 refine W.l0 1 [] [] [] [] [] 2 Zt O O O O (⟨O,_,R.alloc O (nU O),tV [(0,_)] [(0,.var _)] 2 O O O ?_⟩)
 refine W.seq ?_
 refine W.l0 2 [.y 1 _] [] [] [(0,_),(1,_)] [(0,.var _)] 2 ⟨aU fun _ _ H _=>R.bldAE (z:=1) (.cons (show ev _ _ (.const (.int .u32 1779033703)) = some (.u32 1779033703) from O) (.cons (show ev _ _ (.const (.int .u32 3144134277)) = some (.u32 3144134277) from O) (.cons (show ev _ _ (.const (.int .u32 1013904242)) = some (.u32 1013904242) from O) (.cons (show ev _ _ (.const (.int .u32 2773480762)) = some (.u32 2773480762) from O) (.cons (show ev _ _ (.const (.int .u32 1359893119)) = some (.u32 1359893119) from O) (.cons (show ev _ _ (.const (.int .u32 2600822924)) = some (.u32 2600822924) from O) (.cons (show ev _ _ (.const (.int .u32 528734635)) = some (.u32 528734635) from O) (.cons (show ev _ _ (.const (.int .u32 1541459225)) = some (.u32 1541459225) from O) .nil)))))))) ⟨⟨O,O,O⟩,⟨O,O,O⟩,⟨O,O,O⟩,⟨O,O,O⟩,⟨O,O,O⟩,⟨O,O,O⟩,⟨O,O,O⟩,⟨O,O,O⟩,Zt⟩ O H,Zt⟩ O O O O (⟨O,_,R.stZ (gU 0 O) (xU 0 O) O (gV 1 O) (by rfl) (by rfl) (by rfl) (by rfl) O,tV [(0,_)] [(0,.var _)] 2 O O O ?_⟩)
 refine W.ret ?_
 exact Ends.one' (.inr O) O (O) O O (show LdT _ 153 8 true from inferInstance)
theorem begin_ok : Fn Tryd.prog gl 72 [] (stD ShaS.start):=by
 refine Fn.of (n:=3) Tryd.func72 rfl rfl rfl (nU rfl) fun C hC hD=>?_
 refine W.seq ?_
 refine W.l0 1 [] [] [] [] [] 3 Zt O O O O (⟨O,_,R.alloc O (nU O),tV [(0,_)] [(0,.var _)] 3 O O O ?_⟩)
 refine W.seq ?_
 refine W.l0 3 [.y 1 _,.y 2 _] [] [] [(0,_),(2,_)] [(0,.var _)] 3 ⟨aU fun _ _ H _=>R.callG hC (start_ok) Bn (FrsR.one (.arr _ _ _ (frs_map fun _=>.u32 _))) H,aU fun _ _ H K=>R.bldSE (l:=[.bool false,.arr 8 1 ((List.replicate 8 0).map D.u32),.arr 64 1 ((List.replicate 64 0).map D.u8),.u64 0]) (l':=[_,_,_,_]) (.cons (kB true O) (.cons (eU K 1 O) (.nil O))) ⟨⟨_,(kB true O),O,O,O⟩,⟨⟨_,(eU K 1 O),O,O,O⟩,Zt⟩⟩ H,Zt⟩ O O O O (⟨O,_,R.stZ (gU 0 O) (xU 0 O) O (gV 2 O) (by rfl) (by rfl) (by rfl) (by rfl) O,tV [(0,_)] [(0,.var _)] 3 O O O ?_⟩)
 refine W.ret ?_
 exact Ends.one' (.inr O) O (O) O O (show LdT _ 156 74 true from inferInstance)
theorem sched_ok (p : List UInt8) (hp : p.length = 64) : Fn Tryd.prog gl 113 [.rp (.arr 64 1 (p.map D.u8))] (.arr 64 1 ((sched p 64).map D.u32)):=by
 refine Fn.of (n:=75) Tryd.func113 rfl rfl rfl (nU rfl) fun C hC hD=>?_
 refine W.seq ?_
 refine W.l0 1 [] [] [] [(0,_)] [] 75 Zt O O O O (⟨O,_,R.alloc O (nU O),tV [(0,_),(2,_)] [(2,.var _)] 75 O O O ?_⟩)
 refine W.seq (W.seq ?_)
 refine W.l0 1 [.y 8 _] [] [] [(0,_),(2,_),(8,_)] [(2,.var _)] 75 ⟨aU fun _ _ H _=>R.mov (kI 0 O) O H,Zt⟩ O O O O (tU O ?_)
 refine W.block ?_
 refine W.loop (α:={q__ : Nat // q__ <= 64}) (fun q__=>⟨75,[(0,.rp (.arr 64 1 (p.map D.u8))),(2,.ptr 2 0 []),(8,.int ((q__.1 : Nat) : Int))],[(2,.var (.arr 64 1 ((sched p q__.1).map D.u32)))]⟩) (fun q__=>64 - q__.1) ⟨(0),bU⟩ O ?_
 rintro ⟨t,htl⟩
 show W _ _ _ _ ⟨75,[(0,.rp (.arr 64 1 (p.map D.u8))),(2,.ptr 2 0 []),(8,.int ((t : Nat) : Int))],[(2,.var (.arr 64 1 ((sched p t).map D.u32)))]⟩
 have hsl:=sched_len p t
 refine W.seq ?_
 refine W.l0 1 [.y 9 _] [] [] [(0,_),(2,_),(8,_),(9,_)] [(2,.var _)] 75 ⟨aU fun _ _ H K=>R.lssN (t) (64) (eU K 8 O) (kI 64 O) H,Zt⟩ O O O O (tU O ?_)
 refine W.seq ?_
 refine W.condD O (fun hc9=>?_) (fun hc9=>?_)
 · refine W.skip (W.seq (W.block (W.seq ?_)))
   refine W.l0 2 [.y 10 _,.y 3 _] [] [] [(0,_),(2,_),(3,_),(8,_)] [(2,.var _)] 75 ⟨mU 8 O O,aU fun _ _ H K=>R.asg (eU K 10 O) O H,Zt⟩ O O O O (tU O ?_)
   refine W.seq (W.seq ?_)
   refine W.l0 2 [.y 11 _,.y 12 _] [] [] [(0,_),(2,_),(3,_),(8,_),(12,_)] [(2,.var _)] 75 ⟨mU 3 O O,aU fun _ _ H K=>R.lssN (t) (16) (eU K 11 O) (kI 16 O) H,Zt⟩ O O O O (tU O ?_)
   refine W.condD O (fun hc12=>?_) (fun hc12=>?_)
   · refine W.seq (W.seq ?_)
     refine W.l0 10 [.y 13 _,.y 14 _,.y 15 _,.y 16 _,.y 17 _,.y 18 _,.y 19 _,.y 20 _,.y 21 _,.y 22 _] [] [] [(0,_),(2,_),(3,_),(8,_),(20,_),(21,_),(22,_)] [(2,.var _)] 75 ⟨mU 0 O O,aU fun _ _ H K=>R.nilc (eU K 13 O) H,mU 3 O O,aU fun _ _ H K=>R.mulN (4) (t) (kI 4 O) (eU K 15 O) bU H,mU 3 O O,aU fun _ _ H K=>R.mulN (4) (t) (kI 4 O) (eU K 17 O) bU H,aU fun _ _ H K=>R.addN ((4 * t)) (4) (eU K 18 O) (kI 4 O) bU H,aU fun _ _ H K=>R.slRN ((4 * t)) (((4 * t) + 4)) (4) (eU K 14 O) (evoI (eU K 16 O)) (evoI (eU K 19 O)) O O bU bU bU (part_map) H,aU fun _ _ H K=>R.lenE (n:=4) (SC.sl (K 20 _ O)) (by simp; omega) H,aU fun _ _ H _=>R.mov (kI 0 O) O H,Zt⟩ O O O O (tU O ?_)
     refine W.block ?_
     refine W.loop (α:={q__ : Nat // q__ <= 4}) (fun q__=>⟨75,[(0,.rp (.arr 64 1 (p.map D.u8))),(2,.ptr 2 0 []),(3,.int ((t : Nat) : Int)),(8,.int ((t : Nat) : Int)),(20,.sl none 1 (((p.drop (4 * t)).take 4).map D.u8)),(21,.int ((4 : Nat) : Int)),(22,.int ((q__.1 : Nat) : Int))],[(2,.var (.arr 64 1 ((inW p t (sched p t) q__.1).map D.u32)))]⟩) (fun q__=>4 - q__.1) ⟨(0),bU⟩ O ?_
     rintro ⟨i,hil⟩
     show W _ _ _ _ ⟨75,[(0,.rp (.arr 64 1 (p.map D.u8))),(2,.ptr 2 0 []),(3,.int ((t : Nat) : Int)),(8,.int ((t : Nat) : Int)),(20,.sl none 1 (((p.drop (4 * t)).take 4).map D.u8)),(21,.int ((4 : Nat) : Int)),(22,.int ((i : Nat) : Int))],[(2,.var (.arr 64 1 ((inW p t (sched p t) i).map D.u32)))]⟩
     have hil2:=inW_len p t (sched p t) i
     refine W.seq ?_
     refine W.l0 1 [.y 23 _] [] [] [(0,_),(2,_),(3,_),(8,_),(20,_),(21,_),(22,_),(23,_)] [(2,.var _)] 75 ⟨aU fun _ _ H K=>R.lssN (i) (4) (eU K 22 O) (eU K 21 O) H,Zt⟩ O O O O (tU O ?_)
     refine W.seq ?_
     refine W.condD O (fun hc23=>?_) (fun hc23=>?_)
     · refine W.skip (W.seq (W.block (W.seq ?_)))
       refine W.l0 3 [.y 24 _,.y 25 _,.y 5 _] [] [] [(0,_),(2,_),(3,_),(5,_),(8,_),(20,_),(21,_),(22,_)] [(2,.var _)] 75 ⟨aU fun _ _ H K=>R.idxN (i) (SC.sl (K 20 _ O)) (evoI (eU K 22 O)) O bU H dU,aU fun _ _ H K=>R.ldE (K 24 _ O) (SC.sl (K 20 _ O)) (part_get! (by omega) (by omega)) O O O O H,aU fun _ _ H K=>R.asg (eU K 25 O) O H,Zt⟩ O O O O (tU O ?_)
       refine W.l0 10 [.y 26 _,.y 27 _,.y 28 _,.y 29 _,.y 30 _,.y 31 _,.y 32 _,.y 33 _,.y 34 _] [] [] [(0,_),(2,_),(3,_),(8,_),(20,_),(21,_),(22,_),(33,_),(34,_)] [(2,.var _)] 75 ⟨mU 3 O O,mU 3 O O,aU fun _ _ H K=>R.idxP (t) (K 2 _ O) (evoI (eU K 27 O)) O bU H,aU fun _ B H K=>R.ldP (K 28 _ O) (B 2 _ O) (loc_arr (map_get! (l:=(inW p t (sched p t) i)) bU) loc_nil bU) O O O H,aU fun _ _ H K=>R.bin (eU K 29 O) (show ev _ _ (.const (.int .u64 8)) = some (.u64 8) from O) O bV H,mU 5 O O,aU fun _ _ H K=>R.conv (eU K 31 O) O H,aU fun _ _ H K=>R.bin (eU K 30 O) (eU K 32 O) O Zt H,aU fun _ _ H K=>R.idxP (t) (K 2 _ O) (evoI (eU K 26 O)) O bU H,Zt⟩ O O O O (⟨O,_,R.stZ (gU 34 O) (xU 2 O) (loc_arr (map_get! (l:=(inW p t (sched p t) i)) bU) loc_nil bU) (gV 33 O) (by rfl) (by rfl) (by rfl) (by rfl) (upd_arr (map_get! (l:=(inW p t (sched p t) i)) bU) upd_nil set_map),tV [(0,_),(2,_),(3,_),(8,_),(20,_),(21,_),(22,_)] [(2,.var _)] 75 O O O ?_⟩)
       refine W.l0 2 [.y 35 _,.y 22 _] [] [] [(0,_),(2,_),(3,_),(8,_),(20,_),(21,_),(22,_)] [(2,.var _)] 75 ⟨aU fun _ _ H K=>R.addN (i) (1) (eU K 22 O) (kI 1 O) bU H,mU 35 O O,Zt⟩ O O O O (tU O ?_)
       exact ⟨⟨(i + 1),bU⟩,rfl,(by simp only []; omega)⟩
     · obtain rfl : i = 4:=by omega
       refine W.exit (W.exit ?_)
       refine W.l0 2 [.y 73 _,.y 8 _] [] [] [(0,_),(2,_),(8,_)] [(2,.var _)] 75 ⟨aU fun _ _ H K=>R.addN (t) (1) (eU K 8 O) (kI 1 O) bU H,mU 73 O O,Zt⟩ O O O O (tU O ?_)
       exact ⟨⟨(t + 1),bU⟩,(by simp only [sched]; first | rw [if_pos hc12] | (rw [if_neg hc12]; rfl)),(by simp only []; omega)⟩
   · refine W.skip (W.seq ?_)
     refine W.draw (m:=10) (an:=[0,1,3,7,0,16,48,112,15,511]) hP dU O (its:=[.y 36 _,.y 37 _,.y 38 _,.y 39 _,.y 40 _,.y 41 _,.y 42 _,.y 43 _,.y 6 _,.y 7 _]) (ks:=[]) (kk:=[]) (live:=[0,2,3,6,7,8]) (env':=[(0,_),(2,_),(3,_),(6,_),(7,_),(8,_)]) (⟨nU O,O,⟨mU 3 O O,aU fun _ _ H K=>R.subN (t) (15) (eU K 36 O) (kI 15 O) bU bU H,aU fun _ _ H K=>R.idxP ((t - 15)) (K 2 _ O) (evoI (eU K 37 O)) O bU H,aU fun _ B H K=>R.ldP (K 38 _ O) (B 2 _ O) (loc_arr (map_get! (l:=(sched p t)) bU) loc_nil bU) O O O H,mU 3 O O,aU fun _ _ H K=>R.subN (t) (2) (eU K 40 O) (kI 2 O) bU bU H,aU fun _ _ H K=>R.idxP ((t - 2)) (K 2 _ O) (evoI (eU K 41 O)) O bU H,aU fun _ B H K=>R.ldP (K 42 _ O) (B 2 _ O) (loc_arr (map_get! (l:=(sched p t)) bU) loc_nil bU) O O O H,aU fun _ _ H K=>R.asg (eU K 39 O) O H,aU fun _ _ H K=>R.asg (eU K 43 O) O H,Zt⟩,O,O,O⟩) O (bx':=[(2,.var _)]) O (n':=75) O (tV [(0,_),(2,_),(3,_),(6,_),(7,_),(8,_)] [(2,.var _)] 75 O O O ?_)
     refine W.draw (m:=29) (an:=(0 :: 0 :: 2 :: 6 :: 14 :: 0 :: 32 :: 96 :: 224 :: 510 :: 0 :: 1024 :: 0 :: 7168 :: 15360 :: 0 :: 32768 :: 130048 :: 262142 :: 0 :: 539648 :: 0 :: 3685376 :: 7879680 :: 0 :: 16777216 :: 66599936 :: 134217726 :: 268435455 :: 536870911 :: [])) hP dU O (its:=(.y 44 _ :: .y 45 _ :: .y 46 _ :: .y 47 _ :: .y 48 _ :: .y 49 _ :: .y 50 _ :: .y 51 _ :: .y 52 _ :: .y 53 _ :: .y 54 _ :: .y 55 _ :: .y 56 _ :: .y 57 _ :: .y 58 _ :: .y 59 _ :: .y 60 _ :: .y 61 _ :: .y 62 _ :: .y 63 _ :: .y 64 _ :: .y 65 _ :: .y 66 _ :: .y 67 _ :: .y 68 _ :: .y 69 _ :: .y 70 _ :: .y 71 _ :: .y 72 _ :: [])) (ks:=[]) (kk:=[]) (live:=[0,2,8,71,72]) (env':=[(0,_),(2,_),(8,_),(71,_),(72,_)]) (⟨nU O,O,⟨mU 3 O O,mU 3 O O,aU fun _ _ H K=>R.subN (t) (16) (eU K 45 O) (kI 16 O) bU bU H,aU fun _ _ H K=>R.idxP ((t - 16)) (K 2 _ O) (evoI (eU K 46 O)) O bU H,aU fun _ B H K=>R.ldP (K 47 _ O) (B 2 _ O) (loc_arr (map_get! (l:=(sched p t)) bU) loc_nil bU) O O O H,mU 3 O O,aU fun _ _ H K=>R.subN (t) (7) (eU K 49 O) (kI 7 O) bU bU H,aU fun _ _ H K=>R.idxP ((t - 7)) (K 2 _ O) (evoI (eU K 50 O)) O bU H,aU fun _ B H K=>R.ldP (K 51 _ O) (B 2 _ O) (loc_arr (map_get! (l:=(sched p t)) bU) loc_nil bU) O O O H,aU fun _ _ H K=>R.bin (eU K 48 O) (eU K 52 O) O Zt H,mU 6 O O,aU fun _ _ H K=>R.callG hC (right_ok _ _) (Bc (Bp (eU K 54 O) O O) (Bc (Bp (kI 7 O) O O) Bn)) (FrsR.one (.u32 _)) H,mU 6 O O,aU fun _ _ H K=>R.callG hC (right_ok _ _) (Bc (Bp (eU K 56 O) O O) (Bc (Bp (kI 18 O) O O) Bn)) (FrsR.one (.u32 _)) H,aU fun _ _ H K=>R.bin (eU K 55 O) (eU K 57 O) O Zt H,mU 6 O O,aU fun _ _ H K=>R.bin (eU K 59 O) (show ev _ _ (.const (.int .u64 3)) = some (.u64 3) from O) O bV H,aU fun _ _ H K=>R.bin (eU K 58 O) (eU K 60 O) O Zt H,aU fun _ _ H K=>R.bin (eU K 53 O) (eU K 61 O) O Zt H,mU 7 O O,aU fun _ _ H K=>R.callG hC (right_ok _ _) (Bc (Bp (eU K 63 O) O O) (Bc (Bp (kI 17 O) O O) Bn)) (FrsR.one (.u32 _)) H,mU 7 O O,aU fun _ _ H K=>R.callG hC (right_ok _ _) (Bc (Bp (eU K 65 O) O O) (Bc (Bp (kI 19 O) O O) Bn)) (FrsR.one (.u32 _)) H,aU fun _ _ H K=>R.bin (eU K 64 O) (eU K 66 O) O Zt H,mU 7 O O,aU fun _ _ H K=>R.bin (eU K 68 O) (show ev _ _ (.const (.int .u64 10)) = some (.u64 10) from O) O bV H,aU fun _ _ H K=>R.bin (eU K 67 O) (eU K 69 O) O Zt H,aU fun _ _ H K=>R.bin (eU K 62 O) (eU K 70 O) O Zt H,aU fun _ _ H K=>R.idxP (t) (K 2 _ O) (evoI (eU K 44 O)) O bU H,Zt⟩,O,O,O⟩) O (bx':=[(2,.var _)]) O (n':=75) O (⟨O,_,R.stZ (gU 72 O) (xU 2 O) (loc_arr (map_get! (l:=(sched p t)) bU) loc_nil bU) (gV 71 O) (by rfl) (by rfl) (by rfl) (by rfl) (upd_arr (map_get! (l:=(sched p t)) bU) upd_nil set_map),tV [(0,_),(2,_),(8,_)] [(2,.var _)] 75 O O O ?_⟩)
     refine W.l0 2 [.y 73 _,.y 8 _] [] [] [(0,_),(2,_),(8,_)] [(2,.var _)] 75 ⟨aU fun _ _ H K=>R.addN (t) (1) (eU K 8 O) (kI 1 O) bU H,mU 73 O O,Zt⟩ O O O O (tU O ?_)
     exact ⟨⟨(t + 1),bU⟩,(by simp only [sched]; first | rw [if_pos hc12] | (rw [if_neg hc12]; rfl)),(by simp only []; omega)⟩
 · obtain rfl : t = 64:=by omega
   refine W.exit (W.seq ?_)
   refine W.l0 2 [.y 74 _] [] [] [(2,_),(74,_)] [(2,.var _)] 75 ⟨aU (lU 2 O O O O O O O),Zt⟩ O O O O (⟨O,_,R.stZ (gU 2 O) (xU 2 O) O (gV 74 O) (by rfl) (by rfl) (by rfl) (by rfl) O,tV [(2,_)] [(2,.var _)] 75 O O O ?_⟩)
   refine W.ret ?_
   exact Ends.one' (.inr O) O (O) O O (show LdT _ 207 64 true from inferInstance)
theorem with_ok (h : List UInt32) (p : List UInt8) (hh : h.length = 8) (hp : p.length = 64) : Fn Tryd.prog gl 96 [.arr 8 1 (h.map D.u32),.rp (.arr 64 1 (p.map D.u8))] (.arr 8 1 ((comp h p).map D.u32)):=by
 refine Fn.of (n:=119) Tryd.func96 rfl rfl rfl (nU rfl) fun C hC hD=>?_
 refine W.seq ?_
 refine W.l0 2 [] [] [] [(0,_),(1,_)] [] 119 Zt O O O O (⟨O,_,R.box (gV 0 O) O O (nU O),⟨O,_,R.alloc O (nU O),tV [(1,_),(2,_),(4,_)] [(4,.var _),(2,.var _)] 119 O O O ?_⟩⟩)
 refine W.seq ?_
 refine W.draw (m:=24) (an:=[0,1,0,4,0,16,0,64,0,256,0,1024,0,4096,0,16384,3,65551,196671,459007,984063,2035711,4145151,8388607]) hP dU O (its:=[.y 20 _,.y 21 _,.y 22 _,.y 23 _,.y 24 _,.y 25 _,.y 26 _,.y 27 _,.y 28 _,.y 29 _,.y 30 _,.y 31 _,.y 32 _,.y 33 _,.y 34 _,.y 35 _,.y 5 _,.y 6 _,.y 7 _,.y 8 _,.y 9 _,.y 10 _,.y 11 _,.y 12 _]) (ks:=[]) (kk:=[]) (live:=[1,2,4,5,6,7,8,9,10,11,12]) (env':=[(1,_),(2,_),(4,_),(5,_),(6,_),(7,_),(8,_),(9,_),(10,_),(11,_),(12,_)]) (⟨nU O,O,⟨aU fun _ _ H K=>R.idxP (0) (K 2 _ O) (evoI (kI 0 O)) O bU H,aU fun _ B H K=>R.ldP (K 20 _ O) (B 2 _ O) (loc_arr (map_get! (l:=h) bU) loc_nil bU) O O O H,aU fun _ _ H K=>R.idxP (1) (K 2 _ O) (evoI (kI 1 O)) O bU H,aU fun _ B H K=>R.ldP (K 22 _ O) (B 2 _ O) (loc_arr (map_get! (l:=h) bU) loc_nil bU) O O O H,aU fun _ _ H K=>R.idxP (2) (K 2 _ O) (evoI (kI 2 O)) O bU H,aU fun _ B H K=>R.ldP (K 24 _ O) (B 2 _ O) (loc_arr (map_get! (l:=h) bU) loc_nil bU) O O O H,aU fun _ _ H K=>R.idxP (3) (K 2 _ O) (evoI (kI 3 O)) O bU H,aU fun _ B H K=>R.ldP (K 26 _ O) (B 2 _ O) (loc_arr (map_get! (l:=h) bU) loc_nil bU) O O O H,aU fun _ _ H K=>R.idxP (4) (K 2 _ O) (evoI (kI 4 O)) O bU H,aU fun _ B H K=>R.ldP (K 28 _ O) (B 2 _ O) (loc_arr (map_get! (l:=h) bU) loc_nil bU) O O O H,aU fun _ _ H K=>R.idxP (5) (K 2 _ O) (evoI (kI 5 O)) O bU H,aU fun _ B H K=>R.ldP (K 30 _ O) (B 2 _ O) (loc_arr (map_get! (l:=h) bU) loc_nil bU) O O O H,aU fun _ _ H K=>R.idxP (6) (K 2 _ O) (evoI (kI 6 O)) O bU H,aU fun _ B H K=>R.ldP (K 32 _ O) (B 2 _ O) (loc_arr (map_get! (l:=h) bU) loc_nil bU) O O O H,aU fun _ _ H K=>R.idxP (7) (K 2 _ O) (evoI (kI 7 O)) O bU H,aU fun _ B H K=>R.ldP (K 34 _ O) (B 2 _ O) (loc_arr (map_get! (l:=h) bU) loc_nil bU) O O O H,aU fun _ _ H K=>R.asg (eU K 21 O) O H,aU fun _ _ H K=>R.asg (eU K 23 O) O H,aU fun _ _ H K=>R.asg (eU K 25 O) O H,aU fun _ _ H K=>R.asg (eU K 27 O) O H,aU fun _ _ H K=>R.asg (eU K 29 O) O H,aU fun _ _ H K=>R.asg (eU K 31 O) O H,aU fun _ _ H K=>R.asg (eU K 33 O) O H,aU fun _ _ H K=>R.asg (eU K 35 O) O H,Zt⟩,O,O,O⟩) O (bx':=[(4,.var _),(2,.var _)]) O (n':=119) O (tV [(1,_),(2,_),(4,_),(5,_),(6,_),(7,_),(8,_),(9,_),(10,_),(11,_),(12,_)] [(4,.var _),(2,.var _)] 119 O O O ?_)
 refine W.seq ?_
 refine W.l0 4 [.y 36 _,.y 37 _] [] [] [(2,_),(4,_),(5,_),(6,_),(7,_),(8,_),(9,_),(10,_),(11,_),(12,_),(37,_)] [(4,.var _),(2,.var _)] 119 ⟨mU 1 O O,aU fun _ _ H K=>R.callG hC (sched_ok _ hp) (Bc (Bp (eU K 36 O) O O) Bn) (FrsR.one (.arr _ _ _ (frs_map fun _=>.u32 _))) H,Zt⟩ O O O O (⟨O,_,R.alloc O (nU O),⟨O,_,R.stZ (gU 13 O) (xU 13 O) O (gV 37 O) (by rfl) (by rfl) (by rfl) (by rfl) O,tV [(2,_),(4,_),(5,_),(6,_),(7,_),(8,_),(9,_),(10,_),(11,_),(12,_),(13,_)] [(13,.var _),(4,.var _),(2,.var _)] 119 O O O ?_⟩⟩)
 refine W.seq (W.seq ?_)
 refine W.l0 2 [.y 38 _,.y 39 _] [] [] [(2,_),(4,_),(5,_),(6,_),(7,_),(8,_),(9,_),(10,_),(11,_),(12,_),(13,_),(38,_),(39,_)] [(13,.var _),(4,.var _),(2,.var _)] 119 ⟨aU fun _ _ H _=>R.ldR (evg hC O) O O O H,aU fun _ _ H _=>R.mov (kI 0 O) O H,Zt⟩ O O O O (tU O ?_)
 refine W.block ?_
 refine W.loop (α:={q__ : Nat // q__ <= 64}) (fun q__=>⟨119,[(2,.ptr 2 0 []),(4,.ptr 4 0 []),(5,.u32 (rds h (sched p 64) q__.1).a),(6,.u32 (rds h (sched p 64) q__.1).b),(7,.u32 (rds h (sched p 64) q__.1).c),(8,.u32 (rds h (sched p 64) q__.1).d),(9,.u32 (rds h (sched p 64) q__.1).e),(10,.u32 (rds h (sched p 64) q__.1).f),(11,.u32 (rds h (sched p 64) q__.1).g),(12,.u32 (rds h (sched p 64) q__.1).l),(13,.ptr 13 0 []),(38,.arr 64 1 (kTab.map D.u32)),(39,.int ((q__.1 : Nat) : Int))],[(13,.var (.arr 64 1 ((sched p 64).map D.u32))),(4,.var (.arr 8 1 ((List.replicate 8 0).map D.u32))),(2,.var (.arr 8 1 (h.map D.u32)))]⟩) (fun q__=>64 - q__.1) ⟨(0),bU⟩ O ?_
 rintro ⟨t,htl⟩
 show W _ _ _ _ ⟨119,[(2,.ptr 2 0 []),(4,.ptr 4 0 []),(5,.u32 (rds h (sched p 64) t).a),(6,.u32 (rds h (sched p 64) t).b),(7,.u32 (rds h (sched p 64) t).c),(8,.u32 (rds h (sched p 64) t).d),(9,.u32 (rds h (sched p 64) t).e),(10,.u32 (rds h (sched p 64) t).f),(11,.u32 (rds h (sched p 64) t).g),(12,.u32 (rds h (sched p 64) t).l),(13,.ptr 13 0 []),(38,.arr 64 1 (kTab.map D.u32)),(39,.int ((t : Nat) : Int))],[(13,.var (.arr 64 1 ((sched p 64).map D.u32))),(4,.var (.arr 8 1 ((List.replicate 8 0).map D.u32))),(2,.var (.arr 8 1 (h.map D.u32)))]⟩
 have hsl:=sched_len p 64
 have hkl : kTab.length = 64:=rfl
 refine W.seq ?_
 refine W.l0 1 [.y 40 _] [] [] [(2,_),(4,_),(5,_),(6,_),(7,_),(8,_),(9,_),(10,_),(11,_),(12,_),(13,_),(38,_),(39,_),(40,_)] [(13,.var _),(4,.var _),(2,.var _)] 119 ⟨aU fun _ _ H K=>R.lssN (t) (64) (eU K 39 O) (kI 64 O) H,Zt⟩ O O O O (tU O ?_)
 refine W.seq ?_
 refine W.condD O (fun hc40=>?_) (fun hc40=>?_)
 · refine W.skip (W.seq (W.block (W.seq ?_)))
   refine W.l0 4 [.y 41 _,.y 42 _,.y 14 _,.y 15 _] [] [] [(2,_),(4,_),(5,_),(6,_),(7,_),(8,_),(9,_),(10,_),(11,_),(12,_),(13,_),(14,_),(15,_),(38,_),(39,_)] [(13,.var _),(4,.var _),(2,.var _)] 119 ⟨mU 39 O O,aU fun _ _ H K=>R.ixA (t) (eU K 38 O) (evoI (eU K 39 O)) O (map_get! (l:=kTab) bU) O O O H,aU fun _ _ H K=>R.asg (eU K 41 O) O H,aU fun _ _ H K=>R.asg (eU K 42 O) O H,Zt⟩ O O O O (tU O ?_)
   refine W.seq ?_
   refine W.draw (m:=25) (an:=(0 :: 0 :: 2 :: 0 :: 14 :: 30 :: 0 :: 94 :: 254 :: 511 :: 0 :: 0 :: 0 :: 0 :: 12288 :: 30720 :: 64512 :: 131071 :: 0 :: 524287 :: 0 :: 1048576 :: 3145728 :: 8388607 :: 16777215 :: [])) hP dU O (its:=(.y 43 _ :: .y 44 _ :: .y 45 _ :: .y 46 _ :: .y 47 _ :: .y 48 _ :: .y 49 _ :: .y 50 _ :: .y 51 _ :: .y 52 _ :: .y 53 _ :: .y 54 _ :: .y 55 _ :: .y 56 _ :: .y 57 _ :: .y 58 _ :: .y 59 _ :: .y 60 _ :: .y 61 _ :: .y 62 _ :: .y 63 _ :: .y 64 _ :: .y 65 _ :: .y 66 _ :: .y 16 _ :: [])) (ks:=[]) (kk:=[]) (live:=[2,4,5,6,7,8,9,10,11,13,16,38,39]) (env':=[(2,_),(4,_),(5,_),(6,_),(7,_),(8,_),(9,_),(10,_),(11,_),(13,_),(16,_),(38,_),(39,_)]) (⟨nU O,O,⟨mU 12 O O,mU 9 O O,aU fun _ _ H K=>R.callG hC (right_ok _ _) (Bc (Bp (eU K 44 O) O O) (Bc (Bp (kI 6 O) O O) Bn)) (FrsR.one (.u32 _)) H,mU 9 O O,aU fun _ _ H K=>R.callG hC (right_ok _ _) (Bc (Bp (eU K 46 O) O O) (Bc (Bp (kI 11 O) O O) Bn)) (FrsR.one (.u32 _)) H,aU fun _ _ H K=>R.bin (eU K 45 O) (eU K 47 O) O Zt H,mU 9 O O,aU fun _ _ H K=>R.callG hC (right_ok _ _) (Bc (Bp (eU K 49 O) O O) (Bc (Bp (kI 25 O) O O) Bn)) (FrsR.one (.u32 _)) H,aU fun _ _ H K=>R.bin (eU K 48 O) (eU K 50 O) O Zt H,aU fun _ _ H K=>R.bin (eU K 43 O) (eU K 51 O) O Zt H,mU 11 O O,mU 9 O O,mU 10 O O,mU 11 O O,aU fun _ _ H K=>R.bin (eU K 55 O) (eU K 56 O) O Zt H,aU fun _ _ H K=>R.bin (eU K 54 O) (eU K 57 O) O Zt H,aU fun _ _ H K=>R.bin (eU K 53 O) (eU K 58 O) O Zt H,aU fun _ _ H K=>R.bin (eU K 52 O) (eU K 59 O) O Zt H,mU 15 O O,aU fun _ _ H K=>R.bin (eU K 60 O) (eU K 61 O) O Zt H,mU 14 O O,aU fun _ _ H K=>R.idxP (t) (K 13 _ O) (evoI (eU K 63 O)) O bU H,aU fun _ B H K=>R.ldP (K 64 _ O) (B 13 _ O) (loc_arr (map_get! (l:=(sched p 64)) bU) loc_nil bU) O O O H,aU fun _ _ H K=>R.bin (eU K 62 O) (eU K 65 O) O Zt H,aU fun _ _ H K=>R.asg (eU K 66 O) O H,Zt⟩,O,O,O⟩) O (bx':=[(13,.var _),(4,.var _),(2,.var _)]) O (n':=119) O (tV [(2,_),(4,_),(5,_),(6,_),(7,_),(8,_),(9,_),(10,_),(11,_),(13,_),(16,_),(38,_),(39,_)] [(13,.var _),(4,.var _),(2,.var _)] 119 O O O ?_)
   refine W.seq ?_
   refine W.l0 19 [.y 67 _,.y 68 _,.y 69 _,.y 70 _,.y 71 _,.y 72 _,.y 73 _,.y 74 _,.y 75 _,.y 76 _,.y 77 _,.y 78 _,.y 79 _,.y 80 _,.y 81 _,.y 82 _,.y 83 _,.y 84 _,.y 17 _] [] [] [(2,_),(4,_),(5,_),(6,_),(7,_),(8,_),(9,_),(10,_),(11,_),(13,_),(16,_),(17,_),(38,_),(39,_)] [(13,.var _),(4,.var _),(2,.var _)] 119 ⟨mU 5 O O,aU fun _ _ H K=>R.callG hC (right_ok _ _) (Bc (Bp (eU K 67 O) O O) (Bc (Bp (kI 2 O) O O) Bn)) (FrsR.one (.u32 _)) H,mU 5 O O,aU fun _ _ H K=>R.callG hC (right_ok _ _) (Bc (Bp (eU K 69 O) O O) (Bc (Bp (kI 13 O) O O) Bn)) (FrsR.one (.u32 _)) H,aU fun _ _ H K=>R.bin (eU K 68 O) (eU K 70 O) O Zt H,mU 5 O O,aU fun _ _ H K=>R.callG hC (right_ok _ _) (Bc (Bp (eU K 72 O) O O) (Bc (Bp (kI 22 O) O O) Bn)) (FrsR.one (.u32 _)) H,aU fun _ _ H K=>R.bin (eU K 71 O) (eU K 73 O) O Zt H,mU 5 O O,mU 6 O O,aU fun _ _ H K=>R.bin (eU K 75 O) (eU K 76 O) O Zt H,mU 7 O O,mU 5 O O,mU 6 O O,aU fun _ _ H K=>R.bin (eU K 79 O) (eU K 80 O) O Zt H,aU fun _ _ H K=>R.bin (eU K 78 O) (eU K 81 O) O Zt H,aU fun _ _ H K=>R.bin (eU K 77 O) (eU K 82 O) O Zt H,aU fun _ _ H K=>R.bin (eU K 74 O) (eU K 83 O) O Zt H,aU fun _ _ H K=>R.asg (eU K 84 O) O H,Zt⟩ O O O O (tU O ?_)
   refine W.l0 20 [.y 85 _,.y 86 _,.y 87 _,.y 88 _,.y 89 _,.y 90 _,.y 91 _,.y 92 _,.y 93 _,.y 94 _,.y 95 _,.y 96 _,.y 12 _,.y 11 _,.y 10 _,.y 9 _,.y 8 _,.y 7 _,.y 6 _,.y 5 _] [] [] [(2,_),(4,_),(5,_),(6,_),(7,_),(8,_),(9,_),(10,_),(11,_),(12,_),(13,_),(38,_),(39,_)] [(13,.var _),(4,.var _),(2,.var _)] 119 ⟨mU 11 O O,mU 10 O O,mU 9 O O,mU 8 O O,mU 16 O O,aU fun _ _ H K=>R.bin (eU K 88 O) (eU K 89 O) O Zt H,mU 7 O O,mU 6 O O,mU 5 O O,mU 16 O O,mU 17 O O,aU fun _ _ H K=>R.bin (eU K 94 O) (eU K 95 O) O Zt H,aU fun _ _ H K=>R.asg (eU K 85 O) O H,aU fun _ _ H K=>R.asg (eU K 86 O) O H,aU fun _ _ H K=>R.asg (eU K 87 O) O H,aU fun _ _ H K=>R.asg (eU K 90 O) O H,aU fun _ _ H K=>R.asg (eU K 91 O) O H,aU fun _ _ H K=>R.asg (eU K 92 O) O H,aU fun _ _ H K=>R.asg (eU K 93 O) O H,aU fun _ _ H K=>R.asg (eU K 96 O) O H,Zt⟩ O O O O (tU O ?_)
   refine W.l0 2 [.y 97 _,.y 39 _] [] [] [(2,_),(4,_),(5,_),(6,_),(7,_),(8,_),(9,_),(10,_),(11,_),(12,_),(13,_),(38,_),(39,_)] [(13,.var _),(4,.var _),(2,.var _)] 119 ⟨aU fun _ _ H K=>R.addN (t) (1) (eU K 39 O) (kI 1 O) bU H,mU 97 O O,Zt⟩ O O O O (tU O ?_)
   exact ⟨⟨(t + 1),bU⟩,rfl,(by simp only []; omega)⟩
 · obtain rfl : t = 64:=by omega
   refine W.exit (W.seq (W.seq ?_))
   refine W.l0 10 [.y 98 _,.y 99 _,.y 100 _,.y 101 _,.y 102 _,.y 103 _,.y 104 _,.y 105 _,.y 106 _,.y 107 _] [] [] [(2,_),(4,_),(106,_),(107,_)] [(13,.var _),(4,.var _),(2,.var _)] 119 ⟨mU 5 O O,mU 6 O O,mU 7 O O,mU 8 O O,mU 9 O O,mU 10 O O,mU 11 O O,mU 12 O O,aU fun _ _ H K=>R.bldAE (z:=1) (.cons (eU K 98 O) (.cons (eU K 99 O) (.cons (eU K 100 O) (.cons (eU K 101 O) (.cons (eU K 102 O) (.cons (eU K 103 O) (.cons (eU K 104 O) (.cons (eU K 105 O) .nil)))))))) ⟨⟨O,O,O⟩,⟨O,O,O⟩,⟨O,O,O⟩,⟨O,O,O⟩,⟨O,O,O⟩,⟨O,O,O⟩,⟨O,O,O⟩,⟨O,O,O⟩,Zt⟩ O H,aU fun _ _ H _=>R.mov (kI 0 O) O H,Zt⟩ O O O O (tU O ?_)
   refine W.block ?_
   refine W.loop (α:={q__ : Nat // q__ <= 8}) (fun q__=>⟨119,[(2,.ptr 2 0 []),(4,.ptr 4 0 []),(106,.arr 8 1 ((rds h (sched p 64) 64).list.map D.u32)),(107,.int ((q__.1 : Nat) : Int))],[(13,.var (.arr 64 1 ((sched p 64).map D.u32))),(4,.var (.arr 8 1 ((List.replicate 8 0).map D.u32))),(2,.var (.arr 8 1 ((addH h (rds h (sched p 64) 64).list q__.1).map D.u32)))]⟩) (fun q__=>8 - q__.1) ⟨(0),bU⟩ O ?_
   rintro ⟨i,hil⟩
   show W _ _ _ _ ⟨119,[(2,.ptr 2 0 []),(4,.ptr 4 0 []),(106,.arr 8 1 ((rds h (sched p 64) 64).list.map D.u32)),(107,.int ((i : Nat) : Int))],[(13,.var (.arr 64 1 ((sched p 64).map D.u32))),(4,.var (.arr 8 1 ((List.replicate 8 0).map D.u32))),(2,.var (.arr 8 1 ((addH h (rds h (sched p 64) 64).list i).map D.u32)))]⟩
   have hll : (rds h (sched p 64) 64).list.length = 8:=rfl
   have hal:=addH_len h (rds h (sched p 64) 64).list i
   refine W.seq ?_
   refine W.l0 1 [.y 108 _] [] [] [(2,_),(4,_),(106,_),(107,_),(108,_)] [(13,.var _),(4,.var _),(2,.var _)] 119 ⟨aU fun _ _ H K=>R.lssN (i) (8) (eU K 107 O) (kI 8 O) H,Zt⟩ O O O O (tU O ?_)
   refine W.seq ?_
   refine W.condD O (fun hc108=>?_) (fun hc108=>?_)
   · refine W.skip (W.seq (W.block (W.seq ?_)))
     refine W.l0 4 [.y 109 _,.y 110 _,.y 18 _,.y 19 _] [] [] [(2,_),(4,_),(18,_),(19,_),(106,_),(107,_)] [(13,.var _),(4,.var _),(2,.var _)] 119 ⟨mU 107 O O,aU fun _ _ H K=>R.ixA (i) (eU K 106 O) (evoI (eU K 107 O)) O (map_get! (l:=(rds h (sched p 64) 64).list) bU) O O O H,aU fun _ _ H K=>R.asg (eU K 109 O) O H,aU fun _ _ H K=>R.asg (eU K 110 O) O H,Zt⟩ O O O O (tU O ?_)
     refine W.l0 7 [.y 111 _,.y 112 _,.y 113 _,.y 114 _,.y 115 _,.y 116 _] [] [] [(2,_),(4,_),(106,_),(107,_),(115,_),(116,_)] [(13,.var _),(4,.var _),(2,.var _)] 119 ⟨mU 18 O O,aU fun _ _ H K=>R.idxP (i) (K 2 _ O) (evoI (eU K 111 O)) O bU H,aU fun _ B H K=>R.ldP (K 112 _ O) (B 2 _ O) (loc_arr (map_get! (l:=(addH h (rds h (sched p 64) 64).list i)) bU) loc_nil bU) O O O H,mU 19 O O,aU fun _ _ H K=>R.bin (eU K 113 O) (eU K 114 O) O Zt H,aU fun _ _ H K=>R.idxP (i) (K 2 _ O) (evoI (eU K 111 O)) O bU H,Zt⟩ O O O O (⟨O,_,R.stZ (gU 116 O) (xU 2 O) (loc_arr (map_get! (l:=(addH h (rds h (sched p 64) 64).list i)) bU) loc_nil bU) (gV 115 O) (by rfl) (by rfl) (by rfl) (by rfl) (upd_arr (map_get! (l:=(addH h (rds h (sched p 64) 64).list i)) bU) upd_nil set_map),tV [(2,_),(4,_),(106,_),(107,_)] [(13,.var _),(4,.var _),(2,.var _)] 119 O O O ?_⟩)
     refine W.l0 2 [.y 117 _,.y 107 _] [] [] [(2,_),(4,_),(106,_),(107,_)] [(13,.var _),(4,.var _),(2,.var _)] 119 ⟨aU fun _ _ H K=>R.addN (i) (1) (eU K 107 O) (kI 1 O) bU H,mU 117 O O,Zt⟩ O O O O (tU O ?_)
     exact ⟨⟨(i + 1),bU⟩,rfl,(by simp only []; omega)⟩
   · obtain rfl : i = 8:=by omega
     refine W.exit (W.seq ?_)
     refine W.l0 2 [.y 118 _] [] [] [(4,_),(118,_)] [(13,.var _),(4,.var _),(2,.var _)] 119 ⟨aU (lU 2 O O O O O O O),Zt⟩ O O O O (⟨O,_,R.stZ (gU 4 O) (xU 4 O) O (gV 118 O) (by rfl) (by rfl) (by rfl) (by rfl) O,tV [(4,_)] [(13,.var _),(4,.var _),(2,.var _)] 119 O O O ?_⟩)
     refine W.ret ?_
     exact Ends.one' (.inr O) O (O) O O (show LdT _ 153 8 true from inferInstance)
theorem add_ok (s : ShaS) (b : List UInt8) (hs : s.ok) (hb0 : b.length <= 1073741824) : Fn Tryd.prog gl 73 [stD s,.sl none 1 (b.map D.u8)] (stD (addS s b)):=by
 refine Fn.of (n:=39) Tryd.func73 rfl rfl rfl (nU rfl) fun C hC hD=>?_
 refine W.seq ?_
 refine W.l0 2 [] [] [] [(0,_),(1,_)] [] 39 Zt O O O O (⟨O,_,R.box (gV 0 O) O O (nU O),⟨O,_,R.alloc O (nU O),tV [(1,_),(2,_),(4,_)] [(4,.var _),(2,.var _)] 39 O O O ?_⟩⟩)
 refine W.seqM (fun s__=>∃ q__ : {q__ : Unit // True},s__ = ⟨39,[(1,.sl none 1 (b.map D.u8)),(2,.ptr 2 0 []),(4,.ptr 4 0 [])],[(4,.var (stD ShaS.zero)),(2,.var (stD (bif s.begun then s else ShaS.start)))]⟩) ?_ ?_
 · refine W.seq ?_
   refine W.l0 3 [.y 6 _,.y 7 _,.y 8 _] [] [] [(1,_),(2,_),(4,_),(8,_)] [(4,.var _),(2,.var _)] 39 ⟨aU (fU 2 O O),aU (lU 6 O O O O O O O),aU fun _ _ H K=>R.un (eU K 7 O) O H,Zt⟩ O O O O (tU O ?_)
   refine W.cond O (fun hc8=>?_) (fun hc8=>?_)
   · refine W.l0 2 [.y 9 _] [] [] [(1,_),(2,_),(4,_),(9,_)] [(4,.var _),(2,.var _)] 39 ⟨aU fun _ _ H _=>R.callG hC (begin_ok) Bn (FrsR.one (frs_st _)) H,Zt⟩ O O O O (⟨O,_,R.stZ (gU 2 O) (xU 2 O) O (gV 9 O) (by rfl) (by rfl) (by rfl) (by rfl) O,tV [(1,_),(2,_),(4,_)] [(4,.var _),(2,.var _)] 39 O O O ?_⟩)
     exact ⟨⟨(()),Zt⟩,(by have h0 : s.begun = false:=(by simpa using hc8); rw [h0]; rfl)⟩
   · refine W.dropS (live:=[1,2,4]) (env':=[(1,_),(2,_),(4,_)]) (bx':=[(4,.var _),(2,.var _)]) (n':=39) O O O ?_
     refine W.skip ?_
     exact ⟨⟨(()),Zt⟩,(by have h0 : s.begun = true:=(by simpa using hc8); rw [h0]; rfl)⟩
 · rintro s__ ⟨⟨_,_⟩,rfl⟩
   have hs0 : (bif s.begun then s else ShaS.start).ok:=by cases s.begun <;> first | exact hs | exact ShaS.start_ok
   refine W.seq (W.block ?_)
   refine W.loop (α:={q__ : ShaS × List UInt8 // q__.1.ok /\ q__.2.length <= b.length /\ addW q__.1 q__.2 = addS s b}) (fun q__=>⟨39,[(1,.sl none 1 (q__.1.2.map D.u8)),(2,.ptr 2 0 []),(4,.ptr 4 0 [])],[(4,.var (stD ShaS.zero)),(2,.var (stD q__.1.1))]⟩) (fun q__=>q__.1.2.length) ⟨((bif s.begun then s else ShaS.start),b),⟨hs0,Nat.le_refl _,O⟩⟩ O ?_
   rintro ⟨⟨u,c⟩,⟨hu,hcb,heq⟩⟩
   show W _ _ _ _ ⟨39,[(1,.sl none 1 (c.map D.u8)),(2,.ptr 2 0 []),(4,.ptr 4 0 [])],[(4,.var (stD ShaS.zero)),(2,.var (stD u))]⟩
   have hcb : c.length <= b.length:=hcb
   have hm:=mS_lt u
   have hkl:=kS_le u c
   have hkr:=kS_room u c
   have hpl:=pieceS_len u c hu
   have hpp:=hu.p
   refine W.seq (W.seq ?_)
   refine W.l0 3 [.y 10 _,.y 11 _,.y 12 _] [] [] [(1,_),(2,_),(4,_),(12,_)] [(4,.var _),(2,.var _)] 39 ⟨mU 1 O O,aU fun _ _ H K=>R.lenE (SC.sl (K 10 _ O)) (lN _) H,aU fun _ _ H K=>R.gtrN (c.length) (0) (eU K 11 O) (kI 0 O) H,Zt⟩ O O O O (tU O ?_)
   refine W.condD O (fun hc12=>?_) (fun hc12=>?_)
   · refine W.skip (W.block (W.seq ?_))
     refine W.l0 8 [.y 13 _,.y 14 _,.y 15 _,.y 16 _,.y 17 _,.y 18 _] [] [] [(1,_),(2,_),(4,_),(17,_),(18,_)] [(4,.var _),(2,.var _)] 39 ⟨aU (fU 2 O O),aU (fU 2 O O),aU (lU 14 O O O O O O O),aU fun _ _ H K=>R.bin (eU K 15 O) (show ev _ _ (.const (.int .u64 64)) = some (.u64 64) from O) O dU H,aU fun _ B H K=>R.slAN (mS u) (64) (64 - mS u) (K 13 _ O) (B 2 _ O) O (evo64 (eU K 16 O)) O O O (by omega) bU bU H,mU 1 O O,Zt⟩ O O O O (⟨O,_,R.cpAE (k:=kS u c) (l2:=((pieceS u c).map D.u8)) (gU 17 O) (xU 2 O) O (by omega) (SrcO.sc (SC.sl (gU 18 O)) (pur_map (fun _=>rfl))) (np_map (fun _=>rfl)) (nU O) (by simp only [List.length_map]; rfl) (by simp only [pieceS,List.map_append,List.map_take,List.map_drop]) O,⟨O,_,R.asg (gV 19 O) O (nU O),tV [(1,_),(2,_),(4,_),(5,_)] [(4,.var _),(2,.var _)] 39 O O O ?_⟩⟩)
     refine W.seq ?_
     refine W.l0 4 [.y 20 _,.y 21 _,.y 22 _,.y 1 _] [] [] [(1,_),(2,_),(4,_),(5,_)] [(4,.var _),(2,.var _)] 39 ⟨mU 1 O O,mU 5 O O,aU fun _ _ H K=>R.slIN (kS u c) (c.length) ((c.length - kS u c)) (eU K 20 O) (evoI (eU K 21 O)) O O (by simp) (by omega) (by first | omega | simp) O (rest_map) H,aU fun _ _ H K=>R.asg (eU K 22 O) O H,Zt⟩ O O O O (tU O ?_)
     refine W.seq ?_
     refine W.l0 7 [.y 23 _,.y 24 _,.y 25 _,.y 26 _,.y 27 _,.y 28 _] [] [] [(1,_),(2,_),(4,_),(27,_),(28,_)] [(4,.var _),(2,.var _)] 39 ⟨aU (fU 2 O O),aU (lU 23 O O O O O O O),mU 5 O O,aU fun _ _ H K=>R.conv (eU K 25 O) O H,aU fun _ _ H K=>R.bin (eU K 24 O) (eU K 26 O) O Zt H,aU (fU 2 O O),Zt⟩ O O O O (⟨O,_,R.stZ (gU 28 O) (xU 2 O) O (gV 27 O) (by rfl) (by rfl) (by rfl) (by rfl) O,tV [(1,_),(2,_),(4,_)] [(4,.var _),(2,.var _)] 39 O O O ?_⟩)
     refine W.seq ?_
     refine W.l0 4 [.y 29 _,.y 30 _,.y 31 _,.y 32 _] [] [] [(1,_),(2,_),(4,_),(32,_)] [(4,.var _),(2,.var _)] 39 ⟨aU (fU 2 O O),aU (lU 29 O O O O O O O),aU fun _ _ H K=>R.bin (eU K 30 O) (show ev _ _ (.const (.int .u64 64)) = some (.u64 64) from O) O dU H,aU fun _ _ H K=>R.bin (eU K 31 O) (show ev _ _ (.const (.int .u64 0)) = some (.u64 0) from O) O Zt H,Zt⟩ O O O O (tU O ?_)
     refine W.cond O (fun hc32=>?_) (fun hc32=>?_)
     · refine W.l0 6 [.y 33 _,.y 34 _,.y 35 _,.y 36 _,.y 37 _] [] [] [(1,_),(2,_),(4,_),(36,_),(37,_)] [(4,.var _),(2,.var _)] 39 ⟨aU (fU 2 O O),aU (lU 33 O O O O O O O),aU (fU 2 O O),aU fun _ B H K=>R.callG hC (with_ok _ _ hu.h hpl) (Bc (Bp (eU K 34 O) O O) (Bc (Bor.ptr (K 35 _ O) (B 2 _ O) O (brw_arr (fun _=>rfl)) O) Bn)) (FrsR.one (.arr _ _ _ (frs_map fun _=>.u32 _))) H,aU (fU 2 O O),Zt⟩ O O O O (⟨O,_,R.stZ (gU 37 O) (xU 2 O) O (gV 36 O) (by rfl) (by rfl) (by rfl) (by rfl) O,tV [(1,_),(2,_),(4,_)] [(4,.var _),(2,.var _)] 39 O O O ?_⟩)
       exact ⟨⟨(stepS u c,c.drop (kS u c)),⟨stepS_ok u c hu,by simp only [List.length_drop]; omega,by rw [<- addW_step u c (by omega)]; exact heq⟩⟩,(by simp only [stepS]; first | (rw [show (nS u c % 64 == 0) = true from hc32]; rfl) | (rw [show (nS u c % 64 == 0) = false from hc32]; rfl)),(by have:=kS_pos u c (by omega); show (c.drop (kS u c)).length < c.length; simp only [List.length_drop]; omega)⟩
     · refine W.dropS (live:=[1,2,4]) (env':=[(1,_),(2,_),(4,_)]) (bx':=[(4,.var _),(2,.var _)]) (n':=39) O O O ?_
       refine W.skip ?_
       exact ⟨⟨(stepS u c,c.drop (kS u c)),⟨stepS_ok u c hu,by simp only [List.length_drop]; omega,by rw [<- addW_step u c (by omega)]; exact heq⟩⟩,(by simp only [stepS]; first | (rw [show (nS u c % 64 == 0) = true from hc32]; rfl) | (rw [show (nS u c % 64 == 0) = false from hc32]; rfl)),(by have:=kS_pos u c (by omega); show (c.drop (kS u c)).length < c.length; simp only [List.length_drop]; omega)⟩
   · have hw:=addW_nil u c (by omega)
     rw [hw] at heq
     refine W.exit (W.seq ?_)
     refine W.l0 2 [.y 38 _] [] [] [(4,_),(38,_)] [(4,.var _),(2,.var _)] 39 ⟨aU (lU 2 O O O O O O O),Zt⟩ O O O O (⟨O,_,R.stZ (gU 4 O) (xU 4 O) O (gV 38 O) (by rfl) (by rfl) (by rfl) (by rfl) O,tV [(4,_)] [(4,.var _),(2,.var _)] 39 O O O ?_⟩)
     refine W.ret ?_
     exact Ends.one' (.inr O) O (congrArg stD heq) O O (show LdT _ 156 74 true from inferInstance)
theorem end_ok (s : ShaS) (hs : s.ok) : Fn Tryd.prog gl 74 [stD s] (hashD (endS s)):=by
 refine Fn.of (n:=54) Tryd.func74 rfl rfl rfl (nU rfl) fun C hC hD=>?_
 refine W.seq ?_
 refine W.l0 2 [] [] [] [(0,_)] [] 54 Zt O O O O (⟨O,_,R.box (gV 0 O) O O (nU O),⟨O,_,R.alloc O (nU O),tV [(1,_),(2,_)] [(2,.var _),(1,.var _)] 54 O O O ?_⟩⟩)
 refine W.seq ?_
 refine W.l0 4 [.y 8 _,.y 9 _,.y 10 _,.y 3 _] [] [] [(1,_),(2,_),(3,_)] [(2,.var _),(1,.var _)] 54 ⟨aU (fU 1 O O),aU (lU 8 O O O O O O O),aU fun _ _ H K=>R.bin (eU K 9 O) (show ev _ _ (.const (.int .u64 8)) = some (.u64 8) from O) O Zt H,aU fun _ _ H K=>R.asg (eU K 10 O) O H,Zt⟩ O O O O (tU O ?_)
 refine W.seq ?_
 refine W.l0 4 [.y 11 _,.y 12 _,.y 13 _] [] [] [(1,_),(2,_),(3,_),(13,_)] [(2,.var _),(1,.var _)] 54 ⟨aU (lU 1 O O O O O O O),aU fun _ _ H _=>R.bslE (z:=1) (.cons (show ev _ _ (.const (.int .u8 128)) = some (.u8 128) from O) .nil) ⟨⟨O,O,O⟩,Zt⟩ O H dU,aU fun _ _ H K=>R.callG hC (add_ok s [128] hs dU) (Bc (Bp (eU K 11 O) O O) (Bc (Bor.sc (SC.sl (K 12 _ O)) O) Bn)) (FrsR.one (frs_st _)) H,Zt⟩ O O O O (⟨O,_,R.stZ (gU 1 O) (xU 1 O) O (gV 13 O) (by rfl) (by rfl) (by rfl) (by rfl) O,tV [(1,_),(2,_),(3,_)] [(2,.var _),(1,.var _)] 54 O O O ?_⟩)
 refine W.seq (W.block ?_)
 refine W.loop (α:={q__ : ShaS // q__.ok /\ q__.begun = true /\ padS (padN q__) q__ = pad2 s}) (fun q__=>⟨54,[(1,.ptr 1 0 []),(2,.ptr 2 0 []),(3,.u64 (s.n * 8))],[(2,.var (hashD (List.replicate 32 0))),(1,.var (stD q__.1))]⟩) (fun q__=>padN q__.1) ⟨(pad1 s),⟨addS_ok s _ hs,addS_begun s _,O⟩⟩ O ?_
 rintro ⟨u,⟨hu,hub,heq⟩⟩
 show W _ _ _ _ ⟨54,[(1,.ptr 1 0 []),(2,.ptr 2 0 []),(3,.u64 (s.n * 8))],[(2,.var (hashD (List.replicate 32 0))),(1,.var (stD u))]⟩
 refine W.seq (W.seq ?_)
 refine W.l0 4 [.y 14 _,.y 15 _,.y 16 _,.y 17 _] [] [] [(1,_),(2,_),(3,_),(17,_)] [(2,.var _),(1,.var _)] 54 ⟨aU (fU 1 O O),aU (lU 14 O O O O O O O),aU fun _ _ H K=>R.bin (eU K 15 O) (show ev _ _ (.const (.int .u64 64)) = some (.u64 64) from O) O dU H,aU fun _ _ H K=>R.bin (eU K 16 O) (show ev _ _ (.const (.int .u64 56)) = some (.u64 56) from O) O Zt H,Zt⟩ O O O O (tU O ?_)
 refine W.cond O (fun hc17=>?_) (fun hc17=>?_)
 · refine W.skip (W.block ?_)
   refine W.l0 4 [.y 18 _,.y 19 _,.y 20 _] [] [] [(1,_),(2,_),(3,_),(20,_)] [(2,.var _),(1,.var _)] 54 ⟨aU (lU 1 O O O O O O O),aU fun _ _ H _=>R.bslE (z:=1) (.cons (show ev _ _ (.const (.int .u8 0)) = some (.u8 0) from O) .nil) ⟨⟨O,O,O⟩,Zt⟩ O H dU,aU fun _ _ H K=>R.callG hC (add_ok u [0] hu dU) (Bc (Bp (eU K 18 O) O O) (Bc (Bor.sc (SC.sl (K 19 _ O)) O) Bn)) (FrsR.one (frs_st _)) H,Zt⟩ O O O O (⟨O,_,R.stZ (gU 1 O) (xU 1 O) O (gV 20 O) (by rfl) (by rfl) (by rfl) (by rfl) O,tV [(1,_),(2,_),(3,_)] [(2,.var _),(1,.var _)] 54 O O O ?_⟩)
   exact ⟨⟨(addS u [0]),⟨addS_ok u _ hu,addS_begun u _,by rw [pad_step u hub (mS_ne hc17)] at heq; exact heq⟩⟩,rfl,(by have:=pad_less u hub (mS_ne hc17); simp only []; omega)⟩
 · have hp0 : padN u = 0:=pad_end u (mS_eq hc17)
   rw [hp0] at heq
   obtain rfl : u = pad2 s:=heq
   have hs2:=hu
   refine W.exit (W.seq ?_)
   refine W.l0 1 [] [] [] [(1,_),(2,_),(3,_)] [(2,.var _),(1,.var _)] 54 Zt O O O O (⟨O,_,R.alloc O (nU O),tV [(1,_),(2,_),(3,_),(4,_)] [(4,.var _),(2,.var _),(1,.var _)] 54 O O O ?_⟩)
   refine W.seq (W.seq ?_)
   refine W.l0 1 [.y 21 _] [] [] [(1,_),(2,_),(3,_),(4,_),(21,_)] [(4,.var _),(2,.var _),(1,.var _)] 54 ⟨aU fun _ _ H _=>R.mov (kI 0 O) O H,Zt⟩ O O O O (tU O ?_)
   refine W.block ?_
   refine W.loop (α:={q__ : Nat // q__ <= 8}) (fun q__=>⟨54,[(1,.ptr 1 0 []),(2,.ptr 2 0 []),(3,.u64 (s.n * 8)),(4,.ptr 4 0 []),(21,.int ((q__.1 : Nat) : Int))],[(4,.var (.arr 8 1 ((longB (s.n * 8) q__.1).map D.u8))),(2,.var (hashD (List.replicate 32 0))),(1,.var (stD (pad2 s)))]⟩) (fun q__=>8 - q__.1) ⟨(0),bU⟩ O ?_
   rintro ⟨i,hil⟩
   show W _ _ _ _ ⟨54,[(1,.ptr 1 0 []),(2,.ptr 2 0 []),(3,.u64 (s.n * 8)),(4,.ptr 4 0 []),(21,.int ((i : Nat) : Int))],[(4,.var (.arr 8 1 ((longB (s.n * 8) i).map D.u8))),(2,.var (hashD (List.replicate 32 0))),(1,.var (stD (pad2 s)))]⟩
   have hll:=longB_len (s.n * 8) i
   refine W.seq ?_
   refine W.l0 1 [.y 22 _] [] [] [(1,_),(2,_),(3,_),(4,_),(21,_),(22,_)] [(4,.var _),(2,.var _),(1,.var _)] 54 ⟨aU fun _ _ H K=>R.lssN (i) (8) (eU K 21 O) (kI 8 O) H,Zt⟩ O O O O (tU O ?_)
   refine W.seq ?_
   refine W.condD O (fun hc22=>?_) (fun hc22=>?_)
   · refine W.skip (W.seq (W.block (W.seq ?_)))
     refine W.l0 2 [.y 23 _,.y 5 _] [] [] [(1,_),(2,_),(3,_),(4,_),(5,_),(21,_)] [(4,.var _),(2,.var _),(1,.var _)] 54 ⟨mU 21 O O,aU fun _ _ H K=>R.asg (eU K 23 O) O H,Zt⟩ O O O O (tU O ?_)
     refine W.l0 9 [.y 24 _,.y 25 _,.y 26 _,.y 27 _,.y 28 _,.y 29 _,.y 30 _,.y 31 _] [] [] [(1,_),(2,_),(3,_),(4,_),(21,_),(30,_),(31,_)] [(4,.var _),(2,.var _),(1,.var _)] 54 ⟨mU 5 O O,mU 3 O O,mU 5 O O,aU fun _ _ H K=>R.mulN (8) (i) (kI 8 O) (eU K 26 O) bU H,aU fun _ _ H K=>R.subN (56) ((8 * i)) (kI 56 O) (eU K 27 O) bU bU H,aU fun _ _ H K=>R.bin (eU K 25 O) (eU K 28 O) O (show (0 : Int) <= _ from Int.natCast_nonneg _) H,aU fun _ _ H K=>R.conv (eU K 29 O) O H,aU fun _ _ H K=>R.idxP (i) (K 4 _ O) (evoI (eU K 24 O)) O bU H,Zt⟩ O O O O (⟨O,_,R.stZ (gU 31 O) (xU 4 O) (loc_arr (map_get! (l:=(longB (s.n * 8) i)) bU) loc_nil bU) (gV 30 O) (by rfl) (by rfl) (by rfl) (by rfl) (upd_arr (map_get! (l:=(longB (s.n * 8) i)) bU) upd_nil set_map),tV [(1,_),(2,_),(3,_),(4,_),(21,_)] [(4,.var _),(2,.var _),(1,.var _)] 54 O O O ?_⟩)
     refine W.l0 2 [.y 32 _,.y 21 _] [] [] [(1,_),(2,_),(3,_),(4,_),(21,_)] [(4,.var _),(2,.var _),(1,.var _)] 54 ⟨aU fun _ _ H K=>R.addN (i) (1) (eU K 21 O) (kI 1 O) bU H,mU 32 O O,Zt⟩ O O O O (tU O ?_)
     exact ⟨⟨(i + 1),bU⟩,rfl,(by simp only []; omega)⟩
   · obtain rfl : i = 8:=by omega
     refine W.exit (W.seq ?_)
     refine W.draw (m:=3) (an:=[0,0,3,7]) hP dU O (its:=[.y 33 _,.y 34 _,.y 35 _]) (ks:=[]) (kk:=[]) (live:=[1,2,35]) (env':=[(1,_),(2,_),(35,_)]) (⟨nU O,O,⟨aU (lU 1 O O O O O O O),aU fun _ B H K=>R.slAN (0) (8) (8) (K 4 _ O) (B 4 _ O) O O O O O bU bU O H,aU fun _ B H K=>R.callG hC (add_ok _ _ hs2 (by simp [longB_len])) (Bc (Bp (eU K 33 O) O O) (Bc (Bor.sc (SC.va (K 34 _ O) (B 4 _ O) O bU) (brw_all (fun _=>rfl) (longB_len _ _))) Bn)) (FrsR.one (frs_st _)) H,Zt⟩,O,O,O⟩) O (bx':=[(4,.var _),(2,.var _),(1,.var _)]) O (n':=54) O (⟨O,_,R.stZ (gU 1 O) (xU 1 O) O (gV 35 O) (by rfl) (by rfl) (by rfl) (by rfl) O,tV [(1,_),(2,_)] [(4,.var _),(2,.var _),(1,.var _)] 54 O O O ?_⟩)
     refine W.seq ?_
     refine W.l0 1 [] [] [] [(1,_),(2,_)] [(4,.var _),(2,.var _),(1,.var _)] 54 Zt O O O O (⟨O,_,R.alloc O (nU O),tV [(1,_),(2,_),(6,_)] [(6,.var _),(4,.var _),(2,.var _),(1,.var _)] 54 O O O ?_⟩)
     refine W.seq (W.seq ?_)
     refine W.l0 1 [.y 36 _] [] [] [(1,_),(2,_),(6,_),(36,_)] [(6,.var _),(4,.var _),(2,.var _),(1,.var _)] 54 ⟨aU fun _ _ H _=>R.mov (kI 0 O) O H,Zt⟩ O O O O (tU O ?_)
     refine W.block ?_
     refine W.loop (α:={q__ : Nat // q__ <= 32}) (fun q__=>⟨54,[(1,.ptr 1 0 []),(2,.ptr 2 0 []),(6,.ptr 6 0 []),(36,.int ((q__.1 : Nat) : Int))],[(6,.var (hashD (outB (pad3 s).h q__.1))),(4,.var (.arr 8 1 ((longB (s.n * 8) 8).map D.u8))),(2,.var (hashD (List.replicate 32 0))),(1,.var (stD (pad3 s)))]⟩) (fun q__=>32 - q__.1) ⟨(0),bU⟩ O ?_
     rintro ⟨i,hil⟩
     show W _ _ _ _ ⟨54,[(1,.ptr 1 0 []),(2,.ptr 2 0 []),(6,.ptr 6 0 []),(36,.int ((i : Nat) : Int))],[(6,.var (hashD (outB (pad3 s).h i))),(4,.var (.arr 8 1 ((longB (s.n * 8) 8).map D.u8))),(2,.var (hashD (List.replicate 32 0))),(1,.var (stD (pad3 s)))]⟩
     have hol:=outB_len (pad3 s).h i
     have h3 : (pad3 s).ok:=addS_ok _ _ hs2
     have h3l:=h3.h
     refine W.seq ?_
     refine W.l0 1 [.y 37 _] [] [] [(1,_),(2,_),(6,_),(36,_),(37,_)] [(6,.var _),(4,.var _),(2,.var _),(1,.var _)] 54 ⟨aU fun _ _ H K=>R.lssN (i) (32) (eU K 36 O) (kI 32 O) H,Zt⟩ O O O O (tU O ?_)
     refine W.seq ?_
     refine W.condD O (fun hc37=>?_) (fun hc37=>?_)
     · refine W.skip (W.seq (W.block (W.seq ?_)))
       refine W.l0 2 [.y 38 _,.y 7 _] [] [] [(1,_),(2,_),(6,_),(7,_),(36,_)] [(6,.var _),(4,.var _),(2,.var _),(1,.var _)] 54 ⟨mU 36 O O,aU fun _ _ H K=>R.asg (eU K 38 O) O H,Zt⟩ O O O O (tU O ?_)
       refine W.l0 14 [.y 39 _,.y 40 _,.y 41 _,.y 42 _,.y 43 _,.y 44 _,.y 45 _,.y 46 _,.y 47 _,.y 48 _,.y 49 _,.y 50 _,.y 51 _] [] [] [(1,_),(2,_),(6,_),(36,_),(50,_),(51,_)] [(6,.var _),(4,.var _),(2,.var _),(1,.var _)] 54 ⟨mU 7 O O,mU 7 O O,aU fun _ _ H K=>R.quoN (i) (4) (eU K 40 O) (kI 4 O) bU bU H,aU (fU 1 O O),aU fun _ _ H K=>R.idxP ((i / 4)) (K 42 _ O) (evoI (eU K 41 O)) O bU H,aU fun _ B H K=>R.ldP (K 43 _ O) (B 1 _ O) (loc_agg (m:=1) O O (loc_arr (map_get! (l:=(pad3 s).h) bU) loc_nil O) bU) O O O H,mU 7 O O,aU fun _ _ H K=>R.remN (i) (4) (eU K 45 O) (kI 4 O) bU H,aU fun _ _ H K=>R.mulN (8) ((i % 4)) (kI 8 O) (eU K 46 O) bU H,aU fun _ _ H K=>R.subN (24) ((8 * (i % 4))) (kI 24 O) (eU K 47 O) bU bU H,aU fun _ _ H K=>R.bin (eU K 44 O) (eU K 48 O) O (show (0 : Int) <= _ from Int.natCast_nonneg _) H,aU fun _ _ H K=>R.conv (eU K 49 O) O H,aU fun _ _ H K=>R.idxP (i) (K 6 _ O) (evoI (eU K 39 O)) O bU H,Zt⟩ O O O O (⟨O,_,R.stZ (gU 51 O) (xU 6 O) (loc_arr (map_get! (l:=(outB (pad3 s).h i)) bU) loc_nil bU) (gV 50 O) (by rfl) (by rfl) (by rfl) (by rfl) (upd_arr (map_get! (l:=(outB (pad3 s).h i)) bU) upd_nil set_map),tV [(1,_),(2,_),(6,_),(36,_)] [(6,.var _),(4,.var _),(2,.var _),(1,.var _)] 54 O O O ?_⟩)
       refine W.l0 2 [.y 52 _,.y 36 _] [] [] [(1,_),(2,_),(6,_),(36,_)] [(6,.var _),(4,.var _),(2,.var _),(1,.var _)] 54 ⟨aU fun _ _ H K=>R.addN (i) (1) (eU K 36 O) (kI 1 O) bU H,mU 52 O O,Zt⟩ O O O O (tU O ?_)
       exact ⟨⟨(i + 1),bU⟩,rfl,(by simp only []; omega)⟩
     · obtain rfl : i = 32:=by omega
       refine W.exit (W.seq ?_)
       refine W.l0 2 [.y 53 _] [] [] [(2,_),(53,_)] [(6,.var _),(4,.var _),(2,.var _),(1,.var _)] 54 ⟨aU (lU 6 O O O O O O O),Zt⟩ O O O O (⟨O,_,R.stZ (gU 2 O) (xU 2 O) O (gV 53 O) (by rfl) (by rfl) (by rfl) (by rfl) O,tV [(2,_)] [(6,.var _),(4,.var _),(2,.var _),(1,.var _)] 54 O O O ?_⟩)
       refine W.ret ?_
       exact Ends.one' (.inr O) O (O) O O (show LdT _ 26 32 true from inferInstance)
theorem sum_ok (b : List UInt8) (hb0 : b.length <= 1073741824) : Fn Tryd.prog gl 49 [.sl none 1 (b.map D.u8)] (hashD (sumS b)):=by
 refine Fn.of (n:=7) Tryd.func49 rfl rfl rfl (nU rfl) fun C hC hD=>?_
 refine W.seq ?_
 refine W.l0 1 [] [] [] [(0,_)] [] 7 Zt O O O O (⟨O,_,R.alloc O (nU O),tV [(0,_),(2,_)] [(2,.var _)] 7 O O O ?_⟩)
 refine W.seq ?_
 refine W.l0 5 [.y 3 _,.y 4 _,.y 5 _,.y 6 _] [] [] [(2,_),(6,_)] [(2,.var _)] 7 ⟨aU fun _ _ H _=>R.callG hC (begin_ok) Bn (FrsR.one (frs_st _)) H,mU 0 O O,aU fun _ _ H K=>R.callG hC (add_ok _ _ ShaS.start_ok hb0) (Bc (Bp (eU K 3 O) O O) (Bc (Bp (eU K 4 O) O O) Bn)) (FrsR.one (frs_st _)) H,aU fun _ _ H K=>R.callG hC (end_ok _ (addS_ok _ _ ShaS.start_ok)) (Bc (Bp (eU K 5 O) O O) Bn) (FrsR.one (frs_hash _)) H,Zt⟩ O O O O (⟨O,_,R.stZ (gU 2 O) (xU 2 O) O (gV 6 O) (by rfl) (by rfl) (by rfl) (by rfl) O,tV [(2,_)] [(2,.var _)] 7 O O O ?_⟩)
 refine W.ret ?_
 exact Ends.one' (.inr O) O (O) O O (show LdT _ 26 32 true from inferInstance)
end Go.Sx

namespace Go.Sx
open Go.Proofs
theorem k_ok : Fn Tryd.prog gl 52 [] (.sl (some 32) 1 (kTab.map D.u32)):=by
 refine Fn.of (n:=2) Tryd.func52 rfl rfl rfl (nU rfl) fun C hC hD=>?_
 refine W.seq ?_
 refine W.l0 1 [.y 0 _] [] [] [] [] 2 ⟨aU fun _ _ H _=>R.asg (kN O) O H,Zt⟩ O O O O (tU O ?_)
 refine W.seq ?_
 refine W.l0 2 [.y 1 _,.y 0 _] [(1,1)] [(1,1)] [(0,_)] [] 2 ⟨aU fun _ _ H _=>R.bslE (z:=1) (.cons (show ev _ _ (.const (.int .u32 1116352408)) = some (.u32 1116352408) from O) (.cons (show ev _ _ (.const (.int .u32 1899447441)) = some (.u32 1899447441) from O) (.cons (show ev _ _ (.const (.int .u32 3049323471)) = some (.u32 3049323471) from O) (.cons (show ev _ _ (.const (.int .u32 3921009573)) = some (.u32 3921009573) from O) (.cons (show ev _ _ (.const (.int .u32 961987163)) = some (.u32 961987163) from O) (.cons (show ev _ _ (.const (.int .u32 1508970993)) = some (.u32 1508970993) from O) (.cons (show ev _ _ (.const (.int .u32 2453635748)) = some (.u32 2453635748) from O) (.cons (show ev _ _ (.const (.int .u32 2870763221)) = some (.u32 2870763221) from O) (.cons (show ev _ _ (.const (.int .u32 3624381080)) = some (.u32 3624381080) from O) (.cons (show ev _ _ (.const (.int .u32 310598401)) = some (.u32 310598401) from O) (.cons (show ev _ _ (.const (.int .u32 607225278)) = some (.u32 607225278) from O) (.cons (show ev _ _ (.const (.int .u32 1426881987)) = some (.u32 1426881987) from O) (.cons (show ev _ _ (.const (.int .u32 1925078388)) = some (.u32 1925078388) from O) (.cons (show ev _ _ (.const (.int .u32 2162078206)) = some (.u32 2162078206) from O) (.cons (show ev _ _ (.const (.int .u32 2614888103)) = some (.u32 2614888103) from O) (.cons (show ev _ _ (.const (.int .u32 3248222580)) = some (.u32 3248222580) from O) (.cons (show ev _ _ (.const (.int .u32 3835390401)) = some (.u32 3835390401) from O) (.cons (show ev _ _ (.const (.int .u32 4022224774)) = some (.u32 4022224774) from O) (.cons (show ev _ _ (.const (.int .u32 264347078)) = some (.u32 264347078) from O) (.cons (show ev _ _ (.const (.int .u32 604807628)) = some (.u32 604807628) from O) (.cons (show ev _ _ (.const (.int .u32 770255983)) = some (.u32 770255983) from O) (.cons (show ev _ _ (.const (.int .u32 1249150122)) = some (.u32 1249150122) from O) (.cons (show ev _ _ (.const (.int .u32 1555081692)) = some (.u32 1555081692) from O) (.cons (show ev _ _ (.const (.int .u32 1996064986)) = some (.u32 1996064986) from O) (.cons (show ev _ _ (.const (.int .u32 2554220882)) = some (.u32 2554220882) from O) (.cons (show ev _ _ (.const (.int .u32 2821834349)) = some (.u32 2821834349) from O) (.cons (show ev _ _ (.const (.int .u32 2952996808)) = some (.u32 2952996808) from O) (.cons (show ev _ _ (.const (.int .u32 3210313671)) = some (.u32 3210313671) from O) (.cons (show ev _ _ (.const (.int .u32 3336571891)) = some (.u32 3336571891) from O) (.cons (show ev _ _ (.const (.int .u32 3584528711)) = some (.u32 3584528711) from O) (.cons (show ev _ _ (.const (.int .u32 113926993)) = some (.u32 113926993) from O) (.cons (show ev _ _ (.const (.int .u32 338241895)) = some (.u32 338241895) from O) (.cons (show ev _ _ (.const (.int .u32 666307205)) = some (.u32 666307205) from O) (.cons (show ev _ _ (.const (.int .u32 773529912)) = some (.u32 773529912) from O) (.cons (show ev _ _ (.const (.int .u32 1294757372)) = some (.u32 1294757372) from O) (.cons (show ev _ _ (.const (.int .u32 1396182291)) = some (.u32 1396182291) from O) (.cons (show ev _ _ (.const (.int .u32 1695183700)) = some (.u32 1695183700) from O) (.cons (show ev _ _ (.const (.int .u32 1986661051)) = some (.u32 1986661051) from O) (.cons (show ev _ _ (.const (.int .u32 2177026350)) = some (.u32 2177026350) from O) (.cons (show ev _ _ (.const (.int .u32 2456956037)) = some (.u32 2456956037) from O) (.cons (show ev _ _ (.const (.int .u32 2730485921)) = some (.u32 2730485921) from O) (.cons (show ev _ _ (.const (.int .u32 2820302411)) = some (.u32 2820302411) from O) (.cons (show ev _ _ (.const (.int .u32 3259730800)) = some (.u32 3259730800) from O) (.cons (show ev _ _ (.const (.int .u32 3345764771)) = some (.u32 3345764771) from O) (.cons (show ev _ _ (.const (.int .u32 3516065817)) = some (.u32 3516065817) from O) (.cons (show ev _ _ (.const (.int .u32 3600352804)) = some (.u32 3600352804) from O) (.cons (show ev _ _ (.const (.int .u32 4094571909)) = some (.u32 4094571909) from O) (.cons (show ev _ _ (.const (.int .u32 275423344)) = some (.u32 275423344) from O) (.cons (show ev _ _ (.const (.int .u32 430227734)) = some (.u32 430227734) from O) (.cons (show ev _ _ (.const (.int .u32 506948616)) = some (.u32 506948616) from O) (.cons (show ev _ _ (.const (.int .u32 659060556)) = some (.u32 659060556) from O) (.cons (show ev _ _ (.const (.int .u32 883997877)) = some (.u32 883997877) from O) (.cons (show ev _ _ (.const (.int .u32 958139571)) = some (.u32 958139571) from O) (.cons (show ev _ _ (.const (.int .u32 1322822218)) = some (.u32 1322822218) from O) (.cons (show ev _ _ (.const (.int .u32 1537002063)) = some (.u32 1537002063) from O) (.cons (show ev _ _ (.const (.int .u32 1747873779)) = some (.u32 1747873779) from O) (.cons (show ev _ _ (.const (.int .u32 1955562222)) = some (.u32 1955562222) from O) (.cons (show ev _ _ (.const (.int .u32 2024104815)) = some (.u32 2024104815) from O) (.cons (show ev _ _ (.const (.int .u32 2227730452)) = some (.u32 2227730452) from O) (.cons (show ev _ _ (.const (.int .u32 2361852424)) = some (.u32 2361852424) from O) (.cons (show ev _ _ (.const (.int .u32 2428436474)) = some (.u32 2428436474) from O) (.cons (show ev _ _ (.const (.int .u32 2756734187)) = some (.u32 2756734187) from O) (.cons (show ev _ _ (.const (.int .u32 3204031479)) = some (.u32 3204031479) from O) (.cons (show ev _ _ (.const (.int .u32 3329325298)) = some (.u32 3329325298) from O) .nil)))))))))))))))))))))))))))))))))))))))))))))))))))))))))))))))) ⟨⟨O,O,O⟩,⟨O,O,O⟩,⟨O,O,O⟩,⟨O,O,O⟩,⟨O,O,O⟩,⟨O,O,O⟩,⟨O,O,O⟩,⟨O,O,O⟩,⟨O,O,O⟩,⟨O,O,O⟩,⟨O,O,O⟩,⟨O,O,O⟩,⟨O,O,O⟩,⟨O,O,O⟩,⟨O,O,O⟩,⟨O,O,O⟩,⟨O,O,O⟩,⟨O,O,O⟩,⟨O,O,O⟩,⟨O,O,O⟩,⟨O,O,O⟩,⟨O,O,O⟩,⟨O,O,O⟩,⟨O,O,O⟩,⟨O,O,O⟩,⟨O,O,O⟩,⟨O,O,O⟩,⟨O,O,O⟩,⟨O,O,O⟩,⟨O,O,O⟩,⟨O,O,O⟩,⟨O,O,O⟩,⟨O,O,O⟩,⟨O,O,O⟩,⟨O,O,O⟩,⟨O,O,O⟩,⟨O,O,O⟩,⟨O,O,O⟩,⟨O,O,O⟩,⟨O,O,O⟩,⟨O,O,O⟩,⟨O,O,O⟩,⟨O,O,O⟩,⟨O,O,O⟩,⟨O,O,O⟩,⟨O,O,O⟩,⟨O,O,O⟩,⟨O,O,O⟩,⟨O,O,O⟩,⟨O,O,O⟩,⟨O,O,O⟩,⟨O,O,O⟩,⟨O,O,O⟩,⟨O,O,O⟩,⟨O,O,O⟩,⟨O,O,O⟩,⟨O,O,O⟩,⟨O,O,O⟩,⟨O,O,O⟩,⟨O,O,O⟩,⟨O,O,O⟩,⟨O,O,O⟩,⟨O,O,O⟩,⟨O,O,O⟩,Zt⟩ O H dU,aU fun _ _ H K=>R.asgO (K 1 _ O) O H dU,Zt⟩ O O O O (tU O ?_)
 refine W.ret ?_
 exact Ends.one' (.inr O) O (O) O O Zt
theorem rright_ok (x : UInt32) (n : UInt64) : Fn Tryd.prog gl 54 [.u32 x,.u64 n] (.u32 (rright x n)):=by
 refine Fn.of (n:=13) Tryd.func54 rfl rfl rfl (nU rfl) fun C hC hD=>?_
 refine W.seq ?_
 refine W.l0 1 [.y 4 _] [] [] [(0,_),(1,_)] [] 13 ⟨aU fun _ _ H _=>R.asg (show ev _ _ (.const (.int .u32 0)) = some (.u32 0) from O) O H,Zt⟩ O O O O (tU O ?_)
 refine W.seq ?_
 refine W.l0 9 [.y 5 _,.y 6 _,.y 7 _,.y 8 _,.y 9 _,.y 10 _,.y 11 _,.y 12 _,.y 4 _] [] [] [(4,_)] [] 13 ⟨mU 0 O O,mU 1 O O,aU fun _ _ H K=>R.bin (eU K 5 O) (eU K 6 O) O bV H,mU 0 O O,mU 1 O O,aU fun _ _ H K=>R.bin (show ev _ _ (.const (.int .u64 32)) = some (.u64 32) from O) (eU K 9 O) O Zt H,aU fun _ _ H K=>R.bin (eU K 8 O) (eU K 10 O) O bV H,aU fun _ _ H K=>R.bin (eU K 7 O) (eU K 11 O) O Zt H,aU fun _ _ H K=>R.asg (eU K 12 O) O H,Zt⟩ O O O O (tU O ?_)
 refine W.ret ?_
 exact Ends.one' (.inr O) O (O) O O Zt
theorem words_ok (p : List UInt8) (hp : p.length = 64) : Fn Tryd.prog gl 53 [.sl none 1 (p.map D.u8)] (.sl (some 32) 1 ((wR p 64).map D.u32)):=by
 refine Fn.of (n:=99) Tryd.func53 rfl rfl rfl (nU rfl) fun C hC hD=>?_
 refine W.seq ?_
 refine W.l0 1 [.y 2 _] [] [] [(0,_)] [] 99 ⟨aU fun _ _ H _=>R.asg (kN O) O H,Zt⟩ O O O O (tU O ?_)
 refine W.seq ?_
 refine W.l0 1 [.y 3 _] [] [] [(0,_),(3,_)] [] 99 ⟨aU fun _ _ H _=>R.asg (kN O) O H,Zt⟩ O O O O (tU O ?_)
 refine W.seq (W.seq ?_)
 refine W.l0 1 [.y 4 _] [] [] [(0,_),(3,_),(4,_)] [] 99 ⟨aU fun _ _ H _=>R.asg (kI 0 O) O H,Zt⟩ O O O O (tU O ?_)
 refine W.block ?_
 refine W.asOwn (s:=3) 32 1 O ?_
 refine W.loop (α:={q__ : Nat // q__ <= 16}) (fun q__=>⟨99,[(0,.sl none 1 (p.map D.u8)),(3,.sl (some 32) 1 ((wR p q__.1).map D.u32)),(4,.int ((q__.1 : Nat) : Int))],[]⟩) (fun q__=>16 - q__.1) ⟨(0),bU⟩ O ?_
 rintro ⟨t,htl⟩
 show W _ _ _ _ ⟨99,[(0,.sl none 1 (p.map D.u8)),(3,.sl (some 32) 1 ((wR p t).map D.u32)),(4,.int ((t : Nat) : Int))],[]⟩
 have hwl:=wR_len p t
 refine W.seq (W.seq ?_)
 refine W.l0 2 [.y 10 _,.y 11 _] [] [] [(0,_),(3,_),(4,_),(11,_)] [] 99 ⟨mU 4 O O,aU fun _ _ H K=>R.lssN (t) (16) (eU K 10 O) (kI 16 O) H,Zt⟩ O O O O (tU O ?_)
 refine W.condD O (fun hc11=>?_) (fun hc11=>?_)
 · refine W.skip (W.seq (W.block ?_))
   refine W.draw (m:=37) (an:=(0 :: 0 :: 0 :: 4 :: 14 :: 30 :: 62 :: 126 :: 0 :: 0 :: 512 :: 1536 :: 3840 :: 7936 :: 16128 :: 32512 :: 65534 :: 0 :: 0 :: 262144 :: 786432 :: 1966080 :: 4063232 :: 8257536 :: 16646144 :: 33554430 :: 0 :: 0 :: 134217728 :: 402653184 :: 1006632960 :: 2080374784 :: 4227858432 :: 8589934590 :: 17179869182 :: 34359738367 :: 68719476735 :: [])) hP dU O (its:=(.y 14 _ :: .y 15 _ :: .y 16 _ :: .y 17 _ :: .y 18 _ :: .y 19 _ :: .y 20 _ :: .y 21 _ :: .y 22 _ :: .y 23 _ :: .y 24 _ :: .y 25 _ :: .y 26 _ :: .y 27 _ :: .y 28 _ :: .y 29 _ :: .y 30 _ :: .y 31 _ :: .y 32 _ :: .y 33 _ :: .y 34 _ :: .y 35 _ :: .y 36 _ :: .y 37 _ :: .y 38 _ :: .y 39 _ :: .y 40 _ :: .y 41 _ :: .y 42 _ :: .y 43 _ :: .y 44 _ :: .y 45 _ :: .y 46 _ :: .y 47 _ :: .y 48 _ :: .y 49 _ :: .y 3 _ :: [])) (ks:=[(35,3),(36,49),(36,14)]) (kk:=[(35,3),(36,49)]) (live:=[0,3,4]) (env':=[(0,_),(3,_),(4,_)]) (⟨nU O,O,⟨aU fun _ _ H K=>R.al (K 3 _ O) H dU,mU 0 O O,mU 4 O O,aU fun _ _ H K=>R.mulN (4) (t) (kI 4 O) (eU K 16 O) bU H,aU fun _ _ H K=>R.idxN ((4 * t)) (SC.sl (K 15 _ O)) (evoI (eU K 17 O)) O bU H dU,aU fun _ _ H K=>R.ldE (K 18 _ O) (SC.sl (K 15 _ O)) (map_get! (l:=p) bU) O O O O H,aU fun _ _ H K=>R.conv (eU K 19 O) O H,aU fun _ _ H K=>R.bin (eU K 20 O) (show ev _ _ (.const (.int .u64 24)) = some (.u64 24) from O) O bV H,mU 0 O O,mU 4 O O,aU fun _ _ H K=>R.mulN (4) (t) (kI 4 O) (eU K 23 O) bU H,aU fun _ _ H K=>R.addN ((4 * t)) (1) (eU K 24 O) (kI 1 O) bU H,aU fun _ _ H K=>R.idxN (((4 * t) + 1)) (SC.sl (K 22 _ O)) (evoI (eU K 25 O)) O bU H dU,aU fun _ _ H K=>R.ldE (K 26 _ O) (SC.sl (K 22 _ O)) (map_get! (l:=p) bU) O O O O H,aU fun _ _ H K=>R.conv (eU K 27 O) O H,aU fun _ _ H K=>R.bin (eU K 28 O) (show ev _ _ (.const (.int .u64 16)) = some (.u64 16) from O) O bV H,aU fun _ _ H K=>R.bin (eU K 21 O) (eU K 29 O) O Zt H,mU 0 O O,mU 4 O O,aU fun _ _ H K=>R.mulN (4) (t) (kI 4 O) (eU K 32 O) bU H,aU fun _ _ H K=>R.addN ((4 * t)) (2) (eU K 33 O) (kI 2 O) bU H,aU fun _ _ H K=>R.idxN (((4 * t) + 2)) (SC.sl (K 31 _ O)) (evoI (eU K 34 O)) O bU H dU,aU fun _ _ H K=>R.ldE (K 35 _ O) (SC.sl (K 31 _ O)) (map_get! (l:=p) bU) O O O O H,aU fun _ _ H K=>R.conv (eU K 36 O) O H,aU fun _ _ H K=>R.bin (eU K 37 O) (show ev _ _ (.const (.int .u64 8)) = some (.u64 8) from O) O bV H,aU fun _ _ H K=>R.bin (eU K 30 O) (eU K 38 O) O Zt H,mU 0 O O,mU 4 O O,aU fun _ _ H K=>R.mulN (4) (t) (kI 4 O) (eU K 41 O) bU H,aU fun _ _ H K=>R.addN ((4 * t)) (3) (eU K 42 O) (kI 3 O) bU H,aU fun _ _ H K=>R.idxN (((4 * t) + 3)) (SC.sl (K 40 _ O)) (evoI (eU K 43 O)) O bU H dU,aU fun _ _ H K=>R.ldE (K 44 _ O) (SC.sl (K 40 _ O)) (map_get! (l:=p) bU) O O O O H,aU fun _ _ H K=>R.conv (eU K 45 O) O H,aU fun _ _ H K=>R.bin (eU K 39 O) (eU K 46 O) O Zt H,aU fun _ _ H K=>R.bslE (z:=1) (.cons (eU K 47 O) .nil) ⟨⟨O,O,O⟩,Zt⟩ O H dU,aU fun _ _ H K=>R.appE (Or.inr (K 14 _ O)) (K 3 _ O) (SrcO.sc (SC.sl (K 48 _ O)) (pur_lit O)) (app_one) bU H dU dU,aU fun _ _ H K=>R.asgO (K 49 _ O) O H dU,Zt⟩,O,O,O⟩) O (bx':=[]) O (n':=99) O (tV [(0,_),(3,_),(4,_)] [] 99 O O O ?_)
   refine W.l0 3 [.y 12 _,.y 13 _,.y 4 _] [] [] [(0,_),(3,_),(4,_)] [] 99 ⟨mU 4 O O,aU fun _ _ H K=>R.addN (t) (1) (eU K 12 O) (kI 1 O) bU H,aU fun _ _ H K=>R.asg (eU K 13 O) O H,Zt⟩ O O O O (tU O ?_)
   exact ⟨⟨(t + 1),bU⟩,(by simp only [wR]; rw [if_pos hc11]; rfl),(by simp only []; omega)⟩
 · obtain rfl : t = 16:=by omega
   refine W.exit (W.seq (W.seq ?_))
   refine W.l0 1 [.y 5 _] [] [] [(3,_),(5,_)] [] 99 ⟨aU fun _ _ H _=>R.asg (kI 16 O) O H,Zt⟩ O O O O (tU O ?_)
   refine W.block ?_
   refine W.loop (α:={q__ : Nat // 16 <= q__ /\ q__ <= 64}) (fun q__=>⟨99,[(3,.sl (some 32) 1 ((wR p q__.1).map D.u32)),(5,.int ((q__.1 : Nat) : Int))],[]⟩) (fun q__=>64 - q__.1) ⟨(16),bU⟩ O ?_
   rintro ⟨t,⟨ht16,htl⟩⟩
   show W _ _ _ _ ⟨99,[(3,.sl (some 32) 1 ((wR p t).map D.u32)),(5,.int ((t : Nat) : Int))],[]⟩
   have hwl:=wR_len p t
   refine W.seq (W.seq ?_)
   refine W.l0 2 [.y 50 _,.y 51 _] [] [] [(3,_),(5,_),(51,_)] [] 99 ⟨mU 5 O O,aU fun _ _ H K=>R.lssN (t) (64) (eU K 50 O) (kI 64 O) H,Zt⟩ O O O O (tU O ?_)
   refine W.condD O (fun hc51=>?_) (fun hc51=>?_)
   · refine W.skip (W.seq (W.block (W.seq ?_)))
     refine W.l0 6 [.y 54 _,.y 55 _,.y 56 _,.y 57 _,.y 58 _,.y 6 _] [] [] [(3,_),(5,_),(6,_)] [] 99 ⟨aU fun _ _ H K=>R.al (K 3 _ O) H dU,mU 5 O O,aU fun _ _ H K=>R.subN (t) (15) (eU K 55 O) (kI 15 O) bU bU H,aU fun _ _ H K=>R.idxN ((t - 15)) (SC.al (K 54 _ O) (K 3 _ O)) (evoI (eU K 56 O)) O bU H dU,aU fun _ _ H K=>R.ldE (K 57 _ O) (SC.al (K 54 _ O) (K 3 _ O)) (map_get! (l:=(wR p t)) bU) O O O O H,aU fun _ _ H K=>R.asg (eU K 58 O) O H,Zt⟩ O O O O (tU O ?_)
     refine W.seq ?_
     refine W.l0 6 [.y 59 _,.y 60 _,.y 61 _,.y 62 _,.y 63 _,.y 7 _] [] [] [(3,_),(5,_),(6,_),(7,_)] [] 99 ⟨aU fun _ _ H K=>R.al (K 3 _ O) H dU,mU 5 O O,aU fun _ _ H K=>R.subN (t) (2) (eU K 60 O) (kI 2 O) bU bU H,aU fun _ _ H K=>R.idxN ((t - 2)) (SC.al (K 59 _ O) (K 3 _ O)) (evoI (eU K 61 O)) O bU H dU,aU fun _ _ H K=>R.ldE (K 62 _ O) (SC.al (K 59 _ O) (K 3 _ O)) (map_get! (l:=(wR p t)) bU) O O O O H,aU fun _ _ H K=>R.asg (eU K 63 O) O H,Zt⟩ O O O O (tU O ?_)
     refine W.seq ?_
     refine W.l0 9 [.y 64 _,.y 65 _,.y 66 _,.y 67 _,.y 68 _,.y 69 _,.y 70 _,.y 71 _,.y 8 _] [] [] [(3,_),(5,_),(7,_),(8,_)] [] 99 ⟨mU 6 O O,aU fun _ _ H K=>R.callG hC (rright_ok _ _) (Bc (Bp (eU K 64 O) O O) (Bc (Bp (show ev _ _ (.const (.int .u64 7)) = some (.u64 7) from O) O O) Bn)) (FrsR.one (.u32 _)) H,mU 6 O O,aU fun _ _ H K=>R.callG hC (rright_ok _ _) (Bc (Bp (eU K 66 O) O O) (Bc (Bp (show ev _ _ (.const (.int .u64 18)) = some (.u64 18) from O) O O) Bn)) (FrsR.one (.u32 _)) H,aU fun _ _ H K=>R.bin (eU K 65 O) (eU K 67 O) O Zt H,mU 6 O O,aU fun _ _ H K=>R.bin (eU K 69 O) (show ev _ _ (.const (.int .u64 3)) = some (.u64 3) from O) O bV H,aU fun _ _ H K=>R.bin (eU K 68 O) (eU K 70 O) O Zt H,aU fun _ _ H K=>R.asg (eU K 71 O) O H,Zt⟩ O O O O (tU O ?_)
     refine W.seq ?_
     refine W.l0 9 [.y 72 _,.y 73 _,.y 74 _,.y 75 _,.y 76 _,.y 77 _,.y 78 _,.y 79 _,.y 9 _] [] [] [(3,_),(5,_),(8,_),(9,_)] [] 99 ⟨mU 7 O O,aU fun _ _ H K=>R.callG hC (rright_ok _ _) (Bc (Bp (eU K 72 O) O O) (Bc (Bp (show ev _ _ (.const (.int .u64 17)) = some (.u64 17) from O) O O) Bn)) (FrsR.one (.u32 _)) H,mU 7 O O,aU fun _ _ H K=>R.callG hC (rright_ok _ _) (Bc (Bp (eU K 74 O) O O) (Bc (Bp (show ev _ _ (.const (.int .u64 19)) = some (.u64 19) from O) O O) Bn)) (FrsR.one (.u32 _)) H,aU fun _ _ H K=>R.bin (eU K 73 O) (eU K 75 O) O Zt H,mU 7 O O,aU fun _ _ H K=>R.bin (eU K 77 O) (show ev _ _ (.const (.int .u64 10)) = some (.u64 10) from O) O bV H,aU fun _ _ H K=>R.bin (eU K 76 O) (eU K 78 O) O Zt H,aU fun _ _ H K=>R.asg (eU K 79 O) O H,Zt⟩ O O O O (tU O ?_)
     refine W.draw (m:=19) (an:=[0,0,0,0,8,28,60,126,0,510,0,0,2048,7168,15360,32766,65534,131071,262143]) hP dU O (its:=[.y 80 _,.y 81 _,.y 82 _,.y 83 _,.y 84 _,.y 85 _,.y 86 _,.y 87 _,.y 88 _,.y 89 _,.y 90 _,.y 91 _,.y 92 _,.y 93 _,.y 94 _,.y 95 _,.y 96 _,.y 97 _,.y 3 _]) (ks:=[(17,3),(18,97),(18,80),(18,82),(18,90)]) (kk:=[(17,3),(18,97)]) (live:=[3,5]) (env':=[(3,_),(5,_)]) (⟨nU O,O,⟨aU fun _ _ H K=>R.al (K 3 _ O) H dU,mU 9 O O,aU fun _ _ H K=>R.al (K 3 _ O) H dU,mU 5 O O,aU fun _ _ H K=>R.subN (t) (7) (eU K 83 O) (kI 7 O) bU bU H,aU fun _ _ H K=>R.idxN ((t - 7)) (SC.al (K 82 _ O) (K 3 _ O)) (evoI (eU K 84 O)) O bU H dU,aU fun _ _ H K=>R.ldE (K 85 _ O) (SC.al (K 82 _ O) (K 3 _ O)) (map_get! (l:=(wR p t)) bU) O O O O H,aU fun _ _ H K=>R.bin (eU K 81 O) (eU K 86 O) O Zt H,mU 8 O O,aU fun _ _ H K=>R.bin (eU K 87 O) (eU K 88 O) O Zt H,aU fun _ _ H K=>R.al (K 3 _ O) H dU,mU 5 O O,aU fun _ _ H K=>R.subN (t) (16) (eU K 91 O) (kI 16 O) bU bU H,aU fun _ _ H K=>R.idxN ((t - 16)) (SC.al (K 90 _ O) (K 3 _ O)) (evoI (eU K 92 O)) O bU H dU,aU fun _ _ H K=>R.ldE (K 93 _ O) (SC.al (K 90 _ O) (K 3 _ O)) (map_get! (l:=(wR p t)) bU) O O O O H,aU fun _ _ H K=>R.bin (eU K 89 O) (eU K 94 O) O Zt H,aU fun _ _ H K=>R.bslE (z:=1) (.cons (eU K 95 O) .nil) ⟨⟨O,O,O⟩,Zt⟩ O H dU,aU fun _ _ H K=>R.appE (Or.inr (K 80 _ O)) (K 3 _ O) (SrcO.sc (SC.sl (K 96 _ O)) (pur_lit O)) (app_one) bU H dU dU,aU fun _ _ H K=>R.asgO (K 97 _ O) O H dU,Zt⟩,O,O,O⟩) O (bx':=[]) O (n':=99) O (tV [(3,_),(5,_)] [] 99 O O O ?_)
     refine W.l0 3 [.y 52 _,.y 53 _,.y 5 _] [] [] [(3,_),(5,_)] [] 99 ⟨mU 5 O O,aU fun _ _ H K=>R.addN (t) (1) (eU K 52 O) (kI 1 O) bU H,aU fun _ _ H K=>R.asg (eU K 53 O) O H,Zt⟩ O O O O (tU O ?_)
     exact ⟨⟨(t + 1),bU⟩,(by simp only [wR]; rw [if_neg (by omega)]; rfl),(by simp only []; omega)⟩
   · obtain rfl : t = 64:=by omega
     refine W.exit (W.seq ?_)
     refine W.l0 2 [.y 98 _,.y 2 _] [(0,3),(1,98)] [(0,3),(1,98)] [(2,_)] [] 99 ⟨aU fun _ _ H K=>R.movO (K 3 _ O) O H dU,aU fun _ _ H K=>R.asgO (K 98 _ O) O H dU,Zt⟩ O O O O (tU O ?_)
     refine W.ret ?_
     exact Ends.one' (.inr O) O (O) O O Zt
theorem text_ok (b : List UInt8) (hb0 : b.length <= 1000000000) : Fn Tryd.prog gl 51 [.sl none 1 (b.map D.u8)] (.sl (some 5) 1 ((textR b).map D.u8)):=by
 refine Fn.of (n:=37) Tryd.func51 rfl rfl rfl (nU rfl) fun C hC hD=>?_
 refine W.seq ?_
 refine W.l0 1 [.y 2 _] [] [] [(0,_)] [] 37 ⟨aU fun _ _ H _=>R.asg (kN O) O H,Zt⟩ O O O O (tU O ?_)
 refine W.seq ?_
 refine W.l0 4 [.y 6 _,.y 7 _,.y 8 _,.y 3 _] [(2,6),(3,8)] [(2,6),(3,8)] [(0,_),(3,_)] [] 37 ⟨aU fun _ _ H _=>R.bslE .nil Zt O H dU,mU 0 O O,aU fun _ _ H K=>R.appE (Or.inl O) (K 6 _ O) (SrcO.sc (SC.sl (K 7 _ O)) (pur_map (fun _=>rfl))) (List.nil_append _) bU H dU dU,aU fun _ _ H K=>R.asgO (K 8 _ O) O H dU,Zt⟩ O O O O (tU O ?_)
 refine W.seq ?_
 refine W.l0 4 [.y 9 _,.y 10 _,.y 11 _,.y 3 _] [(2,3),(3,11),(3,9)] [(2,3),(3,11)] [(0,_),(3,_)] [] 37 ⟨aU fun _ _ H K=>R.al (K 3 _ O) H dU,aU fun _ _ H _=>R.bslE (z:=1) (.cons (show ev _ _ (.const (.int .u8 128)) = some (.u8 128) from O) .nil) ⟨⟨O,O,O⟩,Zt⟩ O H dU,aU fun _ _ H K=>R.appE (Or.inr (K 9 _ O)) (K 3 _ O) (SrcO.sc (SC.sl (K 10 _ O)) (pur_lit O)) (app_one) bU H dU dU,aU fun _ _ H K=>R.asgO (K 11 _ O) O H dU,Zt⟩ O O O O (tU O ?_)
 refine W.seq (W.block ?_)
 refine W.loop (α:={q__ : Nat // q__ <= zR b}) (fun q__=>⟨37,[(0,.sl none 1 (b.map D.u8)),(3,.sl (some 5) 1 ((b ++ [128] ++ List.replicate q__.1 0).map D.u8))],[]⟩) (fun q__=>zR b - q__.1) ⟨(0),bU⟩ (by simp) ?_
 rintro ⟨z,hz⟩
 show W _ _ _ _ ⟨37,[(0,.sl none 1 (b.map D.u8)),(3,.sl (some 5) 1 ((b ++ [128] ++ List.replicate z 0).map D.u8))],[]⟩
 have hz0 : zR b <= 63:=by unfold zR; omega
 refine W.seq (W.seq ?_)
 refine W.l0 4 [.y 12 _,.y 13 _,.y 14 _,.y 15 _] [] [] [(0,_),(3,_),(15,_)] [] 37 ⟨aU fun _ _ H K=>R.al (K 3 _ O) H dU,aU fun _ _ H K=>R.lenE (SC.al (K 12 _ O) (K 3 _ O)) (lN _) H,aU fun _ _ H K=>R.remN ((b ++ [128] ++ List.replicate z 0).length) (64) (eU K 13 O) (kI 64 O) (by (first | decide | omega)) H,aU fun _ _ H K=>R.neqN (((b ++ [128] ++ List.replicate z 0).length % 64)) (56) (eU K 14 O) (kI 56 O) H,Zt⟩ O O O O (tU O ?_)
 refine W.condD O (fun hc15=>?_) (fun hc15=>?_)
 · refine W.skip (W.block ?_)
   refine W.l0 4 [.y 16 _,.y 17 _,.y 18 _,.y 3 _] [(2,3),(3,18),(3,16)] [(2,3),(3,18)] [(0,_),(3,_)] [] 37 ⟨aU fun _ _ H K=>R.al (K 3 _ O) H dU,aU fun _ _ H _=>R.bslE (z:=1) (.cons (show ev _ _ (.const (.int .u8 0)) = some (.u8 0) from O) .nil) ⟨⟨O,O,O⟩,Zt⟩ O H dU,aU fun _ _ H K=>R.appE (Or.inr (K 16 _ O)) (K 3 _ O) (SrcO.sc (SC.sl (K 17 _ O)) (pur_lit O)) (app_one) bU H dU dU,aU fun _ _ H K=>R.asgO (K 18 _ O) O H dU,Zt⟩ O O O O (tU O ?_)
   exact ⟨⟨(z + 1),(by simp only [List.length_append,List.length_replicate,List.length_singleton] at hc15; unfold zR at *; omega)⟩,(by rw [List.replicate_succ',<- List.append_assoc]),(by simp only [List.length_append,List.length_replicate,List.length_singleton] at hc15; unfold zR at *; simp only []; omega)⟩
 · obtain rfl : z = zR b:=by simp only [List.length_append,List.length_replicate,List.length_singleton,ne_eq,Classical.not_not] at hc15; unfold zR at *; omega
   refine W.exit (W.seq ?_)
   refine W.l0 5 [.y 19 _,.y 20 _,.y 21 _,.y 22 _,.y 4 _] [] [] [(3,_),(4,_)] [] 37 ⟨mU 0 O O,aU fun _ _ H K=>R.lenE (SC.sl (K 19 _ O)) (lN _) H,aU fun _ _ H K=>R.conv (eU K 20 O) O H,aU fun _ _ H K=>R.bin (eU K 21 O) (show ev _ _ (.const (.int .u64 8)) = some (.u64 8) from O) O Zt H,aU fun _ _ H K=>R.asg (eU K 22 O) O H,Zt⟩ O O O O (tU O ?_)
   refine W.seq (W.seq ?_)
   refine W.l0 1 [.y 5 _] [] [] [(3,_),(4,_),(5,_)] [] 37 ⟨aU fun _ _ H _=>R.asg (kI 7 O) O H,Zt⟩ O O O O (tU O ?_)
   refine W.block ?_
   refine W.loop (α:={q__ : Nat // q__ <= 8}) (fun q__=>⟨37,[(3,.sl (some 5) 1 ((b ++ [128] ++ List.replicate (zR b) 0 ++ tailR (bitsR b) q__.1).map D.u8)),(4,.u64 (bitsR b)),(5,.int (7 - ((q__.1 : Nat) : Int)))],[]⟩) (fun q__=>8 - q__.1) ⟨(0),bU⟩ (by simp [tailR]; rfl) ?_
   rintro ⟨j,hj⟩
   show W _ _ _ _ ⟨37,[(3,.sl (some 5) 1 ((b ++ [128] ++ List.replicate (zR b) 0 ++ tailR (bitsR b) j).map D.u8)),(4,.u64 (bitsR b)),(5,.int (7 - ((j : Nat) : Int)))],[]⟩
   have htl:=tailR_len (bitsR b) j
   have hz1 : zR b <= 63:=by unfold zR; omega
   refine W.seq (W.seq ?_)
   refine W.l0 2 [.y 23 _,.y 24 _] [] [] [(3,_),(4,_),(5,_),(24,_)] [] 37 ⟨mU 5 O O,aU fun _ _ H K=>R.bin (eU K 23 O) (kI 0 O) O Zt H,Zt⟩ O O O O (tU O ?_)
   refine W.cond O (fun hc24=>?_) (fun hc24=>?_)
   · refine W.skip (W.seq (W.block ?_))
     refine W.l0 10 [.y 27 _,.y 28 _,.y 29 _,.y 30 _,.y 31 _,.y 32 _,.y 33 _,.y 34 _,.y 35 _,.y 3 _] [(8,3),(9,35),(9,27)] [(8,3),(9,35)] [(3,_),(4,_),(5,_)] [] 37 ⟨aU fun _ _ H K=>R.al (K 3 _ O) H dU,mU 4 O O,mU 5 O O,aU fun _ _ H K=>R.bin (kI 8 O) (eU K 29 O) O Zt H,aU fun _ _ H K=>R.conv (eU K 30 O) O H,aU fun _ _ H K=>R.bin (eU K 28 O) (eU K 31 O) O bV H,aU fun _ _ H K=>R.conv (eU K 32 O) O H,aU fun _ _ H K=>R.bslE (z:=1) (.cons (eU K 33 O) .nil) ⟨⟨O,O,O⟩,Zt⟩ O H dU,aU fun _ _ H K=>R.appE (Or.inr (K 27 _ O)) (K 3 _ O) (SrcO.sc (SC.sl (K 34 _ O)) (pur_lit O)) (app_one) bU H dU dU,aU fun _ _ H K=>R.asgO (K 35 _ O) O H dU,Zt⟩ O O O O (tU O ?_)
     refine W.l0 3 [.y 25 _,.y 26 _,.y 5 _] [] [] [(3,_),(4,_),(5,_)] [] 37 ⟨mU 5 O O,aU fun _ _ H K=>R.binE (d:=.int (7 - ((j + 1 : Nat) : Int))) (eU K 25 O) (kI 1 O) O Zt (wr_eq (by omega) (by omega) (by omega)) H,aU fun _ _ H K=>R.asg (eU K 26 O) O H,Zt⟩ O O O O (tU O ?_)
     exact ⟨⟨(j + 1),(by have:=of_decide_eq_true hc24; omega)⟩,(by simp only [tailR,<- List.append_assoc]; rfl),(by have:=of_decide_eq_true hc24; simp only []; omega)⟩
   · obtain rfl : j = 8:=by have:=of_decide_eq_false hc24; omega
     refine W.exit (W.seq ?_)
     refine W.l0 2 [.y 36 _,.y 2 _] [(0,3),(1,36)] [(0,3),(1,36)] [(2,_)] [] 37 ⟨aU fun _ _ H K=>R.movO (K 3 _ O) O H dU,aU fun _ _ H K=>R.asgO (K 36 _ O) O H dU,Zt⟩ O O O O (tU O ?_)
     refine W.ret ?_
     exact Ends.one' (.inr O) O (O) O O Zt
theorem rsum_ok (b : List UInt8) (hb0 : b.length <= 1000000000) : Fn Tryd.prog gl 29 [.sl none 1 (b.map D.u8)] (hashD (sumR b)):=by
 refine Fn.of (n:=171) Tryd.func29 rfl rfl rfl (nU rfl) fun C hC hD=>?_
 refine W.seq ?_
 refine W.l0 1 [] [] [] [(0,_)] [] 171 Zt O O O O (⟨O,_,R.alloc O (nU O),tV [(0,_),(2,_)] [(2,.var _)] 171 O O O ?_⟩)
 refine W.seq ?_
 refine W.l0 2 [.y 19 _,.y 3 _] [(1,19)] [(1,19)] [(0,_),(2,_),(3,_)] [(2,.var _)] 171 ⟨aU fun _ _ H _=>R.bslE (z:=1) (.cons (show ev _ _ (.const (.int .u32 1779033703)) = some (.u32 1779033703) from O) (.cons (show ev _ _ (.const (.int .u32 3144134277)) = some (.u32 3144134277) from O) (.cons (show ev _ _ (.const (.int .u32 1013904242)) = some (.u32 1013904242) from O) (.cons (show ev _ _ (.const (.int .u32 2773480762)) = some (.u32 2773480762) from O) (.cons (show ev _ _ (.const (.int .u32 1359893119)) = some (.u32 1359893119) from O) (.cons (show ev _ _ (.const (.int .u32 2600822924)) = some (.u32 2600822924) from O) (.cons (show ev _ _ (.const (.int .u32 528734635)) = some (.u32 528734635) from O) (.cons (show ev _ _ (.const (.int .u32 1541459225)) = some (.u32 1541459225) from O) .nil)))))))) ⟨⟨O,O,O⟩,⟨O,O,O⟩,⟨O,O,O⟩,⟨O,O,O⟩,⟨O,O,O⟩,⟨O,O,O⟩,⟨O,O,O⟩,⟨O,O,O⟩,Zt⟩ O H dU,aU fun _ _ H K=>R.asgO (K 19 _ O) O H dU,Zt⟩ O O O O (tU O ?_)
 refine W.seq ?_
 refine W.l0 3 [.y 20 _,.y 21 _,.y 4 _] [(2,21)] [(2,21)] [(2,_),(3,_),(4,_)] [(2,.var _)] 171 ⟨mU 0 O O,aU fun _ _ H K=>R.callG hC (text_ok b hb0) (Bc (Bp (eU K 20 O) O O) Bn) (FrsR.one (.sl _ _ _ (frs_map fun _=>.u8 _))) H,aU fun _ _ H K=>R.asgO (K 21 _ O) O H dU,Zt⟩ O O O O (tU O ?_)
 refine W.seq ?_
 refine W.l0 2 [.y 22 _,.y 5 _] [(1,22)] [(1,22)] [(2,_),(3,_),(4,_),(5,_)] [(2,.var _)] 171 ⟨aU fun _ _ H _=>R.callG hC (k_ok) Bn (FrsR.one (.sl _ _ _ (frs_map fun _=>.u32 _))) H,aU fun _ _ H K=>R.asgO (K 22 _ O) O H dU,Zt⟩ O O O O (tU O ?_)
 refine W.seq (W.seq ?_)
 refine W.l0 1 [.y 6 _] [] [] [(2,_),(3,_),(4,_),(5,_),(6,_)] [(2,.var _)] 171 ⟨aU fun _ _ H _=>R.asg (kI 0 O) O H,Zt⟩ O O O O (tU O ?_)
 refine W.block ?_
 refine W.loop (α:={q__ : Nat // q__ <= pieces b}) (fun q__=>⟨171,[(2,.ptr 2 0 []),(3,.sl (some 32) 1 ((hR (textR b) q__.1).map D.u32)),(4,.sl (some 5) 1 ((textR b).map D.u8)),(5,.sl (some 32) 1 (kTab.map D.u32)),(6,.int ((64 * q__.1 : Nat) : Int))],[(2,.var (hashD (List.replicate 32 0)))]⟩) (fun q__=>pieces b - q__.1) ⟨(0),bU⟩ O ?_
 rintro ⟨m,hm⟩
 show W _ _ _ _ ⟨171,[(2,.ptr 2 0 []),(3,.sl (some 32) 1 ((hR (textR b) m).map D.u32)),(4,.sl (some 5) 1 ((textR b).map D.u8)),(5,.sl (some 32) 1 (kTab.map D.u32)),(6,.int ((64 * m : Nat) : Int))],[(2,.var (hashD (List.replicate 32 0)))]⟩
 have htp:=textR_pieces b
 have htl:=textR_len b
 have hz1 : zR b <= 63:=by unfold zR; omega
 have hhl:=hR_len (textR b) m
 refine W.seq (W.seq ?_)
 refine W.l0 4 [.y 23 _,.y 24 _,.y 25 _,.y 26 _] [] [] [(2,_),(3,_),(4,_),(5,_),(6,_),(26,_)] [(2,.var _)] 171 ⟨mU 6 O O,aU fun _ _ H K=>R.al (K 4 _ O) H dU,aU fun _ _ H K=>R.lenE (SC.al (K 24 _ O) (K 4 _ O)) (lN _) H,aU fun _ _ H K=>R.lssN (64 * m) ((textR b).length) (eU K 23 O) (eU K 25 O) H,Zt⟩ O O O O (tU O ?_)
 refine W.condD O (fun hc26=>?_) (fun hc26=>?_)
 · refine W.skip (W.seq (W.block (W.seq ?_)))
   refine W.l0 7 [.y 29 _,.y 30 _,.y 31 _,.y 32 _,.y 33 _,.y 34 _,.y 7 _] [(6,34)] [(6,34)] [(2,_),(3,_),(4,_),(5,_),(6,_),(7,_)] [(2,.var _)] 171 ⟨aU fun _ _ H K=>R.al (K 4 _ O) H dU,mU 6 O O,mU 6 O O,aU fun _ _ H K=>R.addN (64 * m) (64) (eU K 31 O) (kI 64 O) bU H,aU fun _ _ H K=>R.slVN (64 * m) ((64 * m + 64)) (64) (SC.al (K 29 _ O) (K 4 _ O)) (evoI (eU K 30 O)) (evoI (eU K 32 O)) O O bU bU bU H dU,aU fun _ _ H K=>R.callG hC (words_ok (((textR b).drop (64 * m)).take 64) (by simp only [List.length_take,List.length_drop]; omega)) (Bc (Bor.sc (SC.vw (K 33 _ O) (SC.al (K 29 _ O) (K 4 _ O)) (by simp only [List.length_map]; omega)) (brw_part (fun _=>rfl))) Bn) (FrsR.one (.sl _ _ _ (frs_map fun _=>.u32 _))) H,aU fun _ _ H K=>R.asgO (K 34 _ O) O H dU,Zt⟩ O O O O (tU O ?_)
   refine W.seq ?_
   refine W.l0 4 [.y 35 _,.y 36 _,.y 37 _,.y 8 _] [(2,35),(3,37)] [(2,35),(3,37)] [(2,_),(3,_),(4,_),(5,_),(6,_),(7,_),(8,_)] [(2,.var _)] 171 ⟨aU fun _ _ H _=>R.bslE .nil Zt O H dU,aU fun _ _ H K=>R.al (K 3 _ O) H dU,aU fun _ _ H K=>R.appE (Or.inl O) (K 35 _ O) (SrcO.sc (SC.al (K 36 _ O) (K 3 _ O)) (pur_map (fun _=>rfl))) (List.nil_append _) bU H dU dU,aU fun _ _ H K=>R.asgO (K 37 _ O) O H dU,Zt⟩ O O O O (tU O ?_)
   refine W.seq (W.seq ?_)
   refine W.l0 1 [.y 9 _] [] [] [(2,_),(3,_),(4,_),(5,_),(6,_),(7,_),(8,_),(9,_)] [(2,.var _)] 171 ⟨aU fun _ _ H _=>R.asg (kI 0 O) O H,Zt⟩ O O O O (tU O ?_)
   refine W.block ?_
   refine W.loop (α:={q__ : Nat // q__ <= 64}) (fun q__=>⟨171,[(2,.ptr 2 0 []),(3,.sl (some 32) 1 ((hR (textR b) m).map D.u32)),(4,.sl (some 5) 1 ((textR b).map D.u8)),(5,.sl (some 32) 1 (kTab.map D.u32)),(6,.int ((64 * m : Nat) : Int)),(7,.sl (some 32) 1 ((wR (((textR b).drop (64 * m)).take 64) 64).map D.u32)),(8,.sl (some 32) 1 ((rdsR (hR (textR b) m) (wR (((textR b).drop (64 * m)).take 64) 64) q__.1).map D.u32)),(9,.int ((q__.1 : Nat) : Int))],[(2,.var (hashD (List.replicate 32 0)))]⟩) (fun q__=>64 - q__.1) ⟨(0),bU⟩ O ?_
   rintro ⟨t,ht⟩
   show W _ _ _ _ ⟨171,[(2,.ptr 2 0 []),(3,.sl (some 32) 1 ((hR (textR b) m).map D.u32)),(4,.sl (some 5) 1 ((textR b).map D.u8)),(5,.sl (some 32) 1 (kTab.map D.u32)),(6,.int ((64 * m : Nat) : Int)),(7,.sl (some 32) 1 ((wR (((textR b).drop (64 * m)).take 64) 64).map D.u32)),(8,.sl (some 32) 1 ((rdsR (hR (textR b) m) (wR (((textR b).drop (64 * m)).take 64) 64) t).map D.u32)),(9,.int ((t : Nat) : Int))],[(2,.var (hashD (List.replicate 32 0)))]⟩
   have hwl:=wR_len (((textR b).drop (64 * m)).take 64) 64
   have hkl : kTab.length = 64:=rfl
   have hrl:=rdsR_len (hR (textR b) m) (wR (((textR b).drop (64 * m)).take 64) 64) t hhl
   refine W.seq (W.seq ?_)
   refine W.l0 2 [.y 38 _,.y 39 _] [] [] [(2,_),(3,_),(4,_),(5,_),(6,_),(7,_),(8,_),(9,_),(39,_)] [(2,.var _)] 171 ⟨mU 9 O O,aU fun _ _ H K=>R.lssN (t) (64) (eU K 38 O) (kI 64 O) H,Zt⟩ O O O O (tU O ?_)
   refine W.condD O (fun hc39=>?_) (fun hc39=>?_)
   · refine W.skip (W.seq (W.block (W.seq ?_)))
     refine W.l0 4 [.y 42 _,.y 43 _,.y 44 _,.y 10 _] [] [] [(2,_),(3,_),(4,_),(5,_),(6,_),(7,_),(8,_),(9,_),(10,_)] [(2,.var _)] 171 ⟨aU fun _ _ H K=>R.al (K 8 _ O) H dU,aU fun _ _ H K=>R.idxN (0) (SC.al (K 42 _ O) (K 8 _ O)) (evoI (kI 0 O)) O bU H dU,aU fun _ _ H K=>R.ldE (K 43 _ O) (SC.al (K 42 _ O) (K 8 _ O)) (map_get! (l:=(rdsR (hR (textR b) m) (wR (((textR b).drop (64 * m)).take 64) 64) t)) bU) O O O O H,aU fun _ _ H K=>R.asg (eU K 44 O) O H,Zt⟩ O O O O (tU O ?_)
     refine W.seq ?_
     refine W.l0 4 [.y 45 _,.y 46 _,.y 47 _,.y 11 _] [] [] [(2,_),(3,_),(4,_),(5,_),(6,_),(7,_),(8,_),(9,_),(10,_),(11,_)] [(2,.var _)] 171 ⟨aU fun _ _ H K=>R.al (K 8 _ O) H dU,aU fun _ _ H K=>R.idxN (4) (SC.al (K 45 _ O) (K 8 _ O)) (evoI (kI 4 O)) O bU H dU,aU fun _ _ H K=>R.ldE (K 46 _ O) (SC.al (K 45 _ O) (K 8 _ O)) (map_get! (l:=(rdsR (hR (textR b) m) (wR (((textR b).drop (64 * m)).take 64) 64) t)) bU) O O O O H,aU fun _ _ H K=>R.asg (eU K 47 O) O H,Zt⟩ O O O O (tU O ?_)
     refine W.seq ?_
     refine W.l0 9 [.y 48 _,.y 49 _,.y 50 _,.y 51 _,.y 52 _,.y 53 _,.y 54 _,.y 55 _,.y 12 _] [] [] [(2,_),(3,_),(4,_),(5,_),(6,_),(7,_),(8,_),(9,_),(10,_),(11,_),(12,_)] [(2,.var _)] 171 ⟨mU 11 O O,aU fun _ _ H K=>R.callG hC (rright_ok _ _) (Bc (Bp (eU K 48 O) O O) (Bc (Bp (show ev _ _ (.const (.int .u64 6)) = some (.u64 6) from O) O O) Bn)) (FrsR.one (.u32 _)) H,mU 11 O O,aU fun _ _ H K=>R.callG hC (rright_ok _ _) (Bc (Bp (eU K 50 O) O O) (Bc (Bp (show ev _ _ (.const (.int .u64 11)) = some (.u64 11) from O) O O) Bn)) (FrsR.one (.u32 _)) H,aU fun _ _ H K=>R.bin (eU K 49 O) (eU K 51 O) O Zt H,mU 11 O O,aU fun _ _ H K=>R.callG hC (rright_ok _ _) (Bc (Bp (eU K 53 O) O O) (Bc (Bp (show ev _ _ (.const (.int .u64 25)) = some (.u64 25) from O) O O) Bn)) (FrsR.one (.u32 _)) H,aU fun _ _ H K=>R.bin (eU K 52 O) (eU K 54 O) O Zt H,aU fun _ _ H K=>R.asg (eU K 55 O) O H,Zt⟩ O O O O (tU O ?_)
     refine W.seq ?_
     refine W.draw (m:=29) (an:=(0 :: 1 :: 3 :: 0 :: 15 :: 0 :: 0 :: 64 :: 192 :: 480 :: 0 :: 1024 :: 0 :: 4096 :: 12288 :: 31744 :: 65504 :: 131071 :: 0 :: 0 :: 786432 :: 1835008 :: 4194303 :: 0 :: 0 :: 25165824 :: 58720256 :: 134217727 :: 268435455 :: [])) hP dU O (its:=(.y 56 _ :: .y 57 _ :: .y 58 _ :: .y 59 _ :: .y 60 _ :: .y 61 _ :: .y 62 _ :: .y 63 _ :: .y 64 _ :: .y 65 _ :: .y 66 _ :: .y 67 _ :: .y 68 _ :: .y 69 _ :: .y 70 _ :: .y 71 _ :: .y 72 _ :: .y 73 _ :: .y 74 _ :: .y 75 _ :: .y 76 _ :: .y 77 _ :: .y 78 _ :: .y 79 _ :: .y 80 _ :: .y 81 _ :: .y 82 _ :: .y 83 _ :: .y 13 _ :: [])) (ks:=[]) (kk:=[]) (live:=[2,3,4,5,6,7,8,9,10,11,13]) (env':=[(2,_),(3,_),(4,_),(5,_),(6,_),(7,_),(8,_),(9,_),(10,_),(11,_),(13,_)]) (⟨nU O,O,⟨aU fun _ _ H K=>R.al (K 8 _ O) H dU,aU fun _ _ H K=>R.idxN (7) (SC.al (K 56 _ O) (K 8 _ O)) (evoI (kI 7 O)) O bU H dU,aU fun _ _ H K=>R.ldE (K 57 _ O) (SC.al (K 56 _ O) (K 8 _ O)) (map_get! (l:=(rdsR (hR (textR b) m) (wR (((textR b).drop (64 * m)).take 64) 64) t)) bU) O O O O H,mU 12 O O,aU fun _ _ H K=>R.bin (eU K 58 O) (eU K 59 O) O Zt H,mU 11 O O,aU fun _ _ H K=>R.al (K 8 _ O) H dU,aU fun _ _ H K=>R.idxN (5) (SC.al (K 62 _ O) (K 8 _ O)) (evoI (kI 5 O)) O bU H dU,aU fun _ _ H K=>R.ldE (K 63 _ O) (SC.al (K 62 _ O) (K 8 _ O)) (map_get! (l:=(rdsR (hR (textR b) m) (wR (((textR b).drop (64 * m)).take 64) 64) t)) bU) O O O O H,aU fun _ _ H K=>R.bin (eU K 61 O) (eU K 64 O) O Zt H,mU 11 O O,aU fun _ _ H K=>R.un (eU K 66 O) O H,aU fun _ _ H K=>R.al (K 8 _ O) H dU,aU fun _ _ H K=>R.idxN (6) (SC.al (K 68 _ O) (K 8 _ O)) (evoI (kI 6 O)) O bU H dU,aU fun _ _ H K=>R.ldE (K 69 _ O) (SC.al (K 68 _ O) (K 8 _ O)) (map_get! (l:=(rdsR (hR (textR b) m) (wR (((textR b).drop (64 * m)).take 64) 64) t)) bU) O O O O H,aU fun _ _ H K=>R.bin (eU K 67 O) (eU K 70 O) O Zt H,aU fun _ _ H K=>R.bin (eU K 65 O) (eU K 71 O) O Zt H,aU fun _ _ H K=>R.bin (eU K 60 O) (eU K 72 O) O Zt H,aU fun _ _ H K=>R.al (K 5 _ O) H dU,mU 9 O O,aU fun _ _ H K=>R.idxN (t) (SC.al (K 74 _ O) (K 5 _ O)) (evoI (eU K 75 O)) O bU H dU,aU fun _ _ H K=>R.ldE (K 76 _ O) (SC.al (K 74 _ O) (K 5 _ O)) (map_get! (l:=kTab) bU) O O O O H,aU fun _ _ H K=>R.bin (eU K 73 O) (eU K 77 O) O Zt H,aU fun _ _ H K=>R.al (K 7 _ O) H dU,mU 9 O O,aU fun _ _ H K=>R.idxN (t) (SC.al (K 79 _ O) (K 7 _ O)) (evoI (eU K 80 O)) O bU H dU,aU fun _ _ H K=>R.ldE (K 81 _ O) (SC.al (K 79 _ O) (K 7 _ O)) (map_get! (l:=(wR (((textR b).drop (64 * m)).take 64) 64)) bU) O O O O H,aU fun _ _ H K=>R.bin (eU K 78 O) (eU K 82 O) O Zt H,aU fun _ _ H K=>R.asg (eU K 83 O) O H,Zt⟩,O,O,O⟩) O (bx':=[(2,.var _)]) O (n':=171) O (tV [(2,_),(3,_),(4,_),(5,_),(6,_),(7,_),(8,_),(9,_),(10,_),(11,_),(13,_)] [(2,.var _)] 171 O O O ?_)
     refine W.seq ?_
     refine W.l0 9 [.y 84 _,.y 85 _,.y 86 _,.y 87 _,.y 88 _,.y 89 _,.y 90 _,.y 91 _,.y 14 _] [] [] [(2,_),(3,_),(4,_),(5,_),(6,_),(7,_),(8,_),(9,_),(10,_),(11,_),(13,_),(14,_)] [(2,.var _)] 171 ⟨mU 10 O O,aU fun _ _ H K=>R.callG hC (rright_ok _ _) (Bc (Bp (eU K 84 O) O O) (Bc (Bp (show ev _ _ (.const (.int .u64 2)) = some (.u64 2) from O) O O) Bn)) (FrsR.one (.u32 _)) H,mU 10 O O,aU fun _ _ H K=>R.callG hC (rright_ok _ _) (Bc (Bp (eU K 86 O) O O) (Bc (Bp (show ev _ _ (.const (.int .u64 13)) = some (.u64 13) from O) O O) Bn)) (FrsR.one (.u32 _)) H,aU fun _ _ H K=>R.bin (eU K 85 O) (eU K 87 O) O Zt H,mU 10 O O,aU fun _ _ H K=>R.callG hC (rright_ok _ _) (Bc (Bp (eU K 89 O) O O) (Bc (Bp (show ev _ _ (.const (.int .u64 22)) = some (.u64 22) from O) O O) Bn)) (FrsR.one (.u32 _)) H,aU fun _ _ H K=>R.bin (eU K 88 O) (eU K 90 O) O Zt H,aU fun _ _ H K=>R.asg (eU K 91 O) O H,Zt⟩ O O O O (tU O ?_)
     refine W.seq ?_
     refine W.draw (m:=22) (an:=[0,0,0,4,12,30,0,0,128,384,960,2046,0,4096,12288,0,32768,98304,258048,524286,1048575,2097151]) hP dU O (its:=[.y 92 _,.y 93 _,.y 94 _,.y 95 _,.y 96 _,.y 97 _,.y 98 _,.y 99 _,.y 100 _,.y 101 _,.y 102 _,.y 103 _,.y 104 _,.y 105 _,.y 106 _,.y 107 _,.y 108 _,.y 109 _,.y 110 _,.y 111 _,.y 112 _,.y 15 _]) (ks:=[]) (kk:=[]) (live:=[2,3,4,5,6,7,8,9,10,11,13,15]) (env':=[(2,_),(3,_),(4,_),(5,_),(6,_),(7,_),(8,_),(9,_),(10,_),(11,_),(13,_),(15,_)]) (⟨nU O,O,⟨mU 14 O O,mU 10 O O,aU fun _ _ H K=>R.al (K 8 _ O) H dU,aU fun _ _ H K=>R.idxN (1) (SC.al (K 94 _ O) (K 8 _ O)) (evoI (kI 1 O)) O bU H dU,aU fun _ _ H K=>R.ldE (K 95 _ O) (SC.al (K 94 _ O) (K 8 _ O)) (map_get! (l:=(rdsR (hR (textR b) m) (wR (((textR b).drop (64 * m)).take 64) 64) t)) bU) O O O O H,aU fun _ _ H K=>R.bin (eU K 93 O) (eU K 96 O) O Zt H,mU 10 O O,aU fun _ _ H K=>R.al (K 8 _ O) H dU,aU fun _ _ H K=>R.idxN (2) (SC.al (K 99 _ O) (K 8 _ O)) (evoI (kI 2 O)) O bU H dU,aU fun _ _ H K=>R.ldE (K 100 _ O) (SC.al (K 99 _ O) (K 8 _ O)) (map_get! (l:=(rdsR (hR (textR b) m) (wR (((textR b).drop (64 * m)).take 64) 64) t)) bU) O O O O H,aU fun _ _ H K=>R.bin (eU K 98 O) (eU K 101 O) O Zt H,aU fun _ _ H K=>R.bin (eU K 97 O) (eU K 102 O) O Zt H,aU fun _ _ H K=>R.al (K 8 _ O) H dU,aU fun _ _ H K=>R.idxN (1) (SC.al (K 104 _ O) (K 8 _ O)) (evoI (kI 1 O)) O bU H dU,aU fun _ _ H K=>R.ldE (K 105 _ O) (SC.al (K 104 _ O) (K 8 _ O)) (map_get! (l:=(rdsR (hR (textR b) m) (wR (((textR b).drop (64 * m)).take 64) 64) t)) bU) O O O O H,aU fun _ _ H K=>R.al (K 8 _ O) H dU,aU fun _ _ H K=>R.idxN (2) (SC.al (K 107 _ O) (K 8 _ O)) (evoI (kI 2 O)) O bU H dU,aU fun _ _ H K=>R.ldE (K 108 _ O) (SC.al (K 107 _ O) (K 8 _ O)) (map_get! (l:=(rdsR (hR (textR b) m) (wR (((textR b).drop (64 * m)).take 64) 64) t)) bU) O O O O H,aU fun _ _ H K=>R.bin (eU K 106 O) (eU K 109 O) O Zt H,aU fun _ _ H K=>R.bin (eU K 103 O) (eU K 110 O) O Zt H,aU fun _ _ H K=>R.bin (eU K 92 O) (eU K 111 O) O Zt H,aU fun _ _ H K=>R.asg (eU K 112 O) O H,Zt⟩,O,O,O⟩) O (bx':=[(2,.var _)]) O (n':=171) O (tV [(2,_),(3,_),(4,_),(5,_),(6,_),(7,_),(8,_),(9,_),(10,_),(11,_),(13,_),(15,_)] [(2,.var _)] 171 O O O ?_)
     refine W.draw (m:=24) (an:=[0,0,3,0,0,16,48,0,128,384,0,1024,3072,0,15360,0,0,65536,196608,0,524288,1572864,4194303,8388607]) hP dU O (its:=[.y 113 _,.y 114 _,.y 115 _,.y 116 _,.y 117 _,.y 118 _,.y 119 _,.y 120 _,.y 121 _,.y 122 _,.y 123 _,.y 124 _,.y 125 _,.y 126 _,.y 127 _,.y 128 _,.y 129 _,.y 130 _,.y 131 _,.y 132 _,.y 133 _,.y 134 _,.y 135 _,.y 8 _]) (ks:=[(23,135),(23,117),(23,120),(23,123),(23,129),(23,132)]) (kk:=[(23,135)]) (live:=[2,3,4,5,6,7,8,9]) (env':=[(2,_),(3,_),(4,_),(5,_),(6,_),(7,_),(8,_),(9,_)]) (⟨nU O,O,⟨mU 13 O O,mU 15 O O,aU fun _ _ H K=>R.bin (eU K 113 O) (eU K 114 O) O Zt H,mU 10 O O,aU fun _ _ H K=>R.al (K 8 _ O) H dU,aU fun _ _ H K=>R.idxN (1) (SC.al (K 117 _ O) (K 8 _ O)) (evoI (kI 1 O)) O bU H dU,aU fun _ _ H K=>R.ldE (K 118 _ O) (SC.al (K 117 _ O) (K 8 _ O)) (map_get! (l:=(rdsR (hR (textR b) m) (wR (((textR b).drop (64 * m)).take 64) 64) t)) bU) O O O O H,aU fun _ _ H K=>R.al (K 8 _ O) H dU,aU fun _ _ H K=>R.idxN (2) (SC.al (K 120 _ O) (K 8 _ O)) (evoI (kI 2 O)) O bU H dU,aU fun _ _ H K=>R.ldE (K 121 _ O) (SC.al (K 120 _ O) (K 8 _ O)) (map_get! (l:=(rdsR (hR (textR b) m) (wR (((textR b).drop (64 * m)).take 64) 64) t)) bU) O O O O H,aU fun _ _ H K=>R.al (K 8 _ O) H dU,aU fun _ _ H K=>R.idxN (3) (SC.al (K 123 _ O) (K 8 _ O)) (evoI (kI 3 O)) O bU H dU,aU fun _ _ H K=>R.ldE (K 124 _ O) (SC.al (K 123 _ O) (K 8 _ O)) (map_get! (l:=(rdsR (hR (textR b) m) (wR (((textR b).drop (64 * m)).take 64) 64) t)) bU) O O O O H,mU 13 O O,aU fun _ _ H K=>R.bin (eU K 125 O) (eU K 126 O) O Zt H,mU 11 O O,aU fun _ _ H K=>R.al (K 8 _ O) H dU,aU fun _ _ H K=>R.idxN (5) (SC.al (K 129 _ O) (K 8 _ O)) (evoI (kI 5 O)) O bU H dU,aU fun _ _ H K=>R.ldE (K 130 _ O) (SC.al (K 129 _ O) (K 8 _ O)) (map_get! (l:=(rdsR (hR (textR b) m) (wR (((textR b).drop (64 * m)).take 64) 64) t)) bU) O O O O H,aU fun _ _ H K=>R.al (K 8 _ O) H dU,aU fun _ _ H K=>R.idxN (6) (SC.al (K 132 _ O) (K 8 _ O)) (evoI (kI 6 O)) O bU H dU,aU fun _ _ H K=>R.ldE (K 133 _ O) (SC.al (K 132 _ O) (K 8 _ O)) (map_get! (l:=(rdsR (hR (textR b) m) (wR (((textR b).drop (64 * m)).take 64) 64) t)) bU) O O O O H,aU fun _ _ H K=>R.bslE (z:=1) (.cons (eU K 115 O) (.cons (eU K 116 O) (.cons (eU K 119 O) (.cons (eU K 122 O) (.cons (eU K 127 O) (.cons (eU K 128 O) (.cons (eU K 131 O) (.cons (eU K 134 O) .nil)))))))) ⟨⟨O,O,O⟩,⟨⟨O,O,O⟩,⟨⟨O,O,O⟩,⟨⟨O,O,O⟩,⟨⟨O,O,O⟩,⟨⟨O,O,O⟩,⟨⟨O,O,O⟩,⟨⟨O,O,O⟩,Zt⟩⟩⟩⟩⟩⟩⟩⟩ O H dU,aU fun _ _ H K=>R.asgO (K 135 _ O) O H dU,Zt⟩,O,O,O⟩) O (bx':=[(2,.var _)]) O (n':=171) O (tV [(2,_),(3,_),(4,_),(5,_),(6,_),(7,_),(8,_),(9,_)] [(2,.var _)] 171 O O O ?_)
     refine W.l0 3 [.y 40 _,.y 41 _,.y 9 _] [] [] [(2,_),(3,_),(4,_),(5,_),(6,_),(7,_),(8,_),(9,_)] [(2,.var _)] 171 ⟨mU 9 O O,aU fun _ _ H K=>R.addN (t) (1) (eU K 40 O) (kI 1 O) bU H,aU fun _ _ H K=>R.asg (eU K 41 O) O H,Zt⟩ O O O O (tU O ?_)
     exact ⟨⟨(t + 1),bU⟩,rfl,(by simp only []; omega)⟩
   · obtain rfl : t = 64:=by omega
     refine W.exit (W.seq ?_)
     refine W.l0 1 [.y 16 _] [] [] [(2,_),(3,_),(4,_),(5,_),(6,_),(8,_),(16,_)] [(2,.var _)] 171 ⟨aU fun _ _ H _=>R.asg (kI 0 O) O H,Zt⟩ O O O O (tU O ?_)
     refine W.block ?_
     refine W.loop (α:={q__ : Nat // q__ <= 8}) (fun q__=>⟨171,[(2,.ptr 2 0 []),(3,.sl (some 32) 1 ((addH (hR (textR b) m) (rdsR (hR (textR b) m) (wR (((textR b).drop (64 * m)).take 64) 64) 64) q__.1).map D.u32)),(4,.sl (some 5) 1 ((textR b).map D.u8)),(5,.sl (some 32) 1 (kTab.map D.u32)),(6,.int ((64 * m : Nat) : Int)),(8,.sl (some 32) 1 ((rdsR (hR (textR b) m) (wR (((textR b).drop (64 * m)).take 64) 64) 64).map D.u32)),(16,.int ((q__.1 : Nat) : Int))],[(2,.var (hashD (List.replicate 32 0)))]⟩) (fun q__=>8 - q__.1) ⟨(0),bU⟩ O ?_
     rintro ⟨i,hi⟩
     show W _ _ _ _ ⟨171,[(2,.ptr 2 0 []),(3,.sl (some 32) 1 ((addH (hR (textR b) m) (rdsR (hR (textR b) m) (wR (((textR b).drop (64 * m)).take 64) 64) 64) i).map D.u32)),(4,.sl (some 5) 1 ((textR b).map D.u8)),(5,.sl (some 32) 1 (kTab.map D.u32)),(6,.int ((64 * m : Nat) : Int)),(8,.sl (some 32) 1 ((rdsR (hR (textR b) m) (wR (((textR b).drop (64 * m)).take 64) 64) 64).map D.u32)),(16,.int ((i : Nat) : Int))],[(2,.var (hashD (List.replicate 32 0)))]⟩
     have hal:=addH_len (hR (textR b) m) (rdsR (hR (textR b) m) (wR (((textR b).drop (64 * m)).take 64) 64) 64) i
     refine W.seq (W.seq ?_)
     refine W.l0 2 [.y 136 _,.y 137 _] [] [] [(2,_),(3,_),(4,_),(5,_),(6,_),(8,_),(16,_),(137,_)] [(2,.var _)] 171 ⟨mU 16 O O,aU fun _ _ H K=>R.lssN (i) (8) (eU K 136 O) (kI 8 O) H,Zt⟩ O O O O (tU O ?_)
     refine W.condD O (fun hc137=>?_) (fun hc137=>?_)
     · refine W.skip (W.seq (W.block ?_))
       refine W.draw (m:=12) (an:=[0,0,0,0,12,28,0,0,192,448,1020,2047,4095]) hP dU O (its:=[.y 140 _,.y 141 _,.y 142 _,.y 143 _,.y 144 _,.y 145 _,.y 146 _,.y 147 _,.y 148 _,.y 149 _,.y 150 _,.y 151 _]) (ks:=[]) (kk:=[]) (live:=[2,3,4,5,6,8,16,140,150,151]) (env':=[(2,_),(3,_),(4,_),(5,_),(6,_),(8,_),(16,_),(140,_),(150,_),(151,_)]) (⟨nU O,O,⟨aU fun _ _ H K=>R.al (K 3 _ O) H dU,mU 16 O O,aU fun _ _ H K=>R.al (K 3 _ O) H dU,mU 16 O O,aU fun _ _ H K=>R.idxN (i) (SC.al (K 142 _ O) (K 3 _ O)) (evoI (eU K 143 O)) O bU H dU,aU fun _ _ H K=>R.ldE (K 144 _ O) (SC.al (K 142 _ O) (K 3 _ O)) (map_get! (l:=(addH (hR (textR b) m) (rdsR (hR (textR b) m) (wR (((textR b).drop (64 * m)).take 64) 64) 64) i)) bU) O O O O H,aU fun _ _ H K=>R.al (K 8 _ O) H dU,mU 16 O O,aU fun _ _ H K=>R.idxN (i) (SC.al (K 146 _ O) (K 8 _ O)) (evoI (eU K 147 O)) O bU H dU,aU fun _ _ H K=>R.ldE (K 148 _ O) (SC.al (K 146 _ O) (K 8 _ O)) (map_get! (l:=(rdsR (hR (textR b) m) (wR (((textR b).drop (64 * m)).take 64) 64) 64)) bU) O O O O H,aU fun _ _ H K=>R.bin (eU K 145 O) (eU K 149 O) O Zt H,aU fun _ _ H K=>R.idxN (i) (SC.al (K 140 _ O) (K 3 _ O)) (evoI (eU K 141 O)) O bU H dU,Zt⟩,O,O,O⟩) O (bx':=[(2,.var _)]) O (n':=171) O (⟨O,_,R.stEY (gU 151 O) (Or.inr (gU 140 O)) (gU 3 O) (map_get! (l:=(addH (hR (textR b) m) (rdsR (hR (textR b) m) (wR (((textR b).drop (64 * m)).take 64) 64) 64) i)) bU) O (gV 150 O) (by rfl) (by rfl) (by rfl) (by rfl) upd_nil set_map,tV [(2,_),(3,_),(4,_),(5,_),(6,_),(8,_),(16,_)] [(2,.var _)] 171 O O O ?_⟩)
       refine W.l0 3 [.y 138 _,.y 139 _,.y 16 _] [] [] [(2,_),(3,_),(4,_),(5,_),(6,_),(8,_),(16,_)] [(2,.var _)] 171 ⟨mU 16 O O,aU fun _ _ H K=>R.addN (i) (1) (eU K 138 O) (kI 1 O) bU H,aU fun _ _ H K=>R.asg (eU K 139 O) O H,Zt⟩ O O O O (tU O ?_)
       exact ⟨⟨(i + 1),bU⟩,rfl,(by simp only []; omega)⟩
     · obtain rfl : i = 8:=by omega
       refine W.exit ?_
       refine W.l0 3 [.y 27 _,.y 28 _,.y 6 _] [] [] [(2,_),(3,_),(4,_),(5,_),(6,_)] [(2,.var _)] 171 ⟨mU 6 O O,aU fun _ _ H K=>R.addN (64 * m) (64) (eU K 27 O) (kI 64 O) bU H,aU fun _ _ H K=>R.asg (eU K 28 O) O H,Zt⟩ O O O O (tU O ?_)
       exact ⟨⟨(m + 1),(by omega)⟩,rfl,(by simp only []; omega)⟩
 · obtain rfl : m = pieces b:=by omega
   refine W.exit (W.seq ?_)
   refine W.l0 1 [] [] [] [(2,_),(3,_)] [(2,.var _)] 171 Zt O O O O (⟨O,_,R.alloc O (nU O),tV [(2,_),(3,_),(17,_)] [(17,.var _),(2,.var _)] 171 O O O ?_⟩)
   refine W.seq (W.seq ?_)
   refine W.l0 1 [.y 18 _] [] [] [(2,_),(3,_),(17,_),(18,_)] [(17,.var _),(2,.var _)] 171 ⟨aU fun _ _ H _=>R.asg (kI 0 O) O H,Zt⟩ O O O O (tU O ?_)
   refine W.block ?_
   refine W.loop (α:={q__ : Nat // q__ <= 32}) (fun q__=>⟨171,[(2,.ptr 2 0 []),(3,.sl (some 32) 1 ((hR (textR b) (pieces b)).map D.u32)),(17,.ptr 17 0 []),(18,.int ((q__.1 : Nat) : Int))],[(17,.var (hashD (outR (hR (textR b) (pieces b)) q__.1))),(2,.var (hashD (List.replicate 32 0)))]⟩) (fun q__=>32 - q__.1) ⟨(0),bU⟩ O ?_
   rintro ⟨i,hi⟩
   show W _ _ _ _ ⟨171,[(2,.ptr 2 0 []),(3,.sl (some 32) 1 ((hR (textR b) (pieces b)).map D.u32)),(17,.ptr 17 0 []),(18,.int ((i : Nat) : Int))],[(17,.var (hashD (outR (hR (textR b) (pieces b)) i))),(2,.var (hashD (List.replicate 32 0)))]⟩
   have hol:=outR_len (hR (textR b) (pieces b)) i
   refine W.seq (W.seq ?_)
   refine W.l0 2 [.y 152 _,.y 153 _] [] [] [(2,_),(3,_),(17,_),(18,_),(153,_)] [(17,.var _),(2,.var _)] 171 ⟨mU 18 O O,aU fun _ _ H K=>R.lssN (i) (32) (eU K 152 O) (kI 32 O) H,Zt⟩ O O O O (tU O ?_)
   refine W.condD O (fun hc153=>?_) (fun hc153=>?_)
   · refine W.skip (W.seq (W.block ?_))
     refine W.l0 15 [.y 156 _,.y 157 _,.y 158 _,.y 159 _,.y 160 _,.y 161 _,.y 162 _,.y 163 _,.y 164 _,.y 165 _,.y 166 _,.y 167 _,.y 168 _,.y 169 _] [] [] [(2,_),(3,_),(17,_),(18,_),(168,_),(169,_)] [(17,.var _),(2,.var _)] 171 ⟨mU 18 O O,aU fun _ _ H K=>R.al (K 3 _ O) H dU,mU 18 O O,aU fun _ _ H K=>R.quoN (i) (4) (eU K 158 O) (kI 4 O) bU bU H,aU fun _ _ H K=>R.idxN ((i / 4)) (SC.al (K 157 _ O) (K 3 _ O)) (evoI (eU K 159 O)) O bU H dU,aU fun _ _ H K=>R.ldE (K 160 _ O) (SC.al (K 157 _ O) (K 3 _ O)) (map_get! (l:=(hR (textR b) (pieces b))) bU) O O O O H,mU 18 O O,aU fun _ _ H K=>R.remN (i) (4) (eU K 162 O) (kI 4 O) bU H,aU fun _ _ H K=>R.mulN (8) ((i % 4)) (kI 8 O) (eU K 163 O) bU H,aU fun _ _ H K=>R.subN (24) ((8 * (i % 4))) (kI 24 O) (eU K 164 O) bU bU H,aU fun _ _ H K=>R.conv (eU K 165 O) O H,aU fun _ _ H K=>R.bin (eU K 161 O) (eU K 166 O) O bV H,aU fun _ _ H K=>R.conv (eU K 167 O) O H,aU fun _ _ H K=>R.idxP (i) (K 17 _ O) (evoI (eU K 156 O)) O bU H,Zt⟩ O O O O (⟨O,_,R.stZ (gU 169 O) (xU 17 O) (loc_arr (map_get! (l:=(outR (hR (textR b) (pieces b)) i)) bU) loc_nil bU) (gV 168 O) (by rfl) (by rfl) (by rfl) (by rfl) (upd_arr (map_get! (l:=(outR (hR (textR b) (pieces b)) i)) bU) upd_nil set_map),tV [(2,_),(3,_),(17,_),(18,_)] [(17,.var _),(2,.var _)] 171 O O O ?_⟩)
     refine W.l0 3 [.y 154 _,.y 155 _,.y 18 _] [] [] [(2,_),(3,_),(17,_),(18,_)] [(17,.var _),(2,.var _)] 171 ⟨mU 18 O O,aU fun _ _ H K=>R.addN (i) (1) (eU K 154 O) (kI 1 O) bU H,aU fun _ _ H K=>R.asg (eU K 155 O) O H,Zt⟩ O O O O (tU O ?_)
     exact ⟨⟨(i + 1),bU⟩,rfl,(by simp only []; omega)⟩
   · obtain rfl : i = 32:=by omega
     refine W.exit (W.seq ?_)
     refine W.l0 2 [.y 170 _] [] [] [(2,_),(170,_)] [(17,.var _),(2,.var _)] 171 ⟨aU (lU 17 O O O O O O O),Zt⟩ O O O O (⟨O,_,R.stZ (gU 2 O) (xU 2 O) O (gV 170 O) (by rfl) (by rfl) (by rfl) (by rfl) O,tV [(2,_)] [(17,.var _),(2,.var _)] 171 O O O ?_⟩)
     refine W.ret ?_
     exact Ends.one' (.inr O) O (O) O O (show LdT _ 26 32 true from inferInstance)
theorem rtwice_ok (b : List UInt8) (hb0 : b.length <= 1000000000) : Fn Tryd.prog gl 56 [.sl none 1 (b.map D.u8)] (hashD (twiceR b)):=by
 refine Fn.of (n:=8) Tryd.func56 rfl rfl rfl (nU rfl) fun C hC hD=>?_
 refine W.seq ?_
 refine W.l0 1 [] [] [] [(0,_)] [] 8 Zt O O O O (⟨O,_,R.alloc O (nU O),tV [(0,_),(2,_)] [(2,.var _)] 8 O O O ?_⟩)
 refine W.seq ?_
 refine W.l0 4 [.y 4 _,.y 5 _] [] [] [(2,_),(5,_)] [(2,.var _)] 8 ⟨mU 0 O O,aU fun _ _ H K=>R.callG hC (rsum_ok _ hb0) (Bc (Bp (eU K 4 O) O O) Bn) (FrsR.one (frs_hash _)) H,Zt⟩ O O O O (⟨O,_,R.alloc O (nU O),⟨O,_,R.stZ (gU 3 O) (xU 3 O) O (gV 5 O) (by rfl) (by rfl) (by rfl) (by rfl) O,tV [(2,_),(3,_)] [(3,.var _),(2,.var _)] 8 O O O ?_⟩⟩)
 refine W.seq ?_
 refine W.l0 3 [.y 6 _,.y 7 _] [] [] [(2,_),(7,_)] [(3,.var _),(2,.var _)] 8 ⟨aU fun _ B H K=>R.slAN (0) (32) (32) (K 3 _ O) (B 3 _ O) O O O O O bU bU O H,aU fun _ B H K=>R.callG hC (rsum_ok (sumR b) (by rw [sumR_len]; decide)) (Bc (Bor.sc (SC.va (K 6 _ O) (B 3 _ O) O bU) (brw_all (fun _=>rfl) (sumR_len _))) Bn) (FrsR.one (frs_hash _)) H,Zt⟩ O O O O (⟨O,_,R.stZ (gU 2 O) (xU 2 O) O (gV 7 O) (by rfl) (by rfl) (by rfl) (by rfl) O,tV [(2,_)] [(3,.var _),(2,.var _)] 8 O O O ?_⟩)
 refine W.ret ?_
 exact Ends.one' (.inr O) O (O) O O (show LdT _ 26 32 true from inferInstance)
end Go.Sx
