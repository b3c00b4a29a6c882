/- The encodings of the data, and the types' table (written by a program of the prover). -/
import Derived.Test.YtdcfcldpjfepiaaGreatLibZN
import Derived.Test.YtdcfcldpjfepiaaGreatLibZX
import Derived.Test.YtdcfcldpjfepiaaGreatVc
import Derived.Test.YtdcfcldpjfepiaaGreatChecked
import Derived.Test.YtdcfcldpjfepiaaGreatLibZC
import Derived.Test.YtdcfcldpjfepiaaGreatLibZR
import Derived.Test.YtdcfcldpjfepiaaGreatLibZS
import Derived.Test.YtdcfcldpjfepiaaGreatLibZI
import Derived.RangeFuncLeaves
import Derived.WalkKit
import Derived.OwnWalkIn
import Derived.TacticsInMore
import Derived.LoopNIn
import Derived.LoopIn
import Derived.WalkKit
import Derived.Lib.Walk
import Derived.Laws.Externs
import Derived.Laws.IdiomCopy
import Derived.Deep.RegionLaw
import Derived.IntWalk
import Derived.KernelRfl
set_option maxRecDepth 100000
set_option maxHeartbeats 8000000
set_option linter.unusedVariables false
set_option linter.unusedSimpArgs false
namespace Go.Proofs.YtdcfcldpjfepiaaGreat
open Go Go.Taq
@[reducible] def eI (x:Int):List AVal:=[.i x]
@[reducible] def GV (x:XF):List AVal:=[.i x.From,.i x.To]
@[reducible] def Q7 (x:Qk):List AVal:=[.v (.string x.Name),.sl 1 eI x.Cells,.i x.Speed,.i x.Keep,.sl 2 GV x.Shut]
@[reducible] def Qb (x:Q9):List AVal:=[.v (.string x.A),.v (.string x.B)]
@[reducible] def Q8 (x:Qm):List AVal:=[.i x.Cell,.v (.string x.Class)]
@[reducible] def Qa (x:Ql):List AVal:=[.i x.Cell,.i x.Charge]
@[reducible] def Q0 (x:ApiSite):List AVal:=[.i x.Floor.W,.i x.Floor.H,.i x.Floor.D,.sl 1 eI x.Floor.Kind,.sl 1 eI x.Floor.Out,.sl 5 Q7 x.Zones,.sl 2 Qb x.Aparts,.sl 2 Q8 x.Shelves,.sl 2 Qa x.Robots]
@[reducible] def Wr (x:ReachStep):List AVal:=[.i x.to_,.i x.price]
@[reducible] def Qz (x:List ReachStep):List AVal:=[.os 2 Wr x]
@[reducible] def eOeI (x:List Int):List AVal:=[.os 1 eI x]
@[reducible] def eB (x:Bool):List AVal:=[.b x]
@[reducible] def Qr (x:ApiFloor):List AVal:=[.i x.W,.i x.H,.i x.D,.sl 1 eI x.Kind,.sl 1 eI x.Out]
@[reducible] def Q50 (x:K6):List AVal:=[.i x.x,.i x.y,.i x.z]
@[reducible] def Qe (x:List ReachStep):List AVal:=[.sl 2 Wr x]
@[reducible] def eLeI (x:List Int):List AVal:=[.sl 1 eI x]
def kI (x:Int):Value:=.int .i64 x
def veI (x:Int):AVal:=.i x
def veB (x:Bool):AVal:=.b x
def kS (x:ByteArray):Value:=.string x
@[reducible] def Q2 (x:ApiRobot):List AVal:=[.i x.Cell,.i x.Load,.i x.Charge,.i x.Rest,.i x.Mute,.b x.Dead]
@[reducible] def Q5 (x:ApiStuck):List AVal:=[.i x.Cell,.i x.Left]
@[reducible] def Q3 (x:ApiState):List AVal:=[.i x.Tick,.sl 1 eI x.Shelves,.sl 6 Q2 x.Robots,.sl 1 eI x.People,.sl 1 eI x.Dead,.sl 2 Q5 x.Stuck]
def Q2i (x:Q9):List Value:=[.string x.A,.string x.B]
def Yc (x:Q9):Value:=.agg (Q2i x).toArray
@[reducible] def Z4 (x:QM):List AVal:=[.i x.Kind,.i x.A,.i x.N]
@[reducible] def eS (x:ByteArray):List AVal:=[.v (.string x)]
@[reducible] def Q5i (x:List XF):List AVal:=[.sl 2 GV x]
@[reducible] def Q5a (x:List Qk):List AVal:=[.sl 5 Q7 x]
@[reducible] def Q4o (x:List Q9):List AVal:=[.sl 2 Qb x]
@[reducible] def Q3S (x:List Qm):List AVal:=[.sl 2 Q8 x]
@[reducible] def Q4k (x:List Ql):List AVal:=[.sl 2 Qa x]
def te3:TE:=⟨.int .i64,1,8,[.int .i64 0]⟩
theorem teok3:TEok Tryz.prog 3 te3:=⟨⟨_,Tryz.underlying3,rfl⟩,Tryz.t3,_,(by kernel_rfl:Tryz.prog.info? 3=some Tryz.t3),rfl,rfl,rfl,rfl,(fun h=>by cases h),rfl,by decide⟩
def te4:TE:=⟨.bool,1,1,[.bool false]⟩
theorem teok4:TEok Tryz.prog 4 te4:=⟨⟨_,Tryz.underlying4,rfl⟩,Tryz.t4,_,(by kernel_rfl:Tryz.prog.info? 4=some Tryz.t4),rfl,rfl,rfl,rfl,(fun h=>by cases h),rfl,by decide⟩
def te5:TE:=⟨.int .u8,1,1,[.int .u8 0]⟩
theorem teok5:TEok Tryz.prog 5 te5:=⟨⟨_,Tryz.underlying5,rfl⟩,Tryz.t5,_,(by kernel_rfl:Tryz.prog.info? 5=some Tryz.t5),rfl,rfl,rfl,rfl,(fun h=>by cases h),rfl,by decide⟩
def te9:TE:=⟨.str,1,16,[.string ByteArray.empty]⟩
theorem teok9:TEok Tryz.prog 9 te9:=⟨⟨_,Tryz.underlying9,rfl⟩,Tryz.t9,_,(by kernel_rfl:Tryz.prog.info? 9=some Tryz.t9),rfl,rfl,rfl,rfl,(fun h=>by cases h),rfl,by decide⟩
def te22:TE:=⟨.sl 3,1,24,[.slice none 0 0]⟩
theorem Q9c:TEok Tryz.prog 22 te22:=⟨⟨_,Tryz.underlying22,rfl⟩,Tryz.t22,_,(by kernel_rfl:Tryz.prog.info? 22=some Tryz.t22),rfl,rfl,rfl,rfl,(fun h=>by cases h),rfl,by decide⟩
def te24:TE:=⟨.st [(0,3),(1,3),(2,3),(3,22),(4,22)],5,72,[.int .i64 0,.int .i64 0,.int .i64 0,.slice none 0 0,.slice none 0 0]⟩
theorem Q8s:TEok Tryz.prog 24 te24:=⟨⟨_,Tryz.underlying24,⟨_,rfl,rfl⟩⟩,Tryz.t24,_,(by kernel_rfl:Tryz.prog.info? 24=some Tryz.t24),rfl,rfl,rfl,rfl,(fun _=>⟨_,rfl⟩),rfl,by decide⟩
def te25:TE:=⟨.sl 59,1,24,[.slice none 0 0]⟩
theorem Q9m:TEok Tryz.prog 25 te25:=⟨⟨_,Tryz.underlying25,rfl⟩,Tryz.t25,_,(by kernel_rfl:Tryz.prog.info? 25=some Tryz.t25),rfl,rfl,rfl,rfl,(fun h=>by cases h),rfl,by decide⟩
def te26:TE:=⟨.sl 108,1,24,[.slice none 0 0]⟩
theorem Q9w:TEok Tryz.prog 26 te26:=⟨⟨_,Tryz.underlying26,rfl⟩,Tryz.t26,_,(by kernel_rfl:Tryz.prog.info? 26=some Tryz.t26),rfl,rfl,rfl,rfl,(fun h=>by cases h),rfl,by decide⟩
def te27:TE:=⟨.sl 101,1,24,[.slice none 0 0]⟩
theorem Q9s:TEok Tryz.prog 27 te27:=⟨⟨_,Tryz.underlying27,rfl⟩,Tryz.t27,_,(by kernel_rfl:Tryz.prog.info? 27=some Tryz.t27),rfl,rfl,rfl,rfl,(fun h=>by cases h),rfl,by decide⟩
def te28:TE:=⟨.sl 99,1,24,[.slice none 0 0]⟩
theorem Q9E:TEok Tryz.prog 28 te28:=⟨⟨_,Tryz.underlying28,rfl⟩,Tryz.t28,_,(by kernel_rfl:Tryz.prog.info? 28=some Tryz.t28),rfl,rfl,rfl,rfl,(fun h=>by cases h),rfl,by decide⟩
def te30:TE:=⟨.st [(0,24),(5,25),(6,26),(7,27),(8,28)],9,168,[.int .i64 0,.int .i64 0,.int .i64 0,.slice none 0 0,.slice none 0 0,.slice none 0 0,.slice none 0 0,.slice none 0 0,.slice none 0 0]⟩
theorem Q8S:TEok Tryz.prog 30 te30:=⟨⟨_,Tryz.underlying30,⟨_,rfl,rfl⟩⟩,Tryz.t30,_,(by kernel_rfl:Tryz.prog.info? 30=some Tryz.t30),rfl,rfl,rfl,rfl,(fun _=>⟨_,rfl⟩),rfl,by decide⟩
def te31:TE:=⟨.sl 46,1,24,[.slice none 0 0]⟩
theorem Q8x:TEok Tryz.prog 31 te31:=⟨⟨_,Tryz.underlying31,rfl⟩,Tryz.t31,_,(by kernel_rfl:Tryz.prog.info? 31=some Tryz.t31),rfl,rfl,rfl,rfl,(fun h=>by cases h),rfl,by decide⟩
def te32:TE:=⟨.sl 121,1,24,[.slice none 0 0]⟩
theorem Q9e:TEok Tryz.prog 32 te32:=⟨⟨_,Tryz.underlying32,rfl⟩,Tryz.t32,_,(by kernel_rfl:Tryz.prog.info? 32=some Tryz.t32),rfl,rfl,rfl,rfl,(fun h=>by cases h),rfl,by decide⟩
def te34:TE:=⟨.st [(0,3),(1,22),(2,31),(3,22),(4,22),(5,32)],6,128,[.int .i64 0,.slice none 0 0,.slice none 0 0,.slice none 0 0,.slice none 0 0,.slice none 0 0]⟩
theorem Q9k:TEok Tryz.prog 34 te34:=⟨⟨_,Tryz.underlying34,⟨_,rfl,rfl⟩⟩,Tryz.t34,_,(by kernel_rfl:Tryz.prog.info? 34=some Tryz.t34),rfl,rfl,rfl,rfl,(fun _=>⟨_,rfl⟩),rfl,by decide⟩
def te41:TE:=⟨.int .i64,1,8,[.int .i64 0]⟩
theorem Q9p:TEok Tryz.prog 41 te41:=⟨⟨_,Tryz.underlying41,rfl⟩,Tryz.t41,_,(by kernel_rfl:Tryz.prog.info? 41=some Tryz.t41),rfl,rfl,rfl,rfl,(fun h=>by cases h),rfl,by decide⟩
def te46:TE:=⟨.st [(0,3),(1,3),(2,3),(3,3),(4,3),(5,4)],6,48,[.int .i64 0,.int .i64 0,.int .i64 0,.int .i64 0,.int .i64 0,.bool false]⟩
theorem Q9C:TEok Tryz.prog 46 te46:=⟨⟨_,Tryz.underlying46,⟨_,rfl,rfl⟩⟩,Tryz.t46,_,(by kernel_rfl:Tryz.prog.info? 46=some Tryz.t46),rfl,rfl,rfl,rfl,(fun _=>⟨_,rfl⟩),rfl,by decide⟩
def te57:TE:=⟨.sl 158,1,24,[.slice none 0 0]⟩
theorem Q9F:TEok Tryz.prog 57 te57:=⟨⟨_,Tryz.underlying57,rfl⟩,Tryz.t57,_,(by kernel_rfl:Tryz.prog.info? 57=some Tryz.t57),rfl,rfl,rfl,rfl,(fun h=>by cases h),rfl,by decide⟩
def te59:TE:=⟨.st [(0,9),(1,22),(2,3),(3,3),(4,57)],5,80,[.string ByteArray.empty,.slice none 0 0,.int .i64 0,.int .i64 0,.slice none 0 0]⟩
theorem Q8O:TEok Tryz.prog 59 te59:=⟨⟨_,Tryz.underlying59,⟨_,rfl,rfl⟩⟩,Tryz.t59,_,(by kernel_rfl:Tryz.prog.info? 59=some Tryz.t59),rfl,rfl,rfl,rfl,(fun _=>⟨_,rfl⟩),rfl,by decide⟩
def te83:TE:=⟨.pt 93,1,8,[.pointer none]⟩
theorem Q8X:TEok Tryz.prog 83 te83:=⟨⟨_,Tryz.underlying83,rfl⟩,Tryz.t83,_,(by kernel_rfl:Tryz.prog.info? 83=some Tryz.t83),rfl,rfl,rfl,rfl,(fun h=>by cases h),rfl,by decide⟩
def te86:TE:=⟨.sl 4,1,24,[.slice none 0 0]⟩
theorem Q8L:TEok Tryz.prog 86 te86:=⟨⟨_,Tryz.underlying86,rfl⟩,Tryz.t86,_,(by kernel_rfl:Tryz.prog.info? 86=some Tryz.t86),rfl,rfl,rfl,rfl,(fun h=>by cases h),rfl,by decide⟩
def te88:TE:=⟨.sl 22,1,24,[.slice none 0 0]⟩
theorem Q93:TEok Tryz.prog 88 te88:=⟨⟨_,Tryz.underlying88,rfl⟩,Tryz.t88,_,(by kernel_rfl:Tryz.prog.info? 88=some Tryz.t88),rfl,rfl,rfl,rfl,(fun h=>by cases h),rfl,by decide⟩
def te91:TE:=⟨.sl 142,1,24,[.slice none 0 0]⟩
theorem Q8t:TEok Tryz.prog 91 te91:=⟨⟨_,Tryz.underlying91,rfl⟩,Tryz.t91,_,(by kernel_rfl:Tryz.prog.info? 91=some Tryz.t91),rfl,rfl,rfl,rfl,(fun h=>by cases h),rfl,by decide⟩
def te93:TE:=⟨.st [(0,91),(1,88),(2,86)],3,72,[.slice none 0 0,.slice none 0 0,.slice none 0 0]⟩
theorem Q9A:TEok Tryz.prog 93 te93:=⟨⟨_,Tryz.underlying93,⟨_,rfl,rfl⟩⟩,Tryz.t93,_,(by kernel_rfl:Tryz.prog.info? 93=some Tryz.t93),rfl,rfl,rfl,rfl,(fun _=>⟨_,rfl⟩),rfl,by decide⟩
def te94:TE:=⟨.mp 3 3,1,8,[.map none]⟩
theorem Q9v:TEok Tryz.prog 94 te94:=⟨⟨_,Tryz.underlying94,rfl⟩,Tryz.t94,_,(by kernel_rfl:Tryz.prog.info? 94=some Tryz.t94),rfl,rfl,rfl,rfl,(fun h=>by cases h),rfl,by decide⟩
def te99:TE:=⟨.st [(0,3),(1,3)],2,16,[.int .i64 0,.int .i64 0]⟩
theorem Q8p:TEok Tryz.prog 99 te99:=⟨⟨_,Tryz.underlying99,⟨_,rfl,rfl⟩⟩,Tryz.t99,_,(by kernel_rfl:Tryz.prog.info? 99=some Tryz.t99),rfl,rfl,rfl,rfl,(fun _=>⟨_,rfl⟩),rfl,by decide⟩
def te101:TE:=⟨.st [(0,3),(1,9)],2,24,[.int .i64 0,.string ByteArray.empty]⟩
theorem Q7U:TEok Tryz.prog 101 te101:=⟨⟨_,Tryz.underlying101,⟨_,rfl,rfl⟩⟩,Tryz.t101,_,(by kernel_rfl:Tryz.prog.info? 101=some Tryz.t101),rfl,rfl,rfl,rfl,(fun _=>⟨_,rfl⟩),rfl,by decide⟩
def te106:TE:=⟨.st [(0,3),(1,3),(2,3)],3,24,[.int .i64 0,.int .i64 0,.int .i64 0]⟩
theorem Q7L:TEok Tryz.prog 106 te106:=⟨⟨_,Tryz.underlying106,⟨_,rfl,rfl⟩⟩,Tryz.t106,_,(by kernel_rfl:Tryz.prog.info? 106=some Tryz.t106),rfl,rfl,rfl,rfl,(fun _=>⟨_,rfl⟩),rfl,by decide⟩
def te108:TE:=⟨.st [(0,9),(1,9)],2,32,[.string ByteArray.empty,.string ByteArray.empty]⟩
theorem Q7V:TEok Tryz.prog 108 te108:=⟨⟨_,Tryz.underlying108,⟨_,rfl,rfl⟩⟩,Tryz.t108,_,(by kernel_rfl:Tryz.prog.info? 108=some Tryz.t108),rfl,rfl,rfl,rfl,(fun _=>⟨_,rfl⟩),rfl,by decide⟩
def te110:TE:=⟨.pt 155,1,8,[.pointer none]⟩
theorem Q8a:TEok Tryz.prog 110 te110:=⟨⟨_,Tryz.underlying110,rfl⟩,Tryz.t110,_,(by kernel_rfl:Tryz.prog.info? 110=some Tryz.t110),rfl,rfl,rfl,rfl,(fun h=>by cases h),rfl,by decide⟩
def te119:TE:=⟨.mp 3 4,1,8,[.map none]⟩
theorem Q7N:TEok Tryz.prog 119 te119:=⟨⟨_,Tryz.underlying119,rfl⟩,Tryz.t119,_,(by kernel_rfl:Tryz.prog.info? 119=some Tryz.t119),rfl,rfl,rfl,rfl,(fun h=>by cases h),rfl,by decide⟩
def te121:TE:=⟨.st [(0,3),(1,3)],2,16,[.int .i64 0,.int .i64 0]⟩
theorem Q5l:TEok Tryz.prog 121 te121:=⟨⟨_,Tryz.underlying121,⟨_,rfl,rfl⟩⟩,Tryz.t121,_,(by kernel_rfl:Tryz.prog.info? 121=some Tryz.t121),rfl,rfl,rfl,rfl,(fun _=>⟨_,rfl⟩),rfl,by decide⟩
def te123:TE:=⟨.fn,1,8,[.nilFunc]⟩
theorem Q8b:TEok Tryz.prog 123 te123:=⟨⟨_,Tryz.underlying123,⟨_,_,_,rfl⟩⟩,Tryz.t123,_,(by kernel_rfl:Tryz.prog.info? 123=some Tryz.t123),rfl,rfl,rfl,rfl,(fun h=>by cases h),rfl,by decide⟩
def te126:TE:=⟨.fn,1,8,[.nilFunc]⟩
theorem Q7F:TEok Tryz.prog 126 te126:=⟨⟨_,Tryz.underlying126,⟨_,_,_,rfl⟩⟩,Tryz.t126,_,(by kernel_rfl:Tryz.prog.info? 126=some Tryz.t126),rfl,rfl,rfl,rfl,(fun h=>by cases h),rfl,by decide⟩
def te129:TE:=⟨.fn,1,8,[.nilFunc]⟩
theorem Q87:TEok Tryz.prog 129 te129:=⟨⟨_,Tryz.underlying129,⟨_,_,_,rfl⟩⟩,Tryz.t129,_,(by kernel_rfl:Tryz.prog.info? 129=some Tryz.t129),rfl,rfl,rfl,rfl,(fun h=>by cases h),rfl,by decide⟩
def te131:TE:=⟨.fn,1,8,[.nilFunc]⟩
theorem Q7w:TEok Tryz.prog 131 te131:=⟨⟨_,Tryz.underlying131,⟨_,_,_,rfl⟩⟩,Tryz.t131,_,(by kernel_rfl:Tryz.prog.info? 131=some Tryz.t131),rfl,rfl,rfl,rfl,(fun h=>by cases h),rfl,by decide⟩
def te142:TE:=⟨.sl 144,1,24,[.slice none 0 0]⟩
theorem Q7P:TEok Tryz.prog 142 te142:=⟨⟨_,Tryz.underlying142,rfl⟩,Tryz.t142,_,(by kernel_rfl:Tryz.prog.info? 142=some Tryz.t142),rfl,rfl,rfl,rfl,(fun h=>by cases h),rfl,by decide⟩
def te144:TE:=⟨.st [(0,3),(1,3)],2,16,[.int .i64 0,.int .i64 0]⟩
theorem Q8d:TEok Tryz.prog 144 te144:=⟨⟨_,Tryz.underlying144,⟨_,rfl,rfl⟩⟩,Tryz.t144,_,(by kernel_rfl:Tryz.prog.info? 144=some Tryz.t144),rfl,rfl,rfl,rfl,(fun _=>⟨_,rfl⟩),rfl,by decide⟩
def te146:TE:=⟨.int .u64,1,8,[.int .u64 0]⟩
theorem Q7Q:TEok Tryz.prog 146 te146:=⟨⟨_,Tryz.underlying146,rfl⟩,Tryz.t146,_,(by kernel_rfl:Tryz.prog.info? 146=some Tryz.t146),rfl,rfl,rfl,rfl,(fun h=>by cases h),rfl,by decide⟩
def te153:TE:=⟨.mp 9 3,1,8,[.map none]⟩
theorem Q7z:TEok Tryz.prog 153 te153:=⟨⟨_,Tryz.underlying153,rfl⟩,Tryz.t153,_,(by kernel_rfl:Tryz.prog.info? 153=some Tryz.t153),rfl,rfl,rfl,rfl,(fun h=>by cases h),rfl,by decide⟩
def te155:TE:=⟨.st [(0,30),(9,94),(10,119),(11,119),(12,153),(13,119),(14,22),(15,22)],16,256,[.int .i64 0,.int .i64 0,.int .i64 0,.slice none 0 0,.slice none 0 0,.slice none 0 0,.slice none 0 0,.slice none 0 0,.slice none 0 0,.map none,.map none,.map none,.map none,.map none,.slice none 0 0,.slice none 0 0]⟩
theorem Q7W:TEok Tryz.prog 155 te155:=⟨⟨_,Tryz.underlying155,⟨_,rfl,rfl⟩⟩,Tryz.t155,_,(by kernel_rfl:Tryz.prog.info? 155=some Tryz.t155),rfl,rfl,rfl,rfl,(fun _=>⟨_,rfl⟩),rfl,by decide⟩
def te158:TE:=⟨.st [(0,3),(1,3)],2,16,[.int .i64 0,.int .i64 0]⟩
theorem Q7u:TEok Tryz.prog 158 te158:=⟨⟨_,Tryz.underlying158,⟨_,rfl,rfl⟩⟩,Tryz.t158,_,(by kernel_rfl:Tryz.prog.info? 158=some Tryz.t158),rfl,rfl,rfl,rfl,(fun _=>⟨_,rfl⟩),rfl,by decide⟩
def te164:TE:=⟨.fn,1,8,[.nilFunc]⟩
theorem Q7v:TEok Tryz.prog 164 te164:=⟨⟨_,Tryz.underlying164,⟨_,_,_,rfl⟩⟩,Tryz.t164,_,(by kernel_rfl:Tryz.prog.info? 164=some Tryz.t164),rfl,rfl,rfl,rfl,(fun h=>by cases h),rfl,by decide⟩
def te169:TE:=⟨.fn,1,8,[.nilFunc]⟩
theorem Q7K:TEok Tryz.prog 169 te169:=⟨⟨_,Tryz.underlying169,⟨_,_,_,rfl⟩⟩,Tryz.t169,_,(by kernel_rfl:Tryz.prog.info? 169=some Tryz.t169),rfl,rfl,rfl,rfl,(fun h=>by cases h),rfl,by decide⟩
def te170:TE:=⟨.ar 4 3,4,32,[.int .i64 0,.int .i64 0,.int .i64 0,.int .i64 0]⟩
theorem Q86:TEok Tryz.prog 170 te170:=⟨⟨_,Tryz.underlying170,rfl⟩,Tryz.t170,_,(by kernel_rfl:Tryz.prog.info? 170=some Tryz.t170),rfl,rfl,rfl,rfl,(fun _=>⟨_,rfl⟩),rfl,by decide⟩
def te171:TE:=⟨.mp 108 4,1,8,[.map none]⟩
theorem Q85:TEok Tryz.prog 171 te171:=⟨⟨_,Tryz.underlying171,rfl⟩,Tryz.t171,_,(by kernel_rfl:Tryz.prog.info? 171=some Tryz.t171),rfl,rfl,rfl,rfl,(fun h=>by cases h),rfl,by decide⟩
def te177:TE:=⟨.st [(0,3),(1,3),(2,3)],3,24,[.int .i64 0,.int .i64 0,.int .i64 0]⟩
theorem Q8l:TEok Tryz.prog 177 te177:=⟨⟨_,Tryz.underlying177,⟨_,rfl,rfl⟩⟩,Tryz.t177,_,(by kernel_rfl:Tryz.prog.info? 177=some Tryz.t177),rfl,rfl,rfl,rfl,(fun _=>⟨_,rfl⟩),rfl,by decide⟩
def te178:TE:=⟨.ar 6 177,18,144,List.replicate 18 (.int .i64 0)⟩
theorem Q7s:TEok Tryz.prog 178 te178:=⟨⟨_,Tryz.underlying178,rfl⟩,Tryz.t178,_,(by kernel_rfl:Tryz.prog.info? 178=some Tryz.t178),rfl,rfl,rfl,rfl,(fun _=>⟨_,rfl⟩),rfl,by decide⟩
theorem Q7q:EqT Tryz.prog 108 [(0,9),(1,9)]:=⟨by kernel_rfl,by kernel_rfl,by kernel_rfl,by kernel_rfl,by kernel_rfl⟩
def tab:Tab:=[(3,te3),(4,te4),(5,te5),(9,te9),(22,te22),(24,te24),(25,te25),(26,te26),(27,te27),(28,te28),(30,te30),(31,te31),(32,te32),(34,te34),(41,te41),(46,te46),(57,te57),(59,te59),(83,te83),(86,te86),(88,te88),(91,te91),(93,te93),(94,te94),(99,te99),(101,te101),(106,te106),(108,te108),(110,te110),(119,te119),(121,te121),(123,te123),(126,te126),(129,te129),(131,te131),(142,te142),(144,te144),(146,te146),(153,te153),(155,te155),(158,te158),(164,te164),(169,te169),(170,te170),(171,te171),(177,te177),(178,te178)]
theorem T:QS Tryz.prog tab:=(.cons teok3 (.cons teok4 (.cons teok5 (.cons teok9 (.cons Q9c (.cons Q8s (.cons Q9m (.cons Q9w (.cons Q9s (.cons Q9E (.cons Q8S (.cons Q8x (.cons Q9e (.cons Q9k (.cons Q9p (.cons Q9C (.cons Q9F (.cons Q8O (.cons Q8X (.cons Q8L (.cons Q93 (.cons Q8t (.cons Q9A (.cons Q9v (.cons Q8p (.cons Q7U (.cons Q7L (.cons Q7V (.cons Q8a (.cons Q7N (.cons Q5l (.cons Q8b (.cons Q7F (.cons Q87 (.cons Q7w (.cons Q7P (.cons Q8d (.cons Q7Q (.cons Q7z (.cons Q7W (.cons Q7u (.cons Q7v (.cons Q7K (.cons Q86 (.cons Q85 (.cons Q8l (.cons Q7s QS.nil)))))))))))))))))))))))))))))))))))))))))))))))
theorem kt3:KeyT Tryz.prog 3 kI:=KeyT.int Tryz.underlying3
theorem kt9:KeyT Tryz.prog 9 kS:=KeyT.str Tryz.underlying9
theorem Q7J:KeyT Tryz.prog 108 Yc:=KeyT.st (kc:=Q2i) T Q7q (fun x y=>by
 obtain⟨x0,x1⟩:=x;obtain⟨y0,y1⟩:=y
 show some ((seq x0 y0&&(seq x1 y1&&true)))=some (decide _)
 congr 1;rw [Bool.eq_iff_iff];simp only [Bool.and_eq_true,beq_iff_eq,Q6A,decide_eq_true_eq,Q9.mk.injEq,and_true]
 constructor <;> intro h <;> simp_all) rfl (fun _=>rfl) (fun _=>rfl)
theorem zt3:Q64 Tryz.prog 3 veI 0:=⟨(.int .i64 0),fun w=>by kernel_rfl,fun _ _=>(.v _)⟩
theorem zt4:Q64 Tryz.prog 4 veB false:=⟨(.bool false),fun w=>by kernel_rfl,fun _ _=>(.v _)⟩
theorem mix:Tryz.prog.follows .mixedOrders=true:=by kernel_rfl
theorem en6:Q1 Tryz.prog 6:=fun args w=>Tryz.call6 args w
theorem en7:Q1 Tryz.prog 7:=fun args w=>Tryz.call7 args w
theorem en9:Q1 Tryz.prog 9:=fun args w=>Tryz.call9 args w
theorem en10:Q1 Tryz.prog 10:=fun args w=>Tryz.call10 args w
theorem en12:Q1 Tryz.prog 12:=fun args w=>Tryz.call12 args w
theorem en13:Q1 Tryz.prog 13:=fun args w=>Tryz.call13 args w
theorem en14:Q1 Tryz.prog 14:=fun args w=>Tryz.call14 args w
theorem en16:Q1 Tryz.prog 16:=fun args w=>Tryz.call16 args w
theorem en18:Q1 Tryz.prog 18:=fun args w=>Tryz.call18 args w
theorem en19:Q1 Tryz.prog 19:=fun args w=>Tryz.call19 args w
theorem en21:Q1 Tryz.prog 21:=fun args w=>Tryz.call21 args w
theorem en23:Q1 Tryz.prog 23:=fun args w=>Tryz.call23 args w
theorem en26:Q1 Tryz.prog 26:=fun args w=>Tryz.call26 args w
theorem en31:Q1 Tryz.prog 31:=fun args w=>Tryz.call31 args w
theorem en32:Q1 Tryz.prog 32:=fun args w=>Tryz.call32 args w
theorem en33:Q1 Tryz.prog 33:=fun args w=>Tryz.call33 args w
theorem en34:Q1 Tryz.prog 34:=fun args w=>Tryz.call34 args w
theorem en35:Q1 Tryz.prog 35:=fun args w=>Tryz.call35 args w
theorem en36:Q1 Tryz.prog 36:=fun args w=>Tryz.call36 args w
theorem en37:Q1 Tryz.prog 37:=fun args w=>Tryz.call37 args w
theorem en38:Q1 Tryz.prog 38:=fun args w=>Tryz.call38 args w
theorem en39:Q1 Tryz.prog 39:=fun args w=>Tryz.call39 args w
theorem en40:Q1 Tryz.prog 40:=fun args w=>Tryz.call40 args w
theorem en41:Q1 Tryz.prog 41:=fun args w=>Tryz.call41 args w
theorem en42:Q1 Tryz.prog 42:=fun args w=>Tryz.call42 args w
theorem en43:Q1 Tryz.prog 43:=fun args w=>Tryz.call43 args w
theorem en44:Q1 Tryz.prog 44:=fun args w=>Tryz.call44 args w
theorem en45:Q1 Tryz.prog 45:=fun args w=>Tryz.call45 args w
theorem en46:Q1 Tryz.prog 46:=fun args w=>Tryz.call46 args w
theorem en47:Q1 Tryz.prog 47:=fun args w=>Tryz.call47 args w
theorem en48:Q1 Tryz.prog 48:=fun args w=>Tryz.call48 args w
theorem en49:Q1 Tryz.prog 49:=fun args w=>Tryz.call49 args w
theorem en50:Q1 Tryz.prog 50:=fun args w=>Tryz.call50 args w
theorem en51:Q1 Tryz.prog 51:=fun args w=>Tryz.call51 args w
theorem en52:Q1 Tryz.prog 52:=fun args w=>Tryz.call52 args w
theorem en53:Q1 Tryz.prog 53:=fun args w=>Tryz.call53 args w
theorem en54:Q1 Tryz.prog 54:=fun args w=>Tryz.call54 args w
theorem en55:Q1 Tryz.prog 55:=fun args w=>Tryz.call55 args w
theorem en57:Q1 Tryz.prog 57:=fun args w=>Tryz.call57 args w
theorem en58:Q1 Tryz.prog 58:=fun args w=>Tryz.call58 args w
theorem en60:Q1 Tryz.prog 60:=fun args w=>Tryz.call60 args w
theorem en61:Q1 Tryz.prog 61:=fun args w=>Tryz.call61 args w
theorem en63:Q1 Tryz.prog 63:=fun args w=>Tryz.call63 args w
theorem en64:Q1 Tryz.prog 64:=fun args w=>Tryz.call64 args w
theorem en65:Q1 Tryz.prog 65:=fun args w=>Tryz.call65 args w
theorem en66:Q1 Tryz.prog 66:=fun args w=>Tryz.call66 args w
theorem en67:Q1 Tryz.prog 67:=fun args w=>Tryz.call67 args w
theorem en68:Q1 Tryz.prog 68:=fun args w=>Tryz.call68 args w
theorem en71:Q1 Tryz.prog 71:=fun args w=>Tryz.call71 args w
theorem en72:Q1 Tryz.prog 72:=fun args w=>Tryz.call72 args w
theorem en73:Q1 Tryz.prog 73:=fun args w=>Tryz.call73 args w
theorem en74:Q1 Tryz.prog 74:=fun args w=>Tryz.call74 args w
theorem en75:Q1 Tryz.prog 75:=fun args w=>Tryz.call75 args w
theorem en76:Q1 Tryz.prog 76:=fun args w=>Tryz.call76 args w
theorem en77:Q1 Tryz.prog 77:=fun args w=>Tryz.call77 args w
theorem en78:Q1 Tryz.prog 78:=fun args w=>Tryz.call78 args w
theorem en79:Q1 Tryz.prog 79:=fun args w=>Tryz.call79 args w
theorem en80:Q1 Tryz.prog 80:=fun args w=>Tryz.call80 args w
theorem en81:Q1 Tryz.prog 81:=fun args w=>Tryz.call81 args w
theorem en82:Q1 Tryz.prog 82:=fun args w=>Tryz.call82 args w
theorem en83:Q1 Tryz.prog 83:=fun args w=>Tryz.call83 args w
theorem en84:Q1 Tryz.prog 84:=fun args w=>Tryz.call84 args w
theorem en85:Q1 Tryz.prog 85:=fun args w=>Tryz.call85 args w
theorem en86:Q1 Tryz.prog 86:=fun args w=>Tryz.call86 args w
theorem en87:Q1 Tryz.prog 87:=fun args w=>Tryz.call87 args w
theorem en88:Q1 Tryz.prog 88:=fun args w=>Tryz.call88 args w
theorem en89:Q1 Tryz.prog 89:=fun args w=>Tryz.call89 args w
theorem en90:Q1 Tryz.prog 90:=fun args w=>Tryz.call90 args w
theorem en91:Q1 Tryz.prog 91:=fun args w=>Tryz.call91 args w
theorem en92:Q1 Tryz.prog 92:=fun args w=>Tryz.call92 args w
theorem en93:Q1 Tryz.prog 93:=fun args w=>Tryz.call93 args w
theorem en94:Q1 Tryz.prog 94:=fun args w=>Tryz.call94 args w
theorem en95:Q1 Tryz.prog 95:=fun args w=>Tryz.call95 args w
theorem en96:Q1 Tryz.prog 96:=fun args w=>Tryz.call96 args w
theorem en97:Q1 Tryz.prog 97:=fun args w=>Tryz.call97 args w
theorem en98:Q1 Tryz.prog 98:=fun args w=>Tryz.call98 args w
theorem en99:Q1 Tryz.prog 99:=fun args w=>Tryz.call99 args w
theorem Q8r:Q1 Tryz.prog 100:=fun args w=>Tryz.call100 args w
theorem Q6l:Q1 Tryz.prog 101:=fun args w=>Tryz.call101 args w
theorem Q5G:Q1 Tryz.prog 102:=fun args w=>Tryz.call102 args w
theorem Qaj:Q1 Tryz.prog 103:=fun args w=>Tryz.call103 args w
theorem Q8A:Q1 Tryz.prog 104:=fun args w=>Tryz.call104 args w
theorem Q9a:Q1 Tryz.prog 105:=fun args w=>Tryz.call105 args w
theorem Qa4:Q1 Tryz.prog 106:=fun args w=>Tryz.call106 args w
theorem Q8K:Q1 Tryz.prog 107:=fun args w=>Tryz.call107 args w
theorem Qad:Q1 Tryz.prog 108:=fun args w=>Tryz.call108 args w
theorem Qas:Q1 Tryz.prog 109:=fun args w=>Tryz.call109 args w
theorem Qau:Q1 Tryz.prog 110:=fun args w=>Tryz.call110 args w
theorem Q8o:Q1 Tryz.prog 111:=fun args w=>Tryz.call111 args w
theorem Q8v:Q1 Tryz.prog 112:=fun args w=>Tryz.call112 args w
theorem Q9L:Q1 Tryz.prog 113:=fun args w=>Tryz.call113 args w
theorem Q8E:Q1 Tryz.prog 117:=fun args w=>Tryz.call117 args w
theorem Qa6:Q1 Tryz.prog 118:=fun args w=>Tryz.call118 args w
theorem Q9V:Q1 Tryz.prog 120:=fun args w=>Tryz.call120 args w
theorem Q9Y:Q1 Tryz.prog 130:=fun args w=>Tryz.call130 args w
theorem Q8z:Q1 Tryz.prog 131:=fun args w=>Tryz.call131 args w
theorem Q9R:Q1 Tryz.prog 132:=fun args w=>Tryz.call132 args w
theorem Qaq:Q1 Tryz.prog 133:=fun args w=>Tryz.call133 args w
theorem Q9o:Q1 Tryz.prog 134:=fun args w=>Tryz.call134 args w
theorem Q9N:Q1 Tryz.prog 135:=fun args w=>Tryz.call135 args w
theorem Q6I:Q1 Tryz.prog 136:=fun args w=>Tryz.call136 args w
theorem Q9S:Q1 Tryz.prog 137:=fun args w=>Tryz.call137 args w
theorem Q9f:Q1 Tryz.prog 138:=fun args w=>Tryz.call138 args w
theorem Q8U:Q1 Tryz.prog 139:=fun args w=>Tryz.call139 args w
theorem Q8u:Q1 Tryz.prog 140:=fun args w=>Tryz.call140 args w
theorem Q61:Q1 Tryz.prog 141:=fun args w=>Tryz.call141 args w
theorem Q8w:Q1 Tryz.prog 142:=fun args w=>Tryz.call142 args w
theorem Q9I:Q1 Tryz.prog 143:=fun args w=>Tryz.call143 args w
theorem Qa2:Q1 Tryz.prog 144:=fun args w=>Tryz.call144 args w
theorem Qa0:Q1 Tryz.prog 145:=fun args w=>Tryz.call145 args w
theorem Qar:Q1 Tryz.prog 146:=fun args w=>Tryz.call146 args w
theorem Q8I:Q1 Tryz.prog 147:=fun args w=>Tryz.call147 args w
theorem Q7y:Q1 Tryz.prog 148:=fun args w=>Tryz.call148 args w
theorem Q88:Q1 Tryz.prog 149:=fun args w=>Tryz.call149 args w
theorem Qal:Q1 Tryz.prog 150:=fun args w=>Tryz.call150 args w
theorem Q9X:Q1 Tryz.prog 151:=fun args w=>Tryz.call151 args w
theorem Q8g:Q1 Tryz.prog 152:=fun args w=>Tryz.call152 args w
theorem Q9K:Q1 Tryz.prog 153:=fun args w=>Tryz.call153 args w
theorem Qam:Q1 Tryz.prog 154:=fun args w=>Tryz.call154 args w
theorem Qa8:Q1 Tryz.prog 155:=fun args w=>Tryz.call155 args w
theorem Qak:Q1 Tryz.prog 156:=fun args w=>Tryz.call156 args w
theorem Qa3:Q1 Tryz.prog 157:=fun args w=>Tryz.call157 args w
theorem Qah:Q1 Tryz.prog 158:=fun args w=>Tryz.call158 args w
theorem Qae:Q1 Tryz.prog 168:=fun args w=>Tryz.call168 args w
theorem Qaa:Q1 Tryz.prog 184:=fun args w=>Tryz.call184 args w
theorem Q8B:Q1 Tryz.prog 185:=fun args w=>Tryz.call185 args w
theorem Q7S:Q1 Tryz.prog 186:=fun args w=>Tryz.call186 args w
theorem Q9M:Q1 Tryz.prog 187:=fun args w=>Tryz.call187 args w
theorem Qaf:Q1 Tryz.prog 188:=fun args w=>Tryz.call188 args w
theorem Qag:Q1 Tryz.prog 189:=fun args w=>Tryz.call189 args w
theorem Q8P:Q1 Tryz.prog 190:=fun args w=>Tryz.call190 args w
theorem Q9i:Q1 Tryz.prog 192:=fun args w=>Tryz.call192 args w
theorem Qai:Q1 Tryz.prog 193:=fun args w=>Tryz.call193 args w
theorem Q9O:Q1 Tryz.prog 194:=fun args w=>Tryz.call194 args w
theorem Q9J:Q1 Tryz.prog 195:=fun args w=>Tryz.call195 args w
theorem Q94:Q1 Tryz.prog 196:=fun args w=>Tryz.call196 args w
theorem Q97:Q1 Tryz.prog 202:=fun args w=>Tryz.call202 args w
theorem Q9U:Q1 Tryz.prog 207:=fun args w=>Tryz.call207 args w
theorem Qa5:Q1 Tryz.prog 208:=fun args w=>Tryz.call208 args w
theorem Qa1:Q1 Tryz.prog 210:=fun args w=>Tryz.call210 args w
theorem op3:QP Tryz.prog 3 eI I64:=QP.i64 Tryz.underlying3
theorem op22:QP Tryz.prog 22 eLeI (OkL I64):=QP.slice Tryz.underlying22 (n:=1) (by kernel_rfl) (by decide) op3
theorem op24:QP Tryz.prog 24 Qr Q2n:=fun enc w held fuel cells d ps ht=>by
 obtain⟨fuel',hl,hf⟩:=QP.st (N:=5) Tryz.underlying24 (by kernel_rfl) ht
 obtain⟨x0,k0,l0,c0⟩:=QP.fld op3 (n:=1) (off:=0) (by kernel_rfl) (by omega) (hf _ (List.mem_of_getElem? (i:=0) rfl))
 obtain⟨x1,k1,l1,c1⟩:=QP.fld op3 (n:=1) (off:=1) (by kernel_rfl) (by omega) (hf _ (List.mem_of_getElem? (i:=1) rfl))
 obtain⟨x2,k2,l2,c2⟩:=QP.fld op3 (n:=1) (off:=2) (by kernel_rfl) (by omega) (hf _ (List.mem_of_getElem? (i:=2) rfl))
 obtain⟨x3,k3,l3,c3⟩:=QP.fld op22 (n:=1) (off:=3) (by kernel_rfl) (by omega) (hf _ (List.mem_of_getElem? (i:=3) rfl))
 obtain⟨x4,k4,l4,c4⟩:=QP.fld op22 (n:=1) (off:=4) (by kernel_rfl) (by omega) (hf _ (List.mem_of_getElem? (i:=4) rfl))
 have hc:Cov w cells 0 (Qr ⟨x0,x1,x2,x3,x4⟩):=(c0.app (c1.app (c2.app (c3.app (c4.app Cov.nil)))))
 exact⟨⟨x0,x1,x2,x3,x4⟩,⟨k0,k1,k2,k3,k4⟩,by rw [hl];rfl,fun j A v hA hv=>hc j A v hA (by simpa using hv)⟩
theorem op9:QP Tryz.prog 9 eS OkS:=QP.str Tryz.underlying9
theorem Qao:QP Tryz.prog 158 GV Q1o:=fun enc w held fuel cells d ps ht=>by
 obtain⟨fuel',hl,hf⟩:=QP.st (N:=2) Tryz.underlying158 (by kernel_rfl) ht
 obtain⟨x0,k0,l0,c0⟩:=QP.fld op3 (n:=1) (off:=0) (by kernel_rfl) (by omega) (hf _ (List.mem_of_getElem? (i:=0) rfl))
 obtain⟨x1,k1,l1,c1⟩:=QP.fld op3 (n:=1) (off:=1) (by kernel_rfl) (by omega) (hf _ (List.mem_of_getElem? (i:=1) rfl))
 have hc:Cov w cells 0 (GV ⟨x0,x1⟩):=(c0.app (c1.app Cov.nil))
 exact⟨⟨x0,x1⟩,⟨k0,k1⟩,by rw [hl];rfl,fun j A v hA hv=>hc j A v hA (by simpa using hv)⟩
theorem op57:QP Tryz.prog 57 Q5i (OkL Q1o):=QP.slice Tryz.underlying57 (n:=2) (by kernel_rfl) (by decide) Qao
theorem op59:QP Tryz.prog 59 Q7 Q1t:=fun enc w held fuel cells d ps ht=>by
 obtain⟨fuel',hl,hf⟩:=QP.st (N:=5) Tryz.underlying59 (by kernel_rfl) ht
 obtain⟨x0,k0,l0,c0⟩:=QP.fld op9 (n:=1) (off:=0) (by kernel_rfl) (by omega) (hf _ (List.mem_of_getElem? (i:=0) rfl))
 obtain⟨x1,k1,l1,c1⟩:=QP.fld op22 (n:=1) (off:=1) (by kernel_rfl) (by omega) (hf _ (List.mem_of_getElem? (i:=1) rfl))
 obtain⟨x2,k2,l2,c2⟩:=QP.fld op3 (n:=1) (off:=2) (by kernel_rfl) (by omega) (hf _ (List.mem_of_getElem? (i:=2) rfl))
 obtain⟨x3,k3,l3,c3⟩:=QP.fld op3 (n:=1) (off:=3) (by kernel_rfl) (by omega) (hf _ (List.mem_of_getElem? (i:=3) rfl))
 obtain⟨x4,k4,l4,c4⟩:=QP.fld op57 (n:=1) (off:=4) (by kernel_rfl) (by omega) (hf _ (List.mem_of_getElem? (i:=4) rfl))
 have hc:Cov w cells 0 (Q7 ⟨x0,x1,x2,x3,x4⟩):=(c0.app (c1.app (c2.app (c3.app (c4.app Cov.nil)))))
 exact⟨⟨x0,x1,x2,x3,x4⟩,⟨k0,k1,k2,k3,k4⟩,by rw [hl];rfl,fun j A v hA hv=>hc j A v hA (by simpa using hv)⟩
theorem op25:QP Tryz.prog 25 Q5a (OkL Q1t):=QP.slice Tryz.underlying25 (n:=5) (by kernel_rfl) (by decide) op59
theorem Q9P:QP Tryz.prog 108 Qb Q0r:=fun enc w held fuel cells d ps ht=>by
 obtain⟨fuel',hl,hf⟩:=QP.st (N:=2) Tryz.underlying108 (by kernel_rfl) ht
 obtain⟨x0,k0,l0,c0⟩:=QP.fld op9 (n:=1) (off:=0) (by kernel_rfl) (by omega) (hf _ (List.mem_of_getElem? (i:=0) rfl))
 obtain⟨x1,k1,l1,c1⟩:=QP.fld op9 (n:=1) (off:=1) (by kernel_rfl) (by omega) (hf _ (List.mem_of_getElem? (i:=1) rfl))
 have hc:Cov w cells 0 (Qb ⟨x0,x1⟩):=(c0.app (c1.app Cov.nil))
 exact⟨⟨x0,x1⟩,⟨k0,k1⟩,by rw [hl];rfl,fun j A v hA hv=>hc j A v hA (by simpa using hv)⟩
theorem op26:QP Tryz.prog 26 Q4o (OkL Q0r):=QP.slice Tryz.underlying26 (n:=2) (by kernel_rfl) (by decide) Q9P
theorem Qab:QP Tryz.prog 101 Q8 Q0h:=fun enc w held fuel cells d ps ht=>by
 obtain⟨fuel',hl,hf⟩:=QP.st (N:=2) Tryz.underlying101 (by kernel_rfl) ht
 obtain⟨x0,k0,l0,c0⟩:=QP.fld op3 (n:=1) (off:=0) (by kernel_rfl) (by omega) (hf _ (List.mem_of_getElem? (i:=0) rfl))
 obtain⟨x1,k1,l1,c1⟩:=QP.fld op9 (n:=1) (off:=1) (by kernel_rfl) (by omega) (hf _ (List.mem_of_getElem? (i:=1) rfl))
 have hc:Cov w cells 0 (Q8 ⟨x0,x1⟩):=(c0.app (c1.app Cov.nil))
 exact⟨⟨x0,x1⟩,⟨k0,k1⟩,by rw [hl];rfl,fun j A v hA hv=>hc j A v hA (by simpa using hv)⟩
theorem op27:QP Tryz.prog 27 Q3S (OkL Q0h):=QP.slice Tryz.underlying27 (n:=2) (by kernel_rfl) (by decide) Qab
theorem op99:QP Tryz.prog 99 Qa Q0v:=fun enc w held fuel cells d ps ht=>by
 obtain⟨fuel',hl,hf⟩:=QP.st (N:=2) Tryz.underlying99 (by kernel_rfl) ht
 obtain⟨x0,k0,l0,c0⟩:=QP.fld op3 (n:=1) (off:=0) (by kernel_rfl) (by omega) (hf _ (List.mem_of_getElem? (i:=0) rfl))
 obtain⟨x1,k1,l1,c1⟩:=QP.fld op3 (n:=1) (off:=1) (by kernel_rfl) (by omega) (hf _ (List.mem_of_getElem? (i:=1) rfl))
 have hc:Cov w cells 0 (Qa ⟨x0,x1⟩):=(c0.app (c1.app Cov.nil))
 exact⟨⟨x0,x1⟩,⟨k0,k1⟩,by rw [hl];rfl,fun j A v hA hv=>hc j A v hA (by simpa using hv)⟩
theorem op28:QP Tryz.prog 28 Q4k (OkL Q0v):=QP.slice Tryz.underlying28 (n:=2) (by kernel_rfl) (by decide) op99
theorem op30:QP Tryz.prog 30 Q0 OkApiSite:=fun enc w held fuel cells d ps ht=>by
 obtain⟨fuel',hl,hf⟩:=QP.st (N:=9) Tryz.underlying30 (by kernel_rfl) ht
 obtain⟨x0,k0,l0,c0⟩:=QP.fld op24 (n:=5) (off:=0) (by kernel_rfl) (by omega) (hf _ (List.mem_of_getElem? (i:=0) rfl))
 obtain⟨x1,k1,l1,c1⟩:=QP.fld op25 (n:=1) (off:=5) (by kernel_rfl) (by omega) (hf _ (List.mem_of_getElem? (i:=1) rfl))
 obtain⟨x2,k2,l2,c2⟩:=QP.fld op26 (n:=1) (off:=6) (by kernel_rfl) (by omega) (hf _ (List.mem_of_getElem? (i:=2) rfl))
 obtain⟨x3,k3,l3,c3⟩:=QP.fld op27 (n:=1) (off:=7) (by kernel_rfl) (by omega) (hf _ (List.mem_of_getElem? (i:=3) rfl))
 obtain⟨x4,k4,l4,c4⟩:=QP.fld op28 (n:=1) (off:=8) (by kernel_rfl) (by omega) (hf _ (List.mem_of_getElem? (i:=4) rfl))
 have hc:Cov w cells 0 (Q0 ⟨x0,x1,x2,x3,x4⟩):=(c0.app (c1.app (c2.app (c3.app (c4.app Cov.nil)))))
 exact⟨⟨x0,x1,x2,x3,x4⟩,⟨k0,k1,k2,k3,k4⟩,by rw [hl];rfl,fun j A v hA hv=>hc j A v hA (by simpa using hv)⟩
theorem op4:QP Tryz.prog 4 eB (fun (_:Bool)=>True):=QP.bool Tryz.underlying4
theorem Q9B (xs:List Int) (l:Nat) (J:Nat→World→Prop) (Jx:World→Prop) (S:Nat→Prop) (w W:World) (b off cap:Nat) (p0:Option Addr) (hlen:xs.length≤1099511627776) (hS:S b)
  (hY:∀m x W1,xs[m]?=some x→J m W1→YieldAt Fence.wide 1 Tryz.prog l #[.int .i64 x] W1 fun e W'=>(e=.returned (.bool true)∧J (m+1) W'∧KS S W1 W')∨(e=.returned (.bool false)∧Jx W'))
  (hc:W.cell? ⟨b,off,none⟩=some (.slice p0 xs.length cap)) (hL:Q3J S W p0 xs) (h0:J 0 W):
  CallsIn Fence.wide 2 Tryz.prog 146 #[.func (.yield l) #[] #[],.pointer (some ⟨b,off,none⟩)] W fun e W'=>(∃v,e=.returned v)∧(J xs.length W'∨Jx W'):=by
 refine callsIn_of_wp Tryz.func146 rfl trivial ?_ rfl
 simp only [Tryz.ntmps146,List.size_toArray,List.length_cons,List.length_nil,Nat.reduceAdd,Nat.reduceSub,Array.replicate_succ,Array.replicate_zero,List.push_toArray,List.append_toArray,List.nil_append,List.cons_append]
 gi_wp2
 gi_loopw [7] (fun p wr=>∃(m:Nat),m≤xs.length∧p=.int .i64 (m:Int)∧Q3J S wr p0 xs∧J m wr)
  (fun p wr=>match p with | .int _ i=>xs.length-i.toNat | _=>0)
 case atStart=>exact⟨0,Nat.zero_le _,rfl,hL,h0⟩
 case round=>
  obtain⟨m,hm,rfl,hl,hJs⟩:=hrel
  by_cases hlt:m<xs.length
  ·have hx:xs[m]?=some (xs.getD m 0):=by rw [List.getD_eq_getElem?_getD,List.getElem?_eq_getElem hlt];rfl
   obtain⟨b',off',rfl,hb,hv⟩:=hl m _ hx
   obtain⟨fn,tmps,assign,body,hy,hR⟩:=hY m (xs.getD m 0) wr hx hJs
   generalize xs.getD m 0=x0 at *
   gi_wp2
   refine hR.mono ?_
   rintro e W3 (⟨rfl,hJ3,hk3⟩ | ⟨rfl,hJx3⟩)
   ·gi_wp2
    go_roundw
    case rel=>exact⟨m+1,by omega,rfl,hl.keep hk3,hJ3⟩
    case measure=>simp;omega
   ·gi_wp2
    refine bodyPost_ret (results_none rfl _ _ _) rfl ?_
    exact⟨⟨_,rfl⟩,.inr hJx3⟩
  ·obtain rfl:m=xs.length:=by omega
   gi_wp2
   go_end0
   exact⟨⟨_,rfl⟩,.inl hJs⟩
theorem Q9H (xs:List Int) (hlen:xs.length≤1099511627776):Iter Tryz.prog 146 [.rp [.sl 1 eI xs]] (fun x:Int=>[.int .i64 x]) xs:=fun w ok β lb hlb l J Jx W hW hY h0=>by
 obtain⟨b,off,p,cap,rfl,hb,hc,hr⟩:=Q7b hlb
 exact Q9B xs l J Jx ok w W b off cap p hlen hb hY ((hW.cell hb).trans hc) (hr.keep hW) h0
theorem Q91 (xs:List Int) (l:Nat) (J:Nat→World→Prop) (Jx:World→Prop) (S:Nat→Prop) (w W:World) (b off cap:Nat) (p0:Option Addr) (hlen:xs.length≤1099511627776) (hS:S b)
  (hY:∀m x W1,(bkw xs)[m]?=some x→J m W1→YieldAt Fence.wide 1 Tryz.prog l #[.int .i64 x.1,.int .i64 x.2] W1 fun e W'=>(e=.returned (.bool true)∧J (m+1) W'∧KS S W1 W')∨(e=.returned (.bool false)∧Jx W'))
  (hc:W.cell? ⟨b,off,none⟩=some (.slice p0 xs.length cap)) (hL:Q3J S W p0 xs) (h0:J 0 W):
  CallsIn Fence.wide 2 Tryz.prog 195 #[.func (.yield l) #[] #[],.pointer (some ⟨b,off,none⟩)] W fun e W'=>(∃v,e=.returned v)∧(J (bkw xs).length W'∨Jx W'):=by
 refine callsIn_of_wp Tryz.func195 rfl trivial ?_ rfl
 simp only [Tryz.ntmps195,List.size_toArray,List.length_cons,List.length_nil,Nat.reduceAdd,Nat.reduceSub,Array.replicate_succ,Array.replicate_zero,List.push_toArray,List.append_toArray,List.nil_append,List.cons_append]
 gi_wp2
 gi_loopw [3] (fun p wr=>∃(m:Nat),m≤xs.length∧p=.int .i64 ((m:Int)-1)∧Q3J S wr p0 xs∧wr.cell? ⟨b,off,none⟩=some (.slice p0 xs.length cap)∧J (xs.length-m) wr)
  (fun p wr=>match p with | .int _ i=>(i+1).toNat | _=>0)
 case atStart=>exact⟨xs.length,Nat.le_refl _,rfl,hL,hc,by simpa using h0⟩
 case round=>
  obtain⟨m,hm,rfl,hl,hc,hJs⟩:=hrel
  cases m with
  | zero=>
   gi_wp2
   go_end0
   exact⟨⟨_,rfl⟩,.inl (by rw [Q41];exact hJs)⟩
  | succ m=>
   have hx:xs[m]?=some (xs.getD m 0):=by rw [List.getD_eq_getElem?_getD,List.getElem?_eq_getElem (by omega)];rfl
   obtain⟨b',off',rfl,hb,hv⟩:=hl m _ hx
   obtain⟨fn,tmps,assign,body,hy,hR⟩:=hY (xs.length-(m+1)) ((m:Int),xs.getD m 0) wr (Q5r (by omega)) hJs
   have e1:((m+1:Nat):Int)-1=(m:Int):=by omega
   rw [e1]
   generalize xs.getD m 0=x0 at *
   gi_wp2
   refine hR.mono ?_
   rintro e W3 (⟨rfl,hJ3,hk3⟩ | ⟨rfl,hJx3⟩)
   ·gi_wp2
    go_roundw
    case rel=>exact⟨m,by omega,rfl,hl.keep hk3,(hk3.cell hS).trans hc,by rw [show xs.length-m=xs.length-(m+1)+1 by omega];exact hJ3⟩
    case measure=>simp
   ·gi_wp2
    refine bodyPost_ret (results_none rfl _ _ _) rfl ?_
    exact⟨⟨_,rfl⟩,.inr hJx3⟩
theorem Q9W (xs:List Int) (hlen:xs.length≤1099511627776):Iter Tryz.prog 195 [.rp [.sl 1 eI xs]] (fun x:Int×Int=>[.int .i64 x.1,.int .i64 x.2]) (bkw xs):=fun w ok β lb hlb l J Jx W hW hY h0=>by
 obtain⟨b,off,p,cap,rfl,hb,hc,hr⟩:=Q7b hlb
 exact Q91 xs l J Jx ok w W b off cap p hlen hb hY ((hW.cell hb).trans hc) (hr.keep hW) h0
end Go.Proofs.YtdcfcldpjfepiaaGreat
