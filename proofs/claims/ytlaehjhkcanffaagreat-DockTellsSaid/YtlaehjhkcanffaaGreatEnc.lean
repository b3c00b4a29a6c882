/- The encodings of the data, and the types' table (written by a program of the prover). -/
import Derived.Test.YtlaehjhkcanffaaGreatLibZQ
import Derived.Test.YtlaehjhkcanffaaGreatLibZX
import Derived.Test.YtlaehjhkcanffaaGreatVc
import Derived.Test.YtlaehjhkcanffaaGreatChecked
import Derived.Test.YtlaehjhkcanffaaGreatLibZC
import Derived.Test.YtlaehjhkcanffaaGreatLibZR
import Derived.Test.YtlaehjhkcanffaaGreatLibZS
import Derived.Test.YtlaehjhkcanffaaGreatLibZT
import Derived.RangeFuncLeaves
import Derived.WalkKit
import Derived.OwnWalkIn
import Derived.TacticsInMore
import Derived.LoopNIn
import Derived.LoopIn
import Derived.KernelRfl
set_option maxRecDepth 100000
set_option maxHeartbeats 8000000
set_option linter.unusedVariables false
set_option linter.unusedSimpArgs false
namespace Go.Proofs.YtlaehjhkcanffaaGreat
open Go Go.Taq
@[reducible] def eI (x:Int):List AVal:=[.i x]
@[reducible] def W5 (x:GY):List AVal:=[.i x.From,.i x.To]
@[reducible] def Ki (x:ApiZone):List AVal:=[.v (.string x.Name),.sl 1 eI x.Cells,.i x.Speed,.i x.Keep,.sl 2 W5 x.Shut]
@[reducible] def XM (x:ApiApart):List AVal:=[.v (.string x.A),.v (.string x.B)]
@[reducible] def Gw (x:ApiShelf):List AVal:=[.i x.Cell,.v (.string x.Class)]
@[reducible] def Gv (x:ApiStart):List AVal:=[.i x.Cell,.i x.Charge]
@[reducible] def QV (x:Qz):List AVal:=[.i x.Cell,.i x.Load,.i x.Charge,.i x.Rest,.i x.Mute,.b x.Dead]
@[reducible] def YD (x:Yy):List AVal:=[.i x.Cell,.i x.Left]
@[reducible] def eLeI (x:List Int):List AVal:=[.sl 1 eI x]
def kI (x:Int):Value:=.int .i64 x
def veI (x:Int):AVal:=.i x
@[reducible] def eB (x:Bool):List AVal:=[.b x]
def veB (x:Bool):AVal:=.b x
@[reducible] def eOeI (x:List Int):List AVal:=[.os 1 eI x]
@[reducible] def Q0 (x:ApiSite):List AVal:=[.i x.Floor.W,.i x.Floor.H,.i x.Floor.D,.sl 1 eI x.Floor.Kind,.sl 1 eI x.Floor.Out,.sl 5 Ki x.Zones,.sl 2 XM x.Aparts,.sl 2 Gw x.Shelves,.sl 2 Gv x.Robots]
@[reducible] def Qi (x:ApiFloor):List AVal:=[.i x.W,.i x.H,.i x.D,.sl 1 eI x.Kind,.sl 1 eI x.Out]
@[reducible] def Q4 (x:ApiState):List AVal:=[.i x.Tick,.sl 1 eI x.Shelves,.sl 6 QV x.Robots,.sl 1 eI x.People,.sl 1 eI x.Dead,.sl 2 YD x.Stuck]
@[reducible] def Q2n (x:QL):List AVal:=[.i x.x,.i x.y,.i x.z]
@[reducible] def eS (x:ByteArray):List AVal:=[.v (.string x)]
@[reducible] def Q2u (x:List GY):List AVal:=[.sl 2 W5 x]
@[reducible] def Q2w (x:List ApiZone):List AVal:=[.sl 5 Ki x]
@[reducible] def Q1G (x:List ApiApart):List AVal:=[.sl 2 XM x]
@[reducible] def Q1B (x:List ApiShelf):List AVal:=[.sl 2 Gw x]
@[reducible] def Q1Q (x:List ApiStart):List AVal:=[.sl 2 Gv x]
@[reducible] def Q1V (x:List Qz):List AVal:=[.sl 6 QV x]
@[reducible] def Q20 (x:List Yy):List AVal:=[.sl 2 YD x]
@[reducible] def Q4c (x:List (List Int)):List AVal:=[.sl 1 eLeI x]
def te3:TE:=⟨.int .i64,1,8,[.int .i64 0]⟩
theorem teok3:TEok Tryz.prog 3 te3:=⟨⟨_,Tryz.underlying3,rfl⟩,Tryz.t3,_,(by kernel_rfl:Tryz.prog.info? 3=some Tryz.t3),rfl,rfl,rfl,rfl,(fun h=>by cases h),rfl,by decide⟩
def te4:TE:=⟨.bool,1,1,[.bool false]⟩
theorem teok4:TEok Tryz.prog 4 te4:=⟨⟨_,Tryz.underlying4,rfl⟩,Tryz.t4,_,(by kernel_rfl:Tryz.prog.info? 4=some Tryz.t4),rfl,rfl,rfl,rfl,(fun h=>by cases h),rfl,by decide⟩
def te5:TE:=⟨.int .u8,1,1,[.int .u8 0]⟩
theorem teok5:TEok Tryz.prog 5 te5:=⟨⟨_,Tryz.underlying5,rfl⟩,Tryz.t5,_,(by kernel_rfl:Tryz.prog.info? 5=some Tryz.t5),rfl,rfl,rfl,rfl,(fun h=>by cases h),rfl,by decide⟩
def te9:TE:=⟨.str,1,16,[.string ByteArray.empty]⟩
theorem teok9:TEok Tryz.prog 9 te9:=⟨⟨_,Tryz.underlying9,rfl⟩,Tryz.t9,_,(by kernel_rfl:Tryz.prog.info? 9=some Tryz.t9),rfl,rfl,rfl,rfl,(fun h=>by cases h),rfl,by decide⟩
def te22:TE:=⟨.sl 3,1,24,[.slice none 0 0]⟩
theorem Q4x:TEok Tryz.prog 22 te22:=⟨⟨_,Tryz.underlying22,rfl⟩,Tryz.t22,_,(by kernel_rfl:Tryz.prog.info? 22=some Tryz.t22),rfl,rfl,rfl,rfl,(fun h=>by cases h),rfl,by decide⟩
def te24:TE:=⟨.st [(0,3),(1,3),(2,3),(3,22),(4,22)],5,72,[.int .i64 0,.int .i64 0,.int .i64 0,.slice none 0 0,.slice none 0 0]⟩
theorem Q4b:TEok Tryz.prog 24 te24:=⟨⟨_,Tryz.underlying24,⟨_,rfl,rfl⟩⟩,Tryz.t24,_,(by kernel_rfl:Tryz.prog.info? 24=some Tryz.t24),rfl,rfl,rfl,rfl,(fun _=>⟨_,rfl⟩),rfl,by decide⟩
def te25:TE:=⟨.sl 73,1,24,[.slice none 0 0]⟩
theorem Q4C:TEok Tryz.prog 25 te25:=⟨⟨_,Tryz.underlying25,rfl⟩,Tryz.t25,_,(by kernel_rfl:Tryz.prog.info? 25=some Tryz.t25),rfl,rfl,rfl,rfl,(fun h=>by cases h),rfl,by decide⟩
def te26:TE:=⟨.sl 75,1,24,[.slice none 0 0]⟩
theorem Q4H:TEok Tryz.prog 26 te26:=⟨⟨_,Tryz.underlying26,rfl⟩,Tryz.t26,_,(by kernel_rfl:Tryz.prog.info? 26=some Tryz.t26),rfl,rfl,rfl,rfl,(fun h=>by cases h),rfl,by decide⟩
def te27:TE:=⟨.sl 77,1,24,[.slice none 0 0]⟩
theorem Q4f:TEok Tryz.prog 27 te27:=⟨⟨_,Tryz.underlying27,rfl⟩,Tryz.t27,_,(by kernel_rfl:Tryz.prog.info? 27=some Tryz.t27),rfl,rfl,rfl,rfl,(fun h=>by cases h),rfl,by decide⟩
def te28:TE:=⟨.sl 83,1,24,[.slice none 0 0]⟩
theorem Q4O:TEok Tryz.prog 28 te28:=⟨⟨_,Tryz.underlying28,rfl⟩,Tryz.t28,_,(by kernel_rfl:Tryz.prog.info? 28=some Tryz.t28),rfl,rfl,rfl,rfl,(fun h=>by cases h),rfl,by decide⟩
def te30:TE:=⟨.st [(0,24),(5,25),(6,26),(7,27),(8,28)],9,168,[.int .i64 0,.int .i64 0,.int .i64 0,.slice none 0 0,.slice none 0 0,.slice none 0 0,.slice none 0 0,.slice none 0 0,.slice none 0 0]⟩
theorem Q48:TEok Tryz.prog 30 te30:=⟨⟨_,Tryz.underlying30,⟨_,rfl,rfl⟩⟩,Tryz.t30,_,(by kernel_rfl:Tryz.prog.info? 30=some Tryz.t30),rfl,rfl,rfl,rfl,(fun _=>⟨_,rfl⟩),rfl,by decide⟩
def te31:TE:=⟨.sl 61,1,24,[.slice none 0 0]⟩
theorem Q4a:TEok Tryz.prog 31 te31:=⟨⟨_,Tryz.underlying31,rfl⟩,Tryz.t31,_,(by kernel_rfl:Tryz.prog.info? 31=some Tryz.t31),rfl,rfl,rfl,rfl,(fun h=>by cases h),rfl,by decide⟩
def te32:TE:=⟨.sl 91,1,24,[.slice none 0 0]⟩
theorem Q45:TEok Tryz.prog 32 te32:=⟨⟨_,Tryz.underlying32,rfl⟩,Tryz.t32,_,(by kernel_rfl:Tryz.prog.info? 32=some Tryz.t32),rfl,rfl,rfl,rfl,(fun h=>by cases h),rfl,by decide⟩
def te34:TE:=⟨.st [(0,3),(1,22),(2,31),(3,22),(4,22),(5,32)],6,128,[.int .i64 0,.slice none 0 0,.slice none 0 0,.slice none 0 0,.slice none 0 0,.slice none 0 0]⟩
theorem Q4B:TEok Tryz.prog 34 te34:=⟨⟨_,Tryz.underlying34,⟨_,rfl,rfl⟩⟩,Tryz.t34,_,(by kernel_rfl:Tryz.prog.info? 34=some Tryz.t34),rfl,rfl,rfl,rfl,(fun _=>⟨_,rfl⟩),rfl,by decide⟩
def te35:TE:=⟨.sl 22,1,24,[.slice none 0 0]⟩
theorem Q4r:TEok Tryz.prog 35 te35:=⟨⟨_,Tryz.underlying35,rfl⟩,Tryz.t35,_,(by kernel_rfl:Tryz.prog.info? 35=some Tryz.t35),rfl,rfl,rfl,rfl,(fun h=>by cases h),rfl,by decide⟩
def te58:TE:=⟨.sl 4,1,24,[.slice none 0 0]⟩
theorem Q44:TEok Tryz.prog 58 te58:=⟨⟨_,Tryz.underlying58,rfl⟩,Tryz.t58,_,(by kernel_rfl:Tryz.prog.info? 58=some Tryz.t58),rfl,rfl,rfl,rfl,(fun h=>by cases h),rfl,by decide⟩
def te61:TE:=⟨.st [(0,3),(1,3),(2,3),(3,3),(4,3),(5,4)],6,48,[.int .i64 0,.int .i64 0,.int .i64 0,.int .i64 0,.int .i64 0,.bool false]⟩
theorem Q49:TEok Tryz.prog 61 te61:=⟨⟨_,Tryz.underlying61,⟨_,rfl,rfl⟩⟩,Tryz.t61,_,(by kernel_rfl:Tryz.prog.info? 61=some Tryz.t61),rfl,rfl,rfl,rfl,(fun _=>⟨_,rfl⟩),rfl,by decide⟩
def te67:TE:=⟨.fn,1,8,[.nilFunc]⟩
theorem Q43:TEok Tryz.prog 67 te67:=⟨⟨_,Tryz.underlying67,⟨_,_,_,rfl⟩⟩,Tryz.t67,_,(by kernel_rfl:Tryz.prog.info? 67=some Tryz.t67),rfl,rfl,rfl,rfl,(fun h=>by cases h),rfl,by decide⟩
def te70:TE:=⟨.fn,1,8,[.nilFunc]⟩
theorem Q4J:TEok Tryz.prog 70 te70:=⟨⟨_,Tryz.underlying70,⟨_,_,_,rfl⟩⟩,Tryz.t70,_,(by kernel_rfl:Tryz.prog.info? 70=some Tryz.t70),rfl,rfl,rfl,rfl,(fun h=>by cases h),rfl,by decide⟩
def te71:TE:=⟨.sl 133,1,24,[.slice none 0 0]⟩
theorem Q4o:TEok Tryz.prog 71 te71:=⟨⟨_,Tryz.underlying71,rfl⟩,Tryz.t71,_,(by kernel_rfl:Tryz.prog.info? 71=some Tryz.t71),rfl,rfl,rfl,rfl,(fun h=>by cases h),rfl,by decide⟩
def te73:TE:=⟨.st [(0,9),(1,22),(2,3),(3,3),(4,71)],5,80,[.string ByteArray.empty,.slice none 0 0,.int .i64 0,.int .i64 0,.slice none 0 0]⟩
theorem Q4d:TEok Tryz.prog 73 te73:=⟨⟨_,Tryz.underlying73,⟨_,rfl,rfl⟩⟩,Tryz.t73,_,(by kernel_rfl:Tryz.prog.info? 73=some Tryz.t73),rfl,rfl,rfl,rfl,(fun _=>⟨_,rfl⟩),rfl,by decide⟩
def te75:TE:=⟨.st [(0,9),(1,9)],2,32,[.string ByteArray.empty,.string ByteArray.empty]⟩
theorem Q4y:TEok Tryz.prog 75 te75:=⟨⟨_,Tryz.underlying75,⟨_,rfl,rfl⟩⟩,Tryz.t75,_,(by kernel_rfl:Tryz.prog.info? 75=some Tryz.t75),rfl,rfl,rfl,rfl,(fun _=>⟨_,rfl⟩),rfl,by decide⟩
def te77:TE:=⟨.st [(0,3),(1,9)],2,24,[.int .i64 0,.string ByteArray.empty]⟩
theorem Q46:TEok Tryz.prog 77 te77:=⟨⟨_,Tryz.underlying77,⟨_,rfl,rfl⟩⟩,Tryz.t77,_,(by kernel_rfl:Tryz.prog.info? 77=some Tryz.t77),rfl,rfl,rfl,rfl,(fun _=>⟨_,rfl⟩),rfl,by decide⟩
def te83:TE:=⟨.st [(0,3),(1,3)],2,16,[.int .i64 0,.int .i64 0]⟩
theorem Q4i:TEok Tryz.prog 83 te83:=⟨⟨_,Tryz.underlying83,⟨_,rfl,rfl⟩⟩,Tryz.t83,_,(by kernel_rfl:Tryz.prog.info? 83=some Tryz.t83),rfl,rfl,rfl,rfl,(fun _=>⟨_,rfl⟩),rfl,by decide⟩
def te91:TE:=⟨.st [(0,3),(1,3)],2,16,[.int .i64 0,.int .i64 0]⟩
theorem Q4g:TEok Tryz.prog 91 te91:=⟨⟨_,Tryz.underlying91,⟨_,rfl,rfl⟩⟩,Tryz.t91,_,(by kernel_rfl:Tryz.prog.info? 91=some Tryz.t91),rfl,rfl,rfl,rfl,(fun _=>⟨_,rfl⟩),rfl,by decide⟩
def te93:TE:=⟨.int .u64,1,8,[.int .u64 0]⟩
theorem Q4q:TEok Tryz.prog 93 te93:=⟨⟨_,Tryz.underlying93,rfl⟩,Tryz.t93,_,(by kernel_rfl:Tryz.prog.info? 93=some Tryz.t93),rfl,rfl,rfl,rfl,(fun h=>by cases h),rfl,by decide⟩
def te101:TE:=⟨.pt 104,1,8,[.pointer none]⟩
theorem Q3D:TEok Tryz.prog 101 te101:=⟨⟨_,Tryz.underlying101,rfl⟩,Tryz.t101,_,(by kernel_rfl:Tryz.prog.info? 101=some Tryz.t101),rfl,rfl,rfl,rfl,(fun h=>by cases h),rfl,by decide⟩
def te102:TE:=⟨.mp 3 3,1,8,[.map none]⟩
theorem Q3M:TEok Tryz.prog 102 te102:=⟨⟨_,Tryz.underlying102,rfl⟩,Tryz.t102,_,(by kernel_rfl:Tryz.prog.info? 102=some Tryz.t102),rfl,rfl,rfl,rfl,(fun h=>by cases h),rfl,by decide⟩
def te104:TE:=⟨.st [(0,35),(1,102)],2,32,[.slice none 0 0,.map none]⟩
theorem Q3K:TEok Tryz.prog 104 te104:=⟨⟨_,Tryz.underlying104,⟨_,rfl,rfl⟩⟩,Tryz.t104,_,(by kernel_rfl:Tryz.prog.info? 104=some Tryz.t104),rfl,rfl,rfl,rfl,(fun _=>⟨_,rfl⟩),rfl,by decide⟩
def te116:TE:=⟨.int .u64,1,8,[.int .u64 0]⟩
theorem Q40:TEok Tryz.prog 116 te116:=⟨⟨_,Tryz.underlying116,rfl⟩,Tryz.t116,_,(by kernel_rfl:Tryz.prog.info? 116=some Tryz.t116),rfl,rfl,rfl,rfl,(fun h=>by cases h),rfl,by decide⟩
def te122:TE:=⟨.st [(0,3),(1,3),(2,3)],3,24,[.int .i64 0,.int .i64 0,.int .i64 0]⟩
theorem Q3H:TEok Tryz.prog 122 te122:=⟨⟨_,Tryz.underlying122,⟨_,rfl,rfl⟩⟩,Tryz.t122,_,(by kernel_rfl:Tryz.prog.info? 122=some Tryz.t122),rfl,rfl,rfl,rfl,(fun _=>⟨_,rfl⟩),rfl,by decide⟩
def te123:TE:=⟨.ar 6 122,18,144,List.replicate 18 (.int .i64 0)⟩
theorem Q3N:TEok Tryz.prog 123 te123:=⟨⟨_,Tryz.underlying123,rfl⟩,Tryz.t123,_,(by kernel_rfl:Tryz.prog.info? 123=some Tryz.t123),rfl,rfl,rfl,rfl,(fun _=>⟨_,rfl⟩),rfl,by decide⟩
def te130:TE:=⟨.mp 3 4,1,8,[.map none]⟩
theorem Q3R:TEok Tryz.prog 130 te130:=⟨⟨_,Tryz.underlying130,rfl⟩,Tryz.t130,_,(by kernel_rfl:Tryz.prog.info? 130=some Tryz.t130),rfl,rfl,rfl,rfl,(fun h=>by cases h),rfl,by decide⟩
def te133:TE:=⟨.st [(0,3),(1,3)],2,16,[.int .i64 0,.int .i64 0]⟩
theorem Q3W:TEok Tryz.prog 133 te133:=⟨⟨_,Tryz.underlying133,⟨_,rfl,rfl⟩⟩,Tryz.t133,_,(by kernel_rfl:Tryz.prog.info? 133=some Tryz.t133),rfl,rfl,rfl,rfl,(fun _=>⟨_,rfl⟩),rfl,by decide⟩
def te137:TE:=⟨.fn,1,8,[.nilFunc]⟩
theorem Q3X:TEok Tryz.prog 137 te137:=⟨⟨_,Tryz.underlying137,⟨_,_,_,rfl⟩⟩,Tryz.t137,_,(by kernel_rfl:Tryz.prog.info? 137=some Tryz.t137),rfl,rfl,rfl,rfl,(fun h=>by cases h),rfl,by decide⟩
def tab:Tab:=[(3,te3),(4,te4),(5,te5),(9,te9),(22,te22),(24,te24),(25,te25),(26,te26),(27,te27),(28,te28),(30,te30),(31,te31),(32,te32),(34,te34),(35,te35),(58,te58),(61,te61),(67,te67),(70,te70),(71,te71),(73,te73),(75,te75),(77,te77),(83,te83),(91,te91),(93,te93),(101,te101),(102,te102),(104,te104),(116,te116),(122,te122),(123,te123),(130,te130),(133,te133),(137,te137)]
theorem T:Qn Tryz.prog tab:=(.cons teok3 (.cons teok4 (.cons teok5 (.cons teok9 (.cons Q4x (.cons Q4b (.cons Q4C (.cons Q4H (.cons Q4f (.cons Q4O (.cons Q48 (.cons Q4a (.cons Q45 (.cons Q4B (.cons Q4r (.cons Q44 (.cons Q49 (.cons Q43 (.cons Q4J (.cons Q4o (.cons Q4d (.cons Q4y (.cons Q46 (.cons Q4i (.cons Q4g (.cons Q4q (.cons Q3D (.cons Q3M (.cons Q3K (.cons Q40 (.cons Q3H (.cons Q3N (.cons Q3R (.cons Q3W (.cons Q3X Qn.nil)))))))))))))))))))))))))))))))))))
theorem kt3:KeyT Tryz.prog 3 kI:=KeyT.int Tryz.underlying3
theorem zt3:Q2R Tryz.prog 3 veI 0:=⟨(.int .i64 0),fun w=>by kernel_rfl,fun _ _=>(.v _)⟩
theorem zt4:Q2R Tryz.prog 4 veB false:=⟨(.bool false),fun w=>by kernel_rfl,fun _ _=>(.v _)⟩
theorem mix:Tryz.prog.follows .mixedOrders=true:=by kernel_rfl
theorem en4:Q2 Tryz.prog 4:=fun args w=>Tryz.call4 args w
theorem en5:Q2 Tryz.prog 5:=fun args w=>Tryz.call5 args w
theorem en6:Q2 Tryz.prog 6:=fun args w=>Tryz.call6 args w
theorem en7:Q2 Tryz.prog 7:=fun args w=>Tryz.call7 args w
theorem en8:Q2 Tryz.prog 8:=fun args w=>Tryz.call8 args w
theorem en9:Q2 Tryz.prog 9:=fun args w=>Tryz.call9 args w
theorem en10:Q2 Tryz.prog 10:=fun args w=>Tryz.call10 args w
theorem en11:Q2 Tryz.prog 11:=fun args w=>Tryz.call11 args w
theorem en12:Q2 Tryz.prog 12:=fun args w=>Tryz.call12 args w
theorem en13:Q2 Tryz.prog 13:=fun args w=>Tryz.call13 args w
theorem en14:Q2 Tryz.prog 14:=fun args w=>Tryz.call14 args w
theorem en15:Q2 Tryz.prog 15:=fun args w=>Tryz.call15 args w
theorem en16:Q2 Tryz.prog 16:=fun args w=>Tryz.call16 args w
theorem en17:Q2 Tryz.prog 17:=fun args w=>Tryz.call17 args w
theorem en18:Q2 Tryz.prog 18:=fun args w=>Tryz.call18 args w
theorem en19:Q2 Tryz.prog 19:=fun args w=>Tryz.call19 args w
theorem en20:Q2 Tryz.prog 20:=fun args w=>Tryz.call20 args w
theorem en21:Q2 Tryz.prog 21:=fun args w=>Tryz.call21 args w
theorem en22:Q2 Tryz.prog 22:=fun args w=>Tryz.call22 args w
theorem en23:Q2 Tryz.prog 23:=fun args w=>Tryz.call23 args w
theorem en24:Q2 Tryz.prog 24:=fun args w=>Tryz.call24 args w
theorem en25:Q2 Tryz.prog 25:=fun args w=>Tryz.call25 args w
theorem en26:Q2 Tryz.prog 26:=fun args w=>Tryz.call26 args w
theorem en27:Q2 Tryz.prog 27:=fun args w=>Tryz.call27 args w
theorem en28:Q2 Tryz.prog 28:=fun args w=>Tryz.call28 args w
theorem en29:Q2 Tryz.prog 29:=fun args w=>Tryz.call29 args w
theorem en30:Q2 Tryz.prog 30:=fun args w=>Tryz.call30 args w
theorem en31:Q2 Tryz.prog 31:=fun args w=>Tryz.call31 args w
theorem en32:Q2 Tryz.prog 32:=fun args w=>Tryz.call32 args w
theorem en33:Q2 Tryz.prog 33:=fun args w=>Tryz.call33 args w
theorem en34:Q2 Tryz.prog 34:=fun args w=>Tryz.call34 args w
theorem en35:Q2 Tryz.prog 35:=fun args w=>Tryz.call35 args w
theorem en36:Q2 Tryz.prog 36:=fun args w=>Tryz.call36 args w
theorem en37:Q2 Tryz.prog 37:=fun args w=>Tryz.call37 args w
theorem en38:Q2 Tryz.prog 38:=fun args w=>Tryz.call38 args w
theorem en39:Q2 Tryz.prog 39:=fun args w=>Tryz.call39 args w
theorem en40:Q2 Tryz.prog 40:=fun args w=>Tryz.call40 args w
theorem en41:Q2 Tryz.prog 41:=fun args w=>Tryz.call41 args w
theorem en42:Q2 Tryz.prog 42:=fun args w=>Tryz.call42 args w
theorem en43:Q2 Tryz.prog 43:=fun args w=>Tryz.call43 args w
theorem en44:Q2 Tryz.prog 44:=fun args w=>Tryz.call44 args w
theorem en45:Q2 Tryz.prog 45:=fun args w=>Tryz.call45 args w
theorem en46:Q2 Tryz.prog 46:=fun args w=>Tryz.call46 args w
theorem en47:Q2 Tryz.prog 47:=fun args w=>Tryz.call47 args w
theorem en48:Q2 Tryz.prog 48:=fun args w=>Tryz.call48 args w
theorem en49:Q2 Tryz.prog 49:=fun args w=>Tryz.call49 args w
theorem en50:Q2 Tryz.prog 50:=fun args w=>Tryz.call50 args w
theorem en51:Q2 Tryz.prog 51:=fun args w=>Tryz.call51 args w
theorem en52:Q2 Tryz.prog 52:=fun args w=>Tryz.call52 args w
theorem en53:Q2 Tryz.prog 53:=fun args w=>Tryz.call53 args w
theorem en54:Q2 Tryz.prog 54:=fun args w=>Tryz.call54 args w
theorem en55:Q2 Tryz.prog 55:=fun args w=>Tryz.call55 args w
theorem en56:Q2 Tryz.prog 56:=fun args w=>Tryz.call56 args w
theorem en57:Q2 Tryz.prog 57:=fun args w=>Tryz.call57 args w
theorem en58:Q2 Tryz.prog 58:=fun args w=>Tryz.call58 args w
theorem en59:Q2 Tryz.prog 59:=fun args w=>Tryz.call59 args w
theorem en60:Q2 Tryz.prog 60:=fun args w=>Tryz.call60 args w
theorem en61:Q2 Tryz.prog 61:=fun args w=>Tryz.call61 args w
theorem en62:Q2 Tryz.prog 62:=fun args w=>Tryz.call62 args w
theorem en63:Q2 Tryz.prog 63:=fun args w=>Tryz.call63 args w
theorem en64:Q2 Tryz.prog 64:=fun args w=>Tryz.call64 args w
theorem en65:Q2 Tryz.prog 65:=fun args w=>Tryz.call65 args w
theorem en66:Q2 Tryz.prog 66:=fun args w=>Tryz.call66 args w
theorem en67:Q2 Tryz.prog 67:=fun args w=>Tryz.call67 args w
theorem en68:Q2 Tryz.prog 68:=fun args w=>Tryz.call68 args w
theorem en69:Q2 Tryz.prog 69:=fun args w=>Tryz.call69 args w
theorem en70:Q2 Tryz.prog 70:=fun args w=>Tryz.call70 args w
theorem en71:Q2 Tryz.prog 71:=fun args w=>Tryz.call71 args w
theorem en72:Q2 Tryz.prog 72:=fun args w=>Tryz.call72 args w
theorem en73:Q2 Tryz.prog 73:=fun args w=>Tryz.call73 args w
theorem en74:Q2 Tryz.prog 74:=fun args w=>Tryz.call74 args w
theorem en75:Q2 Tryz.prog 75:=fun args w=>Tryz.call75 args w
theorem en76:Q2 Tryz.prog 76:=fun args w=>Tryz.call76 args w
theorem en77:Q2 Tryz.prog 77:=fun args w=>Tryz.call77 args w
theorem en78:Q2 Tryz.prog 78:=fun args w=>Tryz.call78 args w
theorem en79:Q2 Tryz.prog 79:=fun args w=>Tryz.call79 args w
theorem en80:Q2 Tryz.prog 80:=fun args w=>Tryz.call80 args w
theorem en81:Q2 Tryz.prog 81:=fun args w=>Tryz.call81 args w
theorem en82:Q2 Tryz.prog 82:=fun args w=>Tryz.call82 args w
theorem en83:Q2 Tryz.prog 83:=fun args w=>Tryz.call83 args w
theorem en84:Q2 Tryz.prog 84:=fun args w=>Tryz.call84 args w
theorem en85:Q2 Tryz.prog 85:=fun args w=>Tryz.call85 args w
theorem en86:Q2 Tryz.prog 86:=fun args w=>Tryz.call86 args w
theorem en87:Q2 Tryz.prog 87:=fun args w=>Tryz.call87 args w
theorem en89:Q2 Tryz.prog 89:=fun args w=>Tryz.call89 args w
theorem en90:Q2 Tryz.prog 90:=fun args w=>Tryz.call90 args w
theorem en91:Q2 Tryz.prog 91:=fun args w=>Tryz.call91 args w
theorem en92:Q2 Tryz.prog 92:=fun args w=>Tryz.call92 args w
theorem en93:Q2 Tryz.prog 93:=fun args w=>Tryz.call93 args w
theorem en94:Q2 Tryz.prog 94:=fun args w=>Tryz.call94 args w
theorem en95:Q2 Tryz.prog 95:=fun args w=>Tryz.call95 args w
theorem en96:Q2 Tryz.prog 96:=fun args w=>Tryz.call96 args w
theorem en97:Q2 Tryz.prog 97:=fun args w=>Tryz.call97 args w
theorem en98:Q2 Tryz.prog 98:=fun args w=>Tryz.call98 args w
theorem en99:Q2 Tryz.prog 99:=fun args w=>Tryz.call99 args w
theorem Q54:Q2 Tryz.prog 100:=fun args w=>Tryz.call100 args w
theorem Q4P:Q2 Tryz.prog 103:=fun args w=>Tryz.call103 args w
theorem Q4W:Q2 Tryz.prog 104:=fun args w=>Tryz.call104 args w
theorem Q59:Q2 Tryz.prog 105:=fun args w=>Tryz.call105 args w
theorem Q51:Q2 Tryz.prog 106:=fun args w=>Tryz.call106 args w
theorem Q55:Q2 Tryz.prog 107:=fun args w=>Tryz.call107 args w
theorem Q53:Q2 Tryz.prog 108:=fun args w=>Tryz.call108 args w
theorem Q4V:Q2 Tryz.prog 109:=fun args w=>Tryz.call109 args w
theorem Q4X:Q2 Tryz.prog 110:=fun args w=>Tryz.call110 args w
theorem Q4U:Q2 Tryz.prog 111:=fun args w=>Tryz.call111 args w
theorem Q50:Q2 Tryz.prog 118:=fun args w=>Tryz.call118 args w
theorem Q4n:Q2 Tryz.prog 123:=fun args w=>Tryz.call123 args w
theorem Q4p:Q2 Tryz.prog 129:=fun args w=>Tryz.call129 args w
theorem op3:Qd Tryz.prog 3 eI I64:=Qd.i64 Tryz.underlying3
theorem op22:Qd Tryz.prog 22 eLeI (OkL I64):=Qd.slice Tryz.underlying22 (n:=1) (by kernel_rfl) (by decide) op3
theorem op24:Qd Tryz.prog 24 Qi Q09:=fun enc w held fuel cells d ps ht=>by
 obtain⟨fuel',hl,hf⟩:=Qd.st (N:=5) Tryz.underlying24 (by kernel_rfl) ht
 obtain⟨x0,k0,l0,c0⟩:=Qd.fld op3 (n:=1) (off:=0) (by kernel_rfl) (by omega) (hf _ (List.mem_of_getElem? (i:=0) rfl))
 obtain⟨x1,k1,l1,c1⟩:=Qd.fld op3 (n:=1) (off:=1) (by kernel_rfl) (by omega) (hf _ (List.mem_of_getElem? (i:=1) rfl))
 obtain⟨x2,k2,l2,c2⟩:=Qd.fld op3 (n:=1) (off:=2) (by kernel_rfl) (by omega) (hf _ (List.mem_of_getElem? (i:=2) rfl))
 obtain⟨x3,k3,l3,c3⟩:=Qd.fld op22 (n:=1) (off:=3) (by kernel_rfl) (by omega) (hf _ (List.mem_of_getElem? (i:=3) rfl))
 obtain⟨x4,k4,l4,c4⟩:=Qd.fld op22 (n:=1) (off:=4) (by kernel_rfl) (by omega) (hf _ (List.mem_of_getElem? (i:=4) rfl))
 have hc:Cov w cells 0 (Qi ⟨x0,x1,x2,x3,x4⟩):=(c0.app (c1.app (c2.app (c3.app (c4.app Cov.nil)))))
 exact⟨⟨x0,x1,x2,x3,x4⟩,⟨k0,k1,k2,k3,k4⟩,by rw [hl];rfl,fun j A v hA hv=>hc j A v hA (by simpa using hv)⟩
theorem op9:Qd Tryz.prog 9 eS OkS:=Qd.str Tryz.underlying9
theorem Q56:Qd Tryz.prog 133 W5 ZJ:=fun enc w held fuel cells d ps ht=>by
 obtain⟨fuel',hl,hf⟩:=Qd.st (N:=2) Tryz.underlying133 (by kernel_rfl) ht
 obtain⟨x0,k0,l0,c0⟩:=Qd.fld op3 (n:=1) (off:=0) (by kernel_rfl) (by omega) (hf _ (List.mem_of_getElem? (i:=0) rfl))
 obtain⟨x1,k1,l1,c1⟩:=Qd.fld op3 (n:=1) (off:=1) (by kernel_rfl) (by omega) (hf _ (List.mem_of_getElem? (i:=1) rfl))
 have hc:Cov w cells 0 (W5 ⟨x0,x1⟩):=(c0.app (c1.app Cov.nil))
 exact⟨⟨x0,x1⟩,⟨k0,k1⟩,by rw [hl];rfl,fun j A v hA hv=>hc j A v hA (by simpa using hv)⟩
theorem op71:Qd Tryz.prog 71 Q2u (OkL ZJ):=Qd.slice Tryz.underlying71 (n:=2) (by kernel_rfl) (by decide) Q56
theorem op73:Qd Tryz.prog 73 Ki Zt:=fun enc w held fuel cells d ps ht=>by
 obtain⟨fuel',hl,hf⟩:=Qd.st (N:=5) Tryz.underlying73 (by kernel_rfl) ht
 obtain⟨x0,k0,l0,c0⟩:=Qd.fld op9 (n:=1) (off:=0) (by kernel_rfl) (by omega) (hf _ (List.mem_of_getElem? (i:=0) rfl))
 obtain⟨x1,k1,l1,c1⟩:=Qd.fld op22 (n:=1) (off:=1) (by kernel_rfl) (by omega) (hf _ (List.mem_of_getElem? (i:=1) rfl))
 obtain⟨x2,k2,l2,c2⟩:=Qd.fld op3 (n:=1) (off:=2) (by kernel_rfl) (by omega) (hf _ (List.mem_of_getElem? (i:=2) rfl))
 obtain⟨x3,k3,l3,c3⟩:=Qd.fld op3 (n:=1) (off:=3) (by kernel_rfl) (by omega) (hf _ (List.mem_of_getElem? (i:=3) rfl))
 obtain⟨x4,k4,l4,c4⟩:=Qd.fld op71 (n:=1) (off:=4) (by kernel_rfl) (by omega) (hf _ (List.mem_of_getElem? (i:=4) rfl))
 have hc:Cov w cells 0 (Ki ⟨x0,x1,x2,x3,x4⟩):=(c0.app (c1.app (c2.app (c3.app (c4.app Cov.nil)))))
 exact⟨⟨x0,x1,x2,x3,x4⟩,⟨k0,k1,k2,k3,k4⟩,by rw [hl];rfl,fun j A v hA hv=>hc j A v hA (by simpa using hv)⟩
theorem op25:Qd Tryz.prog 25 Q2w (OkL Zt):=Qd.slice Tryz.underlying25 (n:=5) (by kernel_rfl) (by decide) op73
theorem op75:Qd Tryz.prog 75 XM YL:=fun enc w held fuel cells d ps ht=>by
 obtain⟨fuel',hl,hf⟩:=Qd.st (N:=2) Tryz.underlying75 (by kernel_rfl) ht
 obtain⟨x0,k0,l0,c0⟩:=Qd.fld op9 (n:=1) (off:=0) (by kernel_rfl) (by omega) (hf _ (List.mem_of_getElem? (i:=0) rfl))
 obtain⟨x1,k1,l1,c1⟩:=Qd.fld op9 (n:=1) (off:=1) (by kernel_rfl) (by omega) (hf _ (List.mem_of_getElem? (i:=1) rfl))
 have hc:Cov w cells 0 (XM ⟨x0,x1⟩):=(c0.app (c1.app Cov.nil))
 exact⟨⟨x0,x1⟩,⟨k0,k1⟩,by rw [hl];rfl,fun j A v hA hv=>hc j A v hA (by simpa using hv)⟩
theorem op26:Qd Tryz.prog 26 Q1G (OkL YL):=Qd.slice Tryz.underlying26 (n:=2) (by kernel_rfl) (by decide) op75
theorem op77:Qd Tryz.prog 77 Gw YQ:=fun enc w held fuel cells d ps ht=>by
 obtain⟨fuel',hl,hf⟩:=Qd.st (N:=2) Tryz.underlying77 (by kernel_rfl) ht
 obtain⟨x0,k0,l0,c0⟩:=Qd.fld op3 (n:=1) (off:=0) (by kernel_rfl) (by omega) (hf _ (List.mem_of_getElem? (i:=0) rfl))
 obtain⟨x1,k1,l1,c1⟩:=Qd.fld op9 (n:=1) (off:=1) (by kernel_rfl) (by omega) (hf _ (List.mem_of_getElem? (i:=1) rfl))
 have hc:Cov w cells 0 (Gw ⟨x0,x1⟩):=(c0.app (c1.app Cov.nil))
 exact⟨⟨x0,x1⟩,⟨k0,k1⟩,by rw [hl];rfl,fun j A v hA hv=>hc j A v hA (by simpa using hv)⟩
theorem op27:Qd Tryz.prog 27 Q1B (OkL YQ):=Qd.slice Tryz.underlying27 (n:=2) (by kernel_rfl) (by decide) op77
theorem op83:Qd Tryz.prog 83 Gv YR:=fun enc w held fuel cells d ps ht=>by
 obtain⟨fuel',hl,hf⟩:=Qd.st (N:=2) Tryz.underlying83 (by kernel_rfl) ht
 obtain⟨x0,k0,l0,c0⟩:=Qd.fld op3 (n:=1) (off:=0) (by kernel_rfl) (by omega) (hf _ (List.mem_of_getElem? (i:=0) rfl))
 obtain⟨x1,k1,l1,c1⟩:=Qd.fld op3 (n:=1) (off:=1) (by kernel_rfl) (by omega) (hf _ (List.mem_of_getElem? (i:=1) rfl))
 have hc:Cov w cells 0 (Gv ⟨x0,x1⟩):=(c0.app (c1.app Cov.nil))
 exact⟨⟨x0,x1⟩,⟨k0,k1⟩,by rw [hl];rfl,fun j A v hA hv=>hc j A v hA (by simpa using hv)⟩
theorem op28:Qd Tryz.prog 28 Q1Q (OkL YR):=Qd.slice Tryz.underlying28 (n:=2) (by kernel_rfl) (by decide) op83
theorem op30:Qd Tryz.prog 30 Q0 OkApiSite:=fun enc w held fuel cells d ps ht=>by
 obtain⟨fuel',hl,hf⟩:=Qd.st (N:=9) Tryz.underlying30 (by kernel_rfl) ht
 obtain⟨x0,k0,l0,c0⟩:=Qd.fld op24 (n:=5) (off:=0) (by kernel_rfl) (by omega) (hf _ (List.mem_of_getElem? (i:=0) rfl))
 obtain⟨x1,k1,l1,c1⟩:=Qd.fld op25 (n:=1) (off:=5) (by kernel_rfl) (by omega) (hf _ (List.mem_of_getElem? (i:=1) rfl))
 obtain⟨x2,k2,l2,c2⟩:=Qd.fld op26 (n:=1) (off:=6) (by kernel_rfl) (by omega) (hf _ (List.mem_of_getElem? (i:=2) rfl))
 obtain⟨x3,k3,l3,c3⟩:=Qd.fld op27 (n:=1) (off:=7) (by kernel_rfl) (by omega) (hf _ (List.mem_of_getElem? (i:=3) rfl))
 obtain⟨x4,k4,l4,c4⟩:=Qd.fld op28 (n:=1) (off:=8) (by kernel_rfl) (by omega) (hf _ (List.mem_of_getElem? (i:=4) rfl))
 have hc:Cov w cells 0 (Q0 ⟨x0,x1,x2,x3,x4⟩):=(c0.app (c1.app (c2.app (c3.app (c4.app Cov.nil)))))
 exact⟨⟨x0,x1,x2,x3,x4⟩,⟨k0,k1,k2,k3,k4⟩,by rw [hl];rfl,fun j A v hA hv=>hc j A v hA (by simpa using hv)⟩
theorem op4:Qd Tryz.prog 4 eB (fun (_:Bool)=>True):=Qd.bool Tryz.underlying4
theorem op61:Qd Tryz.prog 61 QV YP:=fun enc w held fuel cells d ps ht=>by
 obtain⟨fuel',hl,hf⟩:=Qd.st (N:=6) Tryz.underlying61 (by kernel_rfl) ht
 obtain⟨x0,k0,l0,c0⟩:=Qd.fld op3 (n:=1) (off:=0) (by kernel_rfl) (by omega) (hf _ (List.mem_of_getElem? (i:=0) rfl))
 obtain⟨x1,k1,l1,c1⟩:=Qd.fld op3 (n:=1) (off:=1) (by kernel_rfl) (by omega) (hf _ (List.mem_of_getElem? (i:=1) rfl))
 obtain⟨x2,k2,l2,c2⟩:=Qd.fld op3 (n:=1) (off:=2) (by kernel_rfl) (by omega) (hf _ (List.mem_of_getElem? (i:=2) rfl))
 obtain⟨x3,k3,l3,c3⟩:=Qd.fld op3 (n:=1) (off:=3) (by kernel_rfl) (by omega) (hf _ (List.mem_of_getElem? (i:=3) rfl))
 obtain⟨x4,k4,l4,c4⟩:=Qd.fld op3 (n:=1) (off:=4) (by kernel_rfl) (by omega) (hf _ (List.mem_of_getElem? (i:=4) rfl))
 obtain⟨x5,k5,l5,c5⟩:=Qd.fld op4 (n:=1) (off:=5) (by kernel_rfl) (by omega) (hf _ (List.mem_of_getElem? (i:=5) rfl))
 have hc:Cov w cells 0 (QV ⟨x0,x1,x2,x3,x4,x5⟩):=(c0.app (c1.app (c2.app (c3.app (c4.app (c5.app Cov.nil))))))
 exact⟨⟨x0,x1,x2,x3,x4,x5⟩,⟨k0,k1,k2,k3,k4,k5⟩,by rw [hl];rfl,fun j A v hA hv=>hc j A v hA (by simpa using hv)⟩
theorem op31:Qd Tryz.prog 31 Q1V (OkL YP):=Qd.slice Tryz.underlying31 (n:=6) (by kernel_rfl) (by decide) op61
theorem op91:Qd Tryz.prog 91 YD Z2:=fun enc w held fuel cells d ps ht=>by
 obtain⟨fuel',hl,hf⟩:=Qd.st (N:=2) Tryz.underlying91 (by kernel_rfl) ht
 obtain⟨x0,k0,l0,c0⟩:=Qd.fld op3 (n:=1) (off:=0) (by kernel_rfl) (by omega) (hf _ (List.mem_of_getElem? (i:=0) rfl))
 obtain⟨x1,k1,l1,c1⟩:=Qd.fld op3 (n:=1) (off:=1) (by kernel_rfl) (by omega) (hf _ (List.mem_of_getElem? (i:=1) rfl))
 have hc:Cov w cells 0 (YD ⟨x0,x1⟩):=(c0.app (c1.app Cov.nil))
 exact⟨⟨x0,x1⟩,⟨k0,k1⟩,by rw [hl];rfl,fun j A v hA hv=>hc j A v hA (by simpa using hv)⟩
theorem op32:Qd Tryz.prog 32 Q20 (OkL Z2):=Qd.slice Tryz.underlying32 (n:=2) (by kernel_rfl) (by decide) op91
theorem op34:Qd Tryz.prog 34 Q4 OkApiState:=fun enc w held fuel cells d ps ht=>by
 obtain⟨fuel',hl,hf⟩:=Qd.st (N:=6) Tryz.underlying34 (by kernel_rfl) ht
 obtain⟨x0,k0,l0,c0⟩:=Qd.fld op3 (n:=1) (off:=0) (by kernel_rfl) (by omega) (hf _ (List.mem_of_getElem? (i:=0) rfl))
 obtain⟨x1,k1,l1,c1⟩:=Qd.fld op22 (n:=1) (off:=1) (by kernel_rfl) (by omega) (hf _ (List.mem_of_getElem? (i:=1) rfl))
 obtain⟨x2,k2,l2,c2⟩:=Qd.fld op31 (n:=1) (off:=2) (by kernel_rfl) (by omega) (hf _ (List.mem_of_getElem? (i:=2) rfl))
 obtain⟨x3,k3,l3,c3⟩:=Qd.fld op22 (n:=1) (off:=3) (by kernel_rfl) (by omega) (hf _ (List.mem_of_getElem? (i:=3) rfl))
 obtain⟨x4,k4,l4,c4⟩:=Qd.fld op22 (n:=1) (off:=4) (by kernel_rfl) (by omega) (hf _ (List.mem_of_getElem? (i:=4) rfl))
 obtain⟨x5,k5,l5,c5⟩:=Qd.fld op32 (n:=1) (off:=5) (by kernel_rfl) (by omega) (hf _ (List.mem_of_getElem? (i:=5) rfl))
 have hc:Cov w cells 0 (Q4 ⟨x0,x1,x2,x3,x4,x5⟩):=(c0.app (c1.app (c2.app (c3.app (c4.app (c5.app Cov.nil))))))
 exact⟨⟨x0,x1,x2,x3,x4,x5⟩,⟨k0,k1,k2,k3,k4,k5⟩,by rw [hl];rfl,fun j A v hA hv=>hc j A v hA (by simpa using hv)⟩
theorem op35:Qd Tryz.prog 35 Q4c (OkL (OkL I64)):=Qd.slice Tryz.underlying35 (n:=1) (by kernel_rfl) (by decide) op22
theorem Q4T (xs:List Int) (l:Nat) (J:Nat→World→Prop) (Jx:World→Prop) (S:Nat→Prop) (w W:World) (b off cap:Nat) (p0:Option Addr) (hlen:xs.length≤1099511627776) (hS:S b)
  (hY:∀m x W1,xs[m]?=some x→J m W1→YieldAt Fence.wide 1 Tryz.prog l #[.int .i64 x] W1 fun e W'=>(e=.returned (.bool true)∧J (m+1) W'∧KS S W1 W')∨(e=.returned (.bool false)∧Jx W'))
  (hc:W.cell? ⟨b,off,none⟩=some (.slice p0 xs.length cap)) (hL:Q2r S W p0 xs) (h0:J 0 W):
  CallsIn Fence.wide 2 Tryz.prog 76 #[.func (.yield l) #[] #[],.pointer (some ⟨b,off,none⟩)] W fun e W'=>(∃v,e=.returned v)∧(J xs.length W'∨Jx W'):=by
 refine callsIn_of_wp Tryz.func76 rfl trivial ?_ rfl
 simp only [Tryz.ntmps76,List.size_toArray,List.length_cons,List.length_nil,Nat.reduceAdd,Nat.reduceSub,Array.replicate_succ,Array.replicate_zero,List.push_toArray,List.append_toArray,List.nil_append,List.cons_append]
 gi_wp2
 gi_loopw [7] (fun p wr=>∃(m:Nat),m≤xs.length∧p=.int .i64 (m:Int)∧Q2r S wr p0 xs∧J m wr)
  (fun p wr=>match p with | .int _ i=>xs.length-i.toNat | _=>0)
 case atStart=>exact⟨0,Nat.zero_le _,rfl,hL,h0⟩
 case round=>
  obtain⟨m,hm,rfl,hl,hJs⟩:=hrel
  by_cases hlt:m<xs.length
  ·have hx:xs[m]?=some (xs.getD m 0):=by rw [List.getD_eq_getElem?_getD,List.getElem?_eq_getElem hlt];rfl
   obtain⟨b',off',rfl,hb,hv⟩:=hl m _ hx
   obtain⟨fn,tmps,assign,body,hy,hR⟩:=hY m (xs.getD m 0) wr hx hJs
   generalize xs.getD m 0=x0 at *
   gi_wp2
   refine hR.mono ?_
   rintro e W3 (⟨rfl,hJ3,hk3⟩ | ⟨rfl,hJx3⟩)
   ·gi_wp2
    go_roundw
    case rel=>exact⟨m+1,by omega,rfl,hl.keep hk3,hJ3⟩
    case measure=>simp;omega
   ·gi_wp2
    refine bodyPost_ret (results_none rfl _ _ _) rfl ?_
    exact⟨⟨_,rfl⟩,.inr hJx3⟩
  ·obtain rfl:m=xs.length:=by omega
   gi_wp2
   go_end0
   exact⟨⟨_,rfl⟩,.inl hJs⟩
theorem it76 (xs:List Int) (hlen:xs.length≤1099511627776):Iter Tryz.prog 76 [.rp [.sl 1 eI xs]] (fun x:Int=>[.int .i64 x]) xs:=fun w ok β lb hlb l J Jx W hW hY h0=>by
 obtain⟨b,off,p,cap,rfl,hb,hc,hr⟩:=Q4E hlb
 exact Q4T xs l J Jx ok w W b off cap p hlen hb hY ((hW.cell hb).trans hc) (hr.keep hW) h0
end Go.Proofs.YtlaehjhkcanffaaGreat
