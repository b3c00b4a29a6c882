/- The encodings of the data, and the types' table (written by a program of the prover). -/
import Derived.Test.YtbpbennpgnjbkaaGreatLibZX
import Derived.Test.YtbpbennpgnjbkaaGreatVc
import Derived.Test.YtbpbennpgnjbkaaGreatChecked
import Derived.Test.YtbpbennpgnjbkaaGreatLibZC
import Derived.Test.YtbpbennpgnjbkaaGreatLibZR
import Derived.Test.YtbpbennpgnjbkaaGreatLibZS
import Derived.Test.YtbpbennpgnjbkaaGreatLibZT
import Derived.Test.YtbpbennpgnjbkaaGreatLibZI
import Derived.RangeFuncLeaves
import Derived.WalkKit
import Derived.OwnWalkIn
import Derived.TacticsInMore
import Derived.LoopNIn
import Derived.LoopIn
import Derived.WalkKit
import Derived.Lib.Walk
import Derived.Laws.Externs
import Derived.Laws.IdiomCopy
import Derived.Deep.RegionLaw
import Derived.IntWalk
import Derived.KernelRfl
set_option maxRecDepth 100000
set_option maxHeartbeats 8000000
set_option linter.unusedVariables false
set_option linter.unusedSimpArgs false
namespace Go.Proofs.YtbpbennpgnjbkaaGreat
open Go Go.Taq
@[reducible] def eI (x:Int):List AVal:=[.i x]
@[reducible] def G3 (x:G6):List AVal:=[.i x.From,.i x.To]
@[reducible] def Q9 (x:ApiZone):List AVal:=[.v (.string x.Name),.sl 1 eI x.Cells,.i x.Speed,.i x.Keep,.sl 2 G3 x.Shut]
@[reducible] def Qa (x:ApiApart):List AVal:=[.v (.string x.A),.v (.string x.B)]
@[reducible] def Qc (x:ApiShelf):List AVal:=[.i x.Cell,.v (.string x.Class)]
@[reducible] def Qb (x:ApiStart):List AVal:=[.i x.Cell,.i x.Charge]
@[reducible] def Q4 (x:ApiRobot):List AVal:=[.i x.Cell,.i x.Load,.i x.Charge,.i x.Rest,.i x.Mute,.b x.Dead]
@[reducible] def Q3 (x:Q0):List AVal:=[.i x.Cell,.i x.Left]
@[reducible] def QJ (x:K0):List AVal:=[.sl 1 eI x.Acts,.i x.Fault.Kind,.i x.Fault.A,.i x.Fault.N]
@[reducible] def Q2 (x:ApiSite):List AVal:=[.i x.Floor.W,.i x.Floor.H,.i x.Floor.D,.sl 1 eI x.Floor.Kind,.sl 1 eI x.Floor.Out,.sl 5 Q9 x.Zones,.sl 2 Qa x.Aparts,.sl 2 Qc x.Shelves,.sl 2 Qb x.Robots]
@[reducible] def Qd (x:Q6):List AVal:=[.i x.W,.i x.H,.i x.D,.sl 1 eI x.Kind,.sl 1 eI x.Out]
@[reducible] def Q6I (x:Kb):List AVal:=[.i x.x,.i x.y,.i x.z]
@[reducible] def Q1 (x:ApiState):List AVal:=[.i x.Tick,.sl 1 eI x.Shelves,.sl 6 Q4 x.Robots,.sl 1 eI x.People,.sl 1 eI x.Dead,.sl 2 Q3 x.Stuck]
def kI (x:Int):Value:=.int .i64 x
@[reducible] def eB (x:Bool):List AVal:=[.b x]
def veB (x:Bool):AVal:=.b x
def veI (x:Int):AVal:=.i x
def Q3P (x:ApiApart):List Value:=[.string x.A,.string x.B]
def YU (x:ApiApart):Value:=.agg (Q3P x).toArray
@[reducible] def Ks (x:Qk):List AVal:=[.i x.Kind,.i x.A,.i x.N]
def kS (x:ByteArray):Value:=.string x
@[reducible] def eLeI (x:List Int):List AVal:=[.sl 1 eI x]
@[reducible] def eS (x:ByteArray):List AVal:=[.v (.string x)]
@[reducible] def Q6F (x:List G6):List AVal:=[.sl 2 G3 x]
@[reducible] def Q6T (x:List ApiZone):List AVal:=[.sl 5 Q9 x]
@[reducible] def Q5P (x:List ApiApart):List AVal:=[.sl 2 Qa x]
@[reducible] def Q62 (x:List ApiShelf):List AVal:=[.sl 2 Qc x]
@[reducible] def Q5u (x:List ApiStart):List AVal:=[.sl 2 Qb x]
@[reducible] def Q5W (x:List ApiRobot):List AVal:=[.sl 6 Q4 x]
@[reducible] def Q5O (x:List Q0):List AVal:=[.sl 2 Q3 x]
@[reducible] def Q1H (x:List K0):List AVal:=[.sl 4 QJ x]
def te3:TE:=⟨.int .i64,1,8,[.int .i64 0]⟩
theorem teok3:TEok Tryz.prog 3 te3:=⟨⟨_,Tryz.underlying3,rfl⟩,Tryz.t3,_,(by kernel_rfl:Tryz.prog.info? 3=some Tryz.t3),rfl,rfl,rfl,rfl,(fun h=>by cases h),rfl,by decide⟩
def te4:TE:=⟨.bool,1,1,[.bool false]⟩
theorem teok4:TEok Tryz.prog 4 te4:=⟨⟨_,Tryz.underlying4,rfl⟩,Tryz.t4,_,(by kernel_rfl:Tryz.prog.info? 4=some Tryz.t4),rfl,rfl,rfl,rfl,(fun h=>by cases h),rfl,by decide⟩
def te5:TE:=⟨.int .u8,1,1,[.int .u8 0]⟩
theorem teok5:TEok Tryz.prog 5 te5:=⟨⟨_,Tryz.underlying5,rfl⟩,Tryz.t5,_,(by kernel_rfl:Tryz.prog.info? 5=some Tryz.t5),rfl,rfl,rfl,rfl,(fun h=>by cases h),rfl,by decide⟩
def te9:TE:=⟨.str,1,16,[.string ByteArray.empty]⟩
theorem teok9:TEok Tryz.prog 9 te9:=⟨⟨_,Tryz.underlying9,rfl⟩,Tryz.t9,_,(by kernel_rfl:Tryz.prog.info? 9=some Tryz.t9),rfl,rfl,rfl,rfl,(fun h=>by cases h),rfl,by decide⟩
def te22:TE:=⟨.sl 3,1,24,[.slice none 0 0]⟩
theorem Qag:TEok Tryz.prog 22 te22:=⟨⟨_,Tryz.underlying22,rfl⟩,Tryz.t22,_,(by kernel_rfl:Tryz.prog.info? 22=some Tryz.t22),rfl,rfl,rfl,rfl,(fun h=>by cases h),rfl,by decide⟩
def te24:TE:=⟨.st [(0,3),(1,3),(2,3),(3,22),(4,22)],5,72,[.int .i64 0,.int .i64 0,.int .i64 0,.slice none 0 0,.slice none 0 0]⟩
theorem Q9D:TEok Tryz.prog 24 te24:=⟨⟨_,Tryz.underlying24,⟨_,rfl,rfl⟩⟩,Tryz.t24,_,(by kernel_rfl:Tryz.prog.info? 24=some Tryz.t24),rfl,rfl,rfl,rfl,(fun _=>⟨_,rfl⟩),rfl,by decide⟩
def te25:TE:=⟨.sl 86,1,24,[.slice none 0 0]⟩
theorem Q9N:TEok Tryz.prog 25 te25:=⟨⟨_,Tryz.underlying25,rfl⟩,Tryz.t25,_,(by kernel_rfl:Tryz.prog.info? 25=some Tryz.t25),rfl,rfl,rfl,rfl,(fun h=>by cases h),rfl,by decide⟩
def te26:TE:=⟨.sl 88,1,24,[.slice none 0 0]⟩
theorem Q9A:TEok Tryz.prog 26 te26:=⟨⟨_,Tryz.underlying26,rfl⟩,Tryz.t26,_,(by kernel_rfl:Tryz.prog.info? 26=some Tryz.t26),rfl,rfl,rfl,rfl,(fun h=>by cases h),rfl,by decide⟩
def te27:TE:=⟨.sl 90,1,24,[.slice none 0 0]⟩
theorem Q9n:TEok Tryz.prog 27 te27:=⟨⟨_,Tryz.underlying27,rfl⟩,Tryz.t27,_,(by kernel_rfl:Tryz.prog.info? 27=some Tryz.t27),rfl,rfl,rfl,rfl,(fun h=>by cases h),rfl,by decide⟩
def te28:TE:=⟨.sl 103,1,24,[.slice none 0 0]⟩
theorem Qa3:TEok Tryz.prog 28 te28:=⟨⟨_,Tryz.underlying28,rfl⟩,Tryz.t28,_,(by kernel_rfl:Tryz.prog.info? 28=some Tryz.t28),rfl,rfl,rfl,rfl,(fun h=>by cases h),rfl,by decide⟩
def te30:TE:=⟨.st [(0,24),(5,25),(6,26),(7,27),(8,28)],9,168,[.int .i64 0,.int .i64 0,.int .i64 0,.slice none 0 0,.slice none 0 0,.slice none 0 0,.slice none 0 0,.slice none 0 0,.slice none 0 0]⟩
theorem Q9m:TEok Tryz.prog 30 te30:=⟨⟨_,Tryz.underlying30,⟨_,rfl,rfl⟩⟩,Tryz.t30,_,(by kernel_rfl:Tryz.prog.info? 30=some Tryz.t30),rfl,rfl,rfl,rfl,(fun _=>⟨_,rfl⟩),rfl,by decide⟩
def te31:TE:=⟨.sl 56,1,24,[.slice none 0 0]⟩
theorem Q9Q:TEok Tryz.prog 31 te31:=⟨⟨_,Tryz.underlying31,rfl⟩,Tryz.t31,_,(by kernel_rfl:Tryz.prog.info? 31=some Tryz.t31),rfl,rfl,rfl,rfl,(fun h=>by cases h),rfl,by decide⟩
def te32:TE:=⟨.sl 77,1,24,[.slice none 0 0]⟩
theorem Qa4:TEok Tryz.prog 32 te32:=⟨⟨_,Tryz.underlying32,rfl⟩,Tryz.t32,_,(by kernel_rfl:Tryz.prog.info? 32=some Tryz.t32),rfl,rfl,rfl,rfl,(fun h=>by cases h),rfl,by decide⟩
def te34:TE:=⟨.st [(0,3),(1,22),(2,31),(3,22),(4,22),(5,32)],6,128,[.int .i64 0,.slice none 0 0,.slice none 0 0,.slice none 0 0,.slice none 0 0,.slice none 0 0]⟩
theorem Qa5:TEok Tryz.prog 34 te34:=⟨⟨_,Tryz.underlying34,⟨_,rfl,rfl⟩⟩,Tryz.t34,_,(by kernel_rfl:Tryz.prog.info? 34=some Tryz.t34),rfl,rfl,rfl,rfl,(fun _=>⟨_,rfl⟩),rfl,by decide⟩
def te35:TE:=⟨.sl 41,1,24,[.slice none 0 0]⟩
theorem Qam:TEok Tryz.prog 35 te35:=⟨⟨_,Tryz.underlying35,rfl⟩,Tryz.t35,_,(by kernel_rfl:Tryz.prog.info? 35=some Tryz.t35),rfl,rfl,rfl,rfl,(fun h=>by cases h),rfl,by decide⟩
def te39:TE:=⟨.st [(0,3),(1,3),(2,3)],3,24,[.int .i64 0,.int .i64 0,.int .i64 0]⟩
theorem Qak:TEok Tryz.prog 39 te39:=⟨⟨_,Tryz.underlying39,⟨_,rfl,rfl⟩⟩,Tryz.t39,_,(by kernel_rfl:Tryz.prog.info? 39=some Tryz.t39),rfl,rfl,rfl,rfl,(fun _=>⟨_,rfl⟩),rfl,by decide⟩
def te41:TE:=⟨.st [(0,22),(1,39)],4,48,[.slice none 0 0,.int .i64 0,.int .i64 0,.int .i64 0]⟩
theorem Q9x:TEok Tryz.prog 41 te41:=⟨⟨_,Tryz.underlying41,⟨_,rfl,rfl⟩⟩,Tryz.t41,_,(by kernel_rfl:Tryz.prog.info? 41=some Tryz.t41),rfl,rfl,rfl,rfl,(fun _=>⟨_,rfl⟩),rfl,by decide⟩
def te42:TE:=⟨.int .i64,1,8,[.int .i64 0]⟩
theorem Qai:TEok Tryz.prog 42 te42:=⟨⟨_,Tryz.underlying42,rfl⟩,Tryz.t42,_,(by kernel_rfl:Tryz.prog.info? 42=some Tryz.t42),rfl,rfl,rfl,rfl,(fun h=>by cases h),rfl,by decide⟩
def te56:TE:=⟨.st [(0,3),(1,3),(2,3),(3,3),(4,3),(5,4)],6,48,[.int .i64 0,.int .i64 0,.int .i64 0,.int .i64 0,.int .i64 0,.bool false]⟩
theorem Q9P:TEok Tryz.prog 56 te56:=⟨⟨_,Tryz.underlying56,⟨_,rfl,rfl⟩⟩,Tryz.t56,_,(by kernel_rfl:Tryz.prog.info? 56=some Tryz.t56),rfl,rfl,rfl,rfl,(fun _=>⟨_,rfl⟩),rfl,by decide⟩
def te77:TE:=⟨.st [(0,3),(1,3)],2,16,[.int .i64 0,.int .i64 0]⟩
theorem Q8p:TEok Tryz.prog 77 te77:=⟨⟨_,Tryz.underlying77,⟨_,rfl,rfl⟩⟩,Tryz.t77,_,(by kernel_rfl:Tryz.prog.info? 77=some Tryz.t77),rfl,rfl,rfl,rfl,(fun _=>⟨_,rfl⟩),rfl,by decide⟩
def te84:TE:=⟨.sl 154,1,24,[.slice none 0 0]⟩
theorem Q9q:TEok Tryz.prog 84 te84:=⟨⟨_,Tryz.underlying84,rfl⟩,Tryz.t84,_,(by kernel_rfl:Tryz.prog.info? 84=some Tryz.t84),rfl,rfl,rfl,rfl,(fun h=>by cases h),rfl,by decide⟩
def te86:TE:=⟨.st [(0,9),(1,22),(2,3),(3,3),(4,84)],5,80,[.string ByteArray.empty,.slice none 0 0,.int .i64 0,.int .i64 0,.slice none 0 0]⟩
theorem Q9U:TEok Tryz.prog 86 te86:=⟨⟨_,Tryz.underlying86,⟨_,rfl,rfl⟩⟩,Tryz.t86,_,(by kernel_rfl:Tryz.prog.info? 86=some Tryz.t86),rfl,rfl,rfl,rfl,(fun _=>⟨_,rfl⟩),rfl,by decide⟩
def te88:TE:=⟨.st [(0,9),(1,9)],2,32,[.string ByteArray.empty,.string ByteArray.empty]⟩
theorem Qav:TEok Tryz.prog 88 te88:=⟨⟨_,Tryz.underlying88,⟨_,rfl,rfl⟩⟩,Tryz.t88,_,(by kernel_rfl:Tryz.prog.info? 88=some Tryz.t88),rfl,rfl,rfl,rfl,(fun _=>⟨_,rfl⟩),rfl,by decide⟩
def te90:TE:=⟨.st [(0,3),(1,9)],2,24,[.int .i64 0,.string ByteArray.empty]⟩
theorem Q9u:TEok Tryz.prog 90 te90:=⟨⟨_,Tryz.underlying90,⟨_,rfl,rfl⟩⟩,Tryz.t90,_,(by kernel_rfl:Tryz.prog.info? 90=some Tryz.t90),rfl,rfl,rfl,rfl,(fun _=>⟨_,rfl⟩),rfl,by decide⟩
def te93:TE:=⟨.pt 151,1,8,[.pointer none]⟩
theorem Q9X:TEok Tryz.prog 93 te93:=⟨⟨_,Tryz.underlying93,rfl⟩,Tryz.t93,_,(by kernel_rfl:Tryz.prog.info? 93=some Tryz.t93),rfl,rfl,rfl,rfl,(fun h=>by cases h),rfl,by decide⟩
def te103:TE:=⟨.st [(0,3),(1,3)],2,16,[.int .i64 0,.int .i64 0]⟩
theorem Q8W:TEok Tryz.prog 103 te103:=⟨⟨_,Tryz.underlying103,⟨_,rfl,rfl⟩⟩,Tryz.t103,_,(by kernel_rfl:Tryz.prog.info? 103=some Tryz.t103),rfl,rfl,rfl,rfl,(fun _=>⟨_,rfl⟩),rfl,by decide⟩
def te112:TE:=⟨.fn,1,8,[.nilFunc]⟩
theorem Q8Q:TEok Tryz.prog 112 te112:=⟨⟨_,Tryz.underlying112,⟨_,_,_,rfl⟩⟩,Tryz.t112,_,(by kernel_rfl:Tryz.prog.info? 112=some Tryz.t112),rfl,rfl,rfl,rfl,(fun h=>by cases h),rfl,by decide⟩
def te116:TE:=⟨.fn,1,8,[.nilFunc]⟩
theorem Q8M:TEok Tryz.prog 116 te116:=⟨⟨_,Tryz.underlying116,⟨_,_,_,rfl⟩⟩,Tryz.t116,_,(by kernel_rfl:Tryz.prog.info? 116=some Tryz.t116),rfl,rfl,rfl,rfl,(fun h=>by cases h),rfl,by decide⟩
def te139:TE:=⟨.int .u64,1,8,[.int .u64 0]⟩
theorem Q8U:TEok Tryz.prog 139 te139:=⟨⟨_,Tryz.underlying139,rfl⟩,Tryz.t139,_,(by kernel_rfl:Tryz.prog.info? 139=some Tryz.t139),rfl,rfl,rfl,rfl,(fun h=>by cases h),rfl,by decide⟩
def te141:TE:=⟨.fn,1,8,[.nilFunc]⟩
theorem Q8S:TEok Tryz.prog 141 te141:=⟨⟨_,Tryz.underlying141,⟨_,_,_,rfl⟩⟩,Tryz.t141,_,(by kernel_rfl:Tryz.prog.info? 141=some Tryz.t141),rfl,rfl,rfl,rfl,(fun h=>by cases h),rfl,by decide⟩
def te147:TE:=⟨.mp 3 3,1,8,[.map none]⟩
theorem Q8K:TEok Tryz.prog 147 te147:=⟨⟨_,Tryz.underlying147,rfl⟩,Tryz.t147,_,(by kernel_rfl:Tryz.prog.info? 147=some Tryz.t147),rfl,rfl,rfl,rfl,(fun h=>by cases h),rfl,by decide⟩
def te148:TE:=⟨.mp 3 4,1,8,[.map none]⟩
theorem Q8C:TEok Tryz.prog 148 te148:=⟨⟨_,Tryz.underlying148,rfl⟩,Tryz.t148,_,(by kernel_rfl:Tryz.prog.info? 148=some Tryz.t148),rfl,rfl,rfl,rfl,(fun h=>by cases h),rfl,by decide⟩
def te149:TE:=⟨.mp 9 3,1,8,[.map none]⟩
theorem Q8Z:TEok Tryz.prog 149 te149:=⟨⟨_,Tryz.underlying149,rfl⟩,Tryz.t149,_,(by kernel_rfl:Tryz.prog.info? 149=some Tryz.t149),rfl,rfl,rfl,rfl,(fun h=>by cases h),rfl,by decide⟩
def te151:TE:=⟨.st [(0,30),(9,147),(10,148),(11,148),(12,149),(13,148),(14,22),(15,22)],16,256,[.int .i64 0,.int .i64 0,.int .i64 0,.slice none 0 0,.slice none 0 0,.slice none 0 0,.slice none 0 0,.slice none 0 0,.slice none 0 0,.map none,.map none,.map none,.map none,.map none,.slice none 0 0,.slice none 0 0]⟩
theorem Q94:TEok Tryz.prog 151 te151:=⟨⟨_,Tryz.underlying151,⟨_,rfl,rfl⟩⟩,Tryz.t151,_,(by kernel_rfl:Tryz.prog.info? 151=some Tryz.t151),rfl,rfl,rfl,rfl,(fun _=>⟨_,rfl⟩),rfl,by decide⟩
def te154:TE:=⟨.st [(0,3),(1,3)],2,16,[.int .i64 0,.int .i64 0]⟩
theorem Q8B:TEok Tryz.prog 154 te154:=⟨⟨_,Tryz.underlying154,⟨_,rfl,rfl⟩⟩,Tryz.t154,_,(by kernel_rfl:Tryz.prog.info? 154=some Tryz.t154),rfl,rfl,rfl,rfl,(fun _=>⟨_,rfl⟩),rfl,by decide⟩
def te159:TE:=⟨.fn,1,8,[.nilFunc]⟩
theorem Q8F:TEok Tryz.prog 159 te159:=⟨⟨_,Tryz.underlying159,⟨_,_,_,rfl⟩⟩,Tryz.t159,_,(by kernel_rfl:Tryz.prog.info? 159=some Tryz.t159),rfl,rfl,rfl,rfl,(fun h=>by cases h),rfl,by decide⟩
def te161:TE:=⟨.st [(0,3),(1,3),(2,3)],3,24,[.int .i64 0,.int .i64 0,.int .i64 0]⟩
theorem Q9f:TEok Tryz.prog 161 te161:=⟨⟨_,Tryz.underlying161,⟨_,rfl,rfl⟩⟩,Tryz.t161,_,(by kernel_rfl:Tryz.prog.info? 161=some Tryz.t161),rfl,rfl,rfl,rfl,(fun _=>⟨_,rfl⟩),rfl,by decide⟩
def te162:TE:=⟨.ar 6 161,18,144,List.replicate 18 (.int .i64 0)⟩
theorem Q91:TEok Tryz.prog 162 te162:=⟨⟨_,Tryz.underlying162,rfl⟩,Tryz.t162,_,(by kernel_rfl:Tryz.prog.info? 162=some Tryz.t162),rfl,rfl,rfl,rfl,(fun _=>⟨_,rfl⟩),rfl,by decide⟩
def te174:TE:=⟨.ar 4 3,4,32,[.int .i64 0,.int .i64 0,.int .i64 0,.int .i64 0]⟩
theorem Q8V:TEok Tryz.prog 174 te174:=⟨⟨_,Tryz.underlying174,rfl⟩,Tryz.t174,_,(by kernel_rfl:Tryz.prog.info? 174=some Tryz.t174),rfl,rfl,rfl,rfl,(fun _=>⟨_,rfl⟩),rfl,by decide⟩
def te186:TE:=⟨.int .u64,1,8,[.int .u64 0]⟩
theorem Q9g:TEok Tryz.prog 186 te186:=⟨⟨_,Tryz.underlying186,rfl⟩,Tryz.t186,_,(by kernel_rfl:Tryz.prog.info? 186=some Tryz.t186),rfl,rfl,rfl,rfl,(fun h=>by cases h),rfl,by decide⟩
def te196:TE:=⟨.fn,1,8,[.nilFunc]⟩
theorem Q8R:TEok Tryz.prog 196 te196:=⟨⟨_,Tryz.underlying196,⟨_,_,_,rfl⟩⟩,Tryz.t196,_,(by kernel_rfl:Tryz.prog.info? 196=some Tryz.t196),rfl,rfl,rfl,rfl,(fun h=>by cases h),rfl,by decide⟩
def te197:TE:=⟨.mp 88 4,1,8,[.map none]⟩
theorem Q8L:TEok Tryz.prog 197 te197:=⟨⟨_,Tryz.underlying197,rfl⟩,Tryz.t197,_,(by kernel_rfl:Tryz.prog.info? 197=some Tryz.t197),rfl,rfl,rfl,rfl,(fun h=>by cases h),rfl,by decide⟩
def te203:TE:=⟨.sl 4,1,24,[.slice none 0 0]⟩
theorem Q8z:TEok Tryz.prog 203 te203:=⟨⟨_,Tryz.underlying203,rfl⟩,Tryz.t203,_,(by kernel_rfl:Tryz.prog.info? 203=some Tryz.t203),rfl,rfl,rfl,rfl,(fun h=>by cases h),rfl,by decide⟩
theorem Qbi:EqT Tryz.prog 56 [(0,3),(1,3),(2,3),(3,3),(4,3),(5,4)]:=⟨by kernel_rfl,by kernel_rfl,by kernel_rfl,by kernel_rfl,by kernel_rfl⟩
theorem QaD:EqT Tryz.prog 77 [(0,3),(1,3)]:=⟨by kernel_rfl,by kernel_rfl,by kernel_rfl,by kernel_rfl,by kernel_rfl⟩
theorem Qap:EqT Tryz.prog 88 [(0,9),(1,9)]:=⟨by kernel_rfl,by kernel_rfl,by kernel_rfl,by kernel_rfl,by kernel_rfl⟩
def tab:Tab:=[(3,te3),(4,te4),(5,te5),(9,te9),(22,te22),(24,te24),(25,te25),(26,te26),(27,te27),(28,te28),(30,te30),(31,te31),(32,te32),(34,te34),(35,te35),(39,te39),(41,te41),(42,te42),(56,te56),(77,te77),(84,te84),(86,te86),(88,te88),(90,te90),(93,te93),(103,te103),(112,te112),(116,te116),(139,te139),(141,te141),(147,te147),(148,te148),(149,te149),(151,te151),(154,te154),(159,te159),(161,te161),(162,te162),(174,te174),(186,te186),(196,te196),(197,te197),(203,te203)]
theorem T:QT Tryz.prog tab:=(.cons teok3 (.cons teok4 (.cons teok5 (.cons teok9 (.cons Qag (.cons Q9D (.cons Q9N (.cons Q9A (.cons Q9n (.cons Qa3 (.cons Q9m (.cons Q9Q (.cons Qa4 (.cons Qa5 (.cons Qam (.cons Qak (.cons Q9x (.cons Qai (.cons Q9P (.cons Q8p (.cons Q9q (.cons Q9U (.cons Qav (.cons Q9u (.cons Q9X (.cons Q8W (.cons Q8Q (.cons Q8M (.cons Q8U (.cons Q8S (.cons Q8K (.cons Q8C (.cons Q8Z (.cons Q94 (.cons Q8B (.cons Q8F (.cons Q9f (.cons Q91 (.cons Q8V (.cons Q9g (.cons Q8R (.cons Q8L (.cons Q8z QT.nil)))))))))))))))))))))))))))))))))))))))))))
theorem kt3:KeyT Tryz.prog 3 kI:=KeyT.int Tryz.underlying3
theorem kt9:KeyT Tryz.prog 9 kS:=KeyT.str Tryz.underlying9
theorem kt88:KeyT Tryz.prog 88 YU:=KeyT.st (kc:=Q3P) T Qap (fun x y=>by
 obtain⟨x0,x1⟩:=x;obtain⟨y0,y1⟩:=y
 show some ((seq x0 y0&&(seq x1 y1&&true)))=some (decide _)
 congr 1;rw [Bool.eq_iff_iff];simp only [Bool.and_eq_true,beq_iff_eq,Q7X,decide_eq_true_eq,ApiApart.mk.injEq,and_true]
 constructor <;> intro h <;> simp_all) rfl (fun _=>rfl) (fun _=>rfl)
theorem zt3:Q7f Tryz.prog 3 veI 0:=⟨(.int .i64 0),fun w=>by kernel_rfl,fun _ _=>(.v _)⟩
theorem zt4:Q7f Tryz.prog 4 veB false:=⟨(.bool false),fun w=>by kernel_rfl,fun _ _=>(.v _)⟩
theorem mix:Tryz.prog.follows .mixedOrders=true:=by kernel_rfl
theorem en8:Q5 Tryz.prog 8:=fun args w=>Tryz.call8 args w
theorem en9:Q5 Tryz.prog 9:=fun args w=>Tryz.call9 args w
theorem en10:Q5 Tryz.prog 10:=fun args w=>Tryz.call10 args w
theorem en11:Q5 Tryz.prog 11:=fun args w=>Tryz.call11 args w
theorem en12:Q5 Tryz.prog 12:=fun args w=>Tryz.call12 args w
theorem en13:Q5 Tryz.prog 13:=fun args w=>Tryz.call13 args w
theorem en14:Q5 Tryz.prog 14:=fun args w=>Tryz.call14 args w
theorem en15:Q5 Tryz.prog 15:=fun args w=>Tryz.call15 args w
theorem en16:Q5 Tryz.prog 16:=fun args w=>Tryz.call16 args w
theorem en17:Q5 Tryz.prog 17:=fun args w=>Tryz.call17 args w
theorem en18:Q5 Tryz.prog 18:=fun args w=>Tryz.call18 args w
theorem en19:Q5 Tryz.prog 19:=fun args w=>Tryz.call19 args w
theorem en20:Q5 Tryz.prog 20:=fun args w=>Tryz.call20 args w
theorem en21:Q5 Tryz.prog 21:=fun args w=>Tryz.call21 args w
theorem en22:Q5 Tryz.prog 22:=fun args w=>Tryz.call22 args w
theorem en24:Q5 Tryz.prog 24:=fun args w=>Tryz.call24 args w
theorem en25:Q5 Tryz.prog 25:=fun args w=>Tryz.call25 args w
theorem en27:Q5 Tryz.prog 27:=fun args w=>Tryz.call27 args w
theorem en28:Q5 Tryz.prog 28:=fun args w=>Tryz.call28 args w
theorem en30:Q5 Tryz.prog 30:=fun args w=>Tryz.call30 args w
theorem en31:Q5 Tryz.prog 31:=fun args w=>Tryz.call31 args w
theorem en32:Q5 Tryz.prog 32:=fun args w=>Tryz.call32 args w
theorem en33:Q5 Tryz.prog 33:=fun args w=>Tryz.call33 args w
theorem en34:Q5 Tryz.prog 34:=fun args w=>Tryz.call34 args w
theorem en35:Q5 Tryz.prog 35:=fun args w=>Tryz.call35 args w
theorem en36:Q5 Tryz.prog 36:=fun args w=>Tryz.call36 args w
theorem en37:Q5 Tryz.prog 37:=fun args w=>Tryz.call37 args w
theorem en38:Q5 Tryz.prog 38:=fun args w=>Tryz.call38 args w
theorem en39:Q5 Tryz.prog 39:=fun args w=>Tryz.call39 args w
theorem en40:Q5 Tryz.prog 40:=fun args w=>Tryz.call40 args w
theorem en41:Q5 Tryz.prog 41:=fun args w=>Tryz.call41 args w
theorem en42:Q5 Tryz.prog 42:=fun args w=>Tryz.call42 args w
theorem en43:Q5 Tryz.prog 43:=fun args w=>Tryz.call43 args w
theorem en44:Q5 Tryz.prog 44:=fun args w=>Tryz.call44 args w
theorem en45:Q5 Tryz.prog 45:=fun args w=>Tryz.call45 args w
theorem en46:Q5 Tryz.prog 46:=fun args w=>Tryz.call46 args w
theorem en47:Q5 Tryz.prog 47:=fun args w=>Tryz.call47 args w
theorem en48:Q5 Tryz.prog 48:=fun args w=>Tryz.call48 args w
theorem en49:Q5 Tryz.prog 49:=fun args w=>Tryz.call49 args w
theorem en50:Q5 Tryz.prog 50:=fun args w=>Tryz.call50 args w
theorem en51:Q5 Tryz.prog 51:=fun args w=>Tryz.call51 args w
theorem en52:Q5 Tryz.prog 52:=fun args w=>Tryz.call52 args w
theorem en53:Q5 Tryz.prog 53:=fun args w=>Tryz.call53 args w
theorem en54:Q5 Tryz.prog 54:=fun args w=>Tryz.call54 args w
theorem en55:Q5 Tryz.prog 55:=fun args w=>Tryz.call55 args w
theorem en56:Q5 Tryz.prog 56:=fun args w=>Tryz.call56 args w
theorem en57:Q5 Tryz.prog 57:=fun args w=>Tryz.call57 args w
theorem en58:Q5 Tryz.prog 58:=fun args w=>Tryz.call58 args w
theorem en59:Q5 Tryz.prog 59:=fun args w=>Tryz.call59 args w
theorem en60:Q5 Tryz.prog 60:=fun args w=>Tryz.call60 args w
theorem en61:Q5 Tryz.prog 61:=fun args w=>Tryz.call61 args w
theorem en62:Q5 Tryz.prog 62:=fun args w=>Tryz.call62 args w
theorem en63:Q5 Tryz.prog 63:=fun args w=>Tryz.call63 args w
theorem en64:Q5 Tryz.prog 64:=fun args w=>Tryz.call64 args w
theorem en65:Q5 Tryz.prog 65:=fun args w=>Tryz.call65 args w
theorem en66:Q5 Tryz.prog 66:=fun args w=>Tryz.call66 args w
theorem en67:Q5 Tryz.prog 67:=fun args w=>Tryz.call67 args w
theorem en68:Q5 Tryz.prog 68:=fun args w=>Tryz.call68 args w
theorem en69:Q5 Tryz.prog 69:=fun args w=>Tryz.call69 args w
theorem en70:Q5 Tryz.prog 70:=fun args w=>Tryz.call70 args w
theorem en71:Q5 Tryz.prog 71:=fun args w=>Tryz.call71 args w
theorem en76:Q5 Tryz.prog 76:=fun args w=>Tryz.call76 args w
theorem en77:Q5 Tryz.prog 77:=fun args w=>Tryz.call77 args w
theorem en80:Q5 Tryz.prog 80:=fun args w=>Tryz.call80 args w
theorem en81:Q5 Tryz.prog 81:=fun args w=>Tryz.call81 args w
theorem en82:Q5 Tryz.prog 82:=fun args w=>Tryz.call82 args w
theorem en83:Q5 Tryz.prog 83:=fun args w=>Tryz.call83 args w
theorem en84:Q5 Tryz.prog 84:=fun args w=>Tryz.call84 args w
theorem en85:Q5 Tryz.prog 85:=fun args w=>Tryz.call85 args w
theorem en86:Q5 Tryz.prog 86:=fun args w=>Tryz.call86 args w
theorem en87:Q5 Tryz.prog 87:=fun args w=>Tryz.call87 args w
theorem en88:Q5 Tryz.prog 88:=fun args w=>Tryz.call88 args w
theorem en89:Q5 Tryz.prog 89:=fun args w=>Tryz.call89 args w
theorem en90:Q5 Tryz.prog 90:=fun args w=>Tryz.call90 args w
theorem en91:Q5 Tryz.prog 91:=fun args w=>Tryz.call91 args w
theorem en92:Q5 Tryz.prog 92:=fun args w=>Tryz.call92 args w
theorem en93:Q5 Tryz.prog 93:=fun args w=>Tryz.call93 args w
theorem en94:Q5 Tryz.prog 94:=fun args w=>Tryz.call94 args w
theorem en95:Q5 Tryz.prog 95:=fun args w=>Tryz.call95 args w
theorem en96:Q5 Tryz.prog 96:=fun args w=>Tryz.call96 args w
theorem en97:Q5 Tryz.prog 97:=fun args w=>Tryz.call97 args w
theorem en98:Q5 Tryz.prog 98:=fun args w=>Tryz.call98 args w
theorem en99:Q5 Tryz.prog 99:=fun args w=>Tryz.call99 args w
theorem Q9G:Q5 Tryz.prog 100:=fun args w=>Tryz.call100 args w
theorem QbE:Q5 Tryz.prog 101:=fun args w=>Tryz.call101 args w
theorem QaT:Q5 Tryz.prog 102:=fun args w=>Tryz.call102 args w
theorem Qbj:Q5 Tryz.prog 103:=fun args w=>Tryz.call103 args w
theorem Q9S:Q5 Tryz.prog 104:=fun args w=>Tryz.call104 args w
theorem QbQ:Q5 Tryz.prog 105:=fun args w=>Tryz.call105 args w
theorem Qaa:Q5 Tryz.prog 106:=fun args w=>Tryz.call106 args w
theorem Q9C:Q5 Tryz.prog 107:=fun args w=>Tryz.call107 args w
theorem Q9Z:Q5 Tryz.prog 108:=fun args w=>Tryz.call108 args w
theorem QbH:Q5 Tryz.prog 109:=fun args w=>Tryz.call109 args w
theorem Qbc:Q5 Tryz.prog 110:=fun args w=>Tryz.call110 args w
theorem Qah:Q5 Tryz.prog 111:=fun args w=>Tryz.call111 args w
theorem Qac:Q5 Tryz.prog 112:=fun args w=>Tryz.call112 args w
theorem Q9J:Q5 Tryz.prog 113:=fun args w=>Tryz.call113 args w
theorem QaA:Q5 Tryz.prog 114:=fun args w=>Tryz.call114 args w
theorem Qb7:Q5 Tryz.prog 115:=fun args w=>Tryz.call115 args w
theorem Q9w:Q5 Tryz.prog 116:=fun args w=>Tryz.call116 args w
theorem Q7E:Q5 Tryz.prog 117:=fun args w=>Tryz.call117 args w
theorem Q7G:Q5 Tryz.prog 118:=fun args w=>Tryz.call118 args w
theorem Q9y:Q5 Tryz.prog 119:=fun args w=>Tryz.call119 args w
theorem QaZ:Q5 Tryz.prog 120:=fun args w=>Tryz.call120 args w
theorem Qbl:Q5 Tryz.prog 121:=fun args w=>Tryz.call121 args w
theorem QaG:Q5 Tryz.prog 122:=fun args w=>Tryz.call122 args w
theorem Q9d:Q5 Tryz.prog 123:=fun args w=>Tryz.call123 args w
theorem Q9c:Q5 Tryz.prog 124:=fun args w=>Tryz.call124 args w
theorem Qbw:Q5 Tryz.prog 125:=fun args w=>Tryz.call125 args w
theorem Qbb:Q5 Tryz.prog 126:=fun args w=>Tryz.call126 args w
theorem Q8w:Q5 Tryz.prog 129:=fun args w=>Tryz.call129 args w
theorem Qby:Q5 Tryz.prog 130:=fun args w=>Tryz.call130 args w
theorem Qbp:Q5 Tryz.prog 131:=fun args w=>Tryz.call131 args w
theorem QaI:Q5 Tryz.prog 132:=fun args w=>Tryz.call132 args w
theorem Qb0:Q5 Tryz.prog 133:=fun args w=>Tryz.call133 args w
theorem Qax:Q5 Tryz.prog 134:=fun args w=>Tryz.call134 args w
theorem Qbz:Q5 Tryz.prog 135:=fun args w=>Tryz.call135 args w
theorem Q9Y:Q5 Tryz.prog 136:=fun args w=>Tryz.call136 args w
theorem QaM:Q5 Tryz.prog 137:=fun args w=>Tryz.call137 args w
theorem Q8j:Q5 Tryz.prog 138:=fun args w=>Tryz.call138 args w
theorem QbB:Q5 Tryz.prog 139:=fun args w=>Tryz.call139 args w
theorem Q9t:Q5 Tryz.prog 140:=fun args w=>Tryz.call140 args w
theorem Qa8:Q5 Tryz.prog 141:=fun args w=>Tryz.call141 args w
theorem Q9i:Q5 Tryz.prog 142:=fun args w=>Tryz.call142 args w
theorem Q7L:Q5 Tryz.prog 143:=fun args w=>Tryz.call143 args w
theorem Qa0:Q5 Tryz.prog 144:=fun args w=>Tryz.call144 args w
theorem Qbv:Q5 Tryz.prog 145:=fun args w=>Tryz.call145 args w
theorem QaQ:Q5 Tryz.prog 146:=fun args w=>Tryz.call146 args w
theorem Qbs:Q5 Tryz.prog 147:=fun args w=>Tryz.call147 args w
theorem Qb2:Q5 Tryz.prog 148:=fun args w=>Tryz.call148 args w
theorem Q8I:Q5 Tryz.prog 149:=fun args w=>Tryz.call149 args w
theorem QaO:Q5 Tryz.prog 150:=fun args w=>Tryz.call150 args w
theorem Qb6:Q5 Tryz.prog 151:=fun args w=>Tryz.call151 args w
theorem QbT:Q5 Tryz.prog 152:=fun args w=>Tryz.call152 args w
theorem QaH:Q5 Tryz.prog 153:=fun args w=>Tryz.call153 args w
theorem QbO:Q5 Tryz.prog 154:=fun args w=>Tryz.call154 args w
theorem QbN:Q5 Tryz.prog 155:=fun args w=>Tryz.call155 args w
theorem QaY:Q5 Tryz.prog 156:=fun args w=>Tryz.call156 args w
theorem Qbh:Q5 Tryz.prog 157:=fun args w=>Tryz.call157 args w
theorem Q9R:Q5 Tryz.prog 158:=fun args w=>Tryz.call158 args w
theorem QbK:Q5 Tryz.prog 159:=fun args w=>Tryz.call159 args w
theorem QaN:Q5 Tryz.prog 160:=fun args w=>Tryz.call160 args w
theorem QaK:Q5 Tryz.prog 161:=fun args w=>Tryz.call161 args w
theorem Qbg:Q5 Tryz.prog 162:=fun args w=>Tryz.call162 args w
theorem QaF:Q5 Tryz.prog 163:=fun args w=>Tryz.call163 args w
theorem Qb9:Q5 Tryz.prog 164:=fun args w=>Tryz.call164 args w
theorem Qa2:Q5 Tryz.prog 165:=fun args w=>Tryz.call165 args w
theorem QaP:Q5 Tryz.prog 166:=fun args w=>Tryz.call166 args w
theorem Q9L:Q5 Tryz.prog 167:=fun args w=>Tryz.call167 args w
theorem QaB:Q5 Tryz.prog 168:=fun args w=>Tryz.call168 args w
theorem Qaf:Q5 Tryz.prog 169:=fun args w=>Tryz.call169 args w
theorem Qb8:Q5 Tryz.prog 170:=fun args w=>Tryz.call170 args w
theorem QbF:Q5 Tryz.prog 171:=fun args w=>Tryz.call171 args w
theorem QaS:Q5 Tryz.prog 172:=fun args w=>Tryz.call172 args w
theorem Qbq:Q5 Tryz.prog 173:=fun args w=>Tryz.call173 args w
theorem QbD:Q5 Tryz.prog 174:=fun args w=>Tryz.call174 args w
theorem Qbe:Q5 Tryz.prog 175:=fun args w=>Tryz.call175 args w
theorem QbC:Q5 Tryz.prog 176:=fun args w=>Tryz.call176 args w
theorem Qad:Q5 Tryz.prog 177:=fun args w=>Tryz.call177 args w
theorem Q9T:Q5 Tryz.prog 178:=fun args w=>Tryz.call178 args w
theorem QbL:Q5 Tryz.prog 179:=fun args w=>Tryz.call179 args w
theorem Q9K:Q5 Tryz.prog 180:=fun args w=>Tryz.call180 args w
theorem QaW:Q5 Tryz.prog 181:=fun args w=>Tryz.call181 args w
theorem Q6C:Q5 Tryz.prog 182:=fun args w=>Tryz.call182 args w
theorem QaR:Q5 Tryz.prog 189:=fun args w=>Tryz.call189 args w
theorem QbR:Q5 Tryz.prog 197:=fun args w=>Tryz.call197 args w
theorem Q9B:Q5 Tryz.prog 199:=fun args w=>Tryz.call199 args w
theorem QaU:Q5 Tryz.prog 200:=fun args w=>Tryz.call200 args w
theorem QbA:Q5 Tryz.prog 201:=fun args w=>Tryz.call201 args w
theorem Q8H:Q5 Tryz.prog 202:=fun args w=>Tryz.call202 args w
theorem QaC:Q5 Tryz.prog 203:=fun args w=>Tryz.call203 args w
theorem QbP:Q5 Tryz.prog 204:=fun args w=>Tryz.call204 args w
theorem Qb5:Q5 Tryz.prog 205:=fun args w=>Tryz.call205 args w
theorem Qbk:Q5 Tryz.prog 206:=fun args w=>Tryz.call206 args w
theorem Qba:Q5 Tryz.prog 207:=fun args w=>Tryz.call207 args w
theorem Qb4:Q5 Tryz.prog 208:=fun args w=>Tryz.call208 args w
theorem QaE:Q5 Tryz.prog 209:=fun args w=>Tryz.call209 args w
theorem Qb1:Q5 Tryz.prog 210:=fun args w=>Tryz.call210 args w
theorem QbJ:Q5 Tryz.prog 211:=fun args w=>Tryz.call211 args w
theorem Qbu:Q5 Tryz.prog 212:=fun args w=>Tryz.call212 args w
theorem Q9W:Q5 Tryz.prog 218:=fun args w=>Tryz.call218 args w
theorem QaV:Q5 Tryz.prog 221:=fun args w=>Tryz.call221 args w
theorem Qbo:Q5 Tryz.prog 222:=fun args w=>Tryz.call222 args w
theorem Qbm:Q5 Tryz.prog 223:=fun args w=>Tryz.call223 args w
theorem Q9p:Q5 Tryz.prog 224:=fun args w=>Tryz.call224 args w
theorem op3:Qw Tryz.prog 3 eI I64:=Qw.i64 Tryz.underlying3
theorem op22:Qw Tryz.prog 22 eLeI (OkL I64):=Qw.slice Tryz.underlying22 (n:=1) (by kernel_rfl) (by decide) op3
theorem op24:Qw Tryz.prog 24 Qd Q3y:=fun enc w held fuel cells d ps ht=>by
 obtain⟨fuel',hl,hf⟩:=Qw.st (N:=5) Tryz.underlying24 (by kernel_rfl) ht
 obtain⟨x0,k0,l0,c0⟩:=Qw.fld op3 (n:=1) (off:=0) (by kernel_rfl) (by omega) (hf _ (List.mem_of_getElem? (i:=0) rfl))
 obtain⟨x1,k1,l1,c1⟩:=Qw.fld op3 (n:=1) (off:=1) (by kernel_rfl) (by omega) (hf _ (List.mem_of_getElem? (i:=1) rfl))
 obtain⟨x2,k2,l2,c2⟩:=Qw.fld op3 (n:=1) (off:=2) (by kernel_rfl) (by omega) (hf _ (List.mem_of_getElem? (i:=2) rfl))
 obtain⟨x3,k3,l3,c3⟩:=Qw.fld op22 (n:=1) (off:=3) (by kernel_rfl) (by omega) (hf _ (List.mem_of_getElem? (i:=3) rfl))
 obtain⟨x4,k4,l4,c4⟩:=Qw.fld op22 (n:=1) (off:=4) (by kernel_rfl) (by omega) (hf _ (List.mem_of_getElem? (i:=4) rfl))
 have hc:Cov w cells 0 (Qd ⟨x0,x1,x2,x3,x4⟩):=(c0.app (c1.app (c2.app (c3.app (c4.app Cov.nil)))))
 exact⟨⟨x0,x1,x2,x3,x4⟩,⟨k0,k1,k2,k3,k4⟩,by rw [hl];rfl,fun j A v hA hv=>hc j A v hA (by simpa using hv)⟩
theorem op9:Qw Tryz.prog 9 eS OkS:=Qw.str Tryz.underlying9
theorem QbG:Qw Tryz.prog 154 G3 Q2t:=fun enc w held fuel cells d ps ht=>by
 obtain⟨fuel',hl,hf⟩:=Qw.st (N:=2) Tryz.underlying154 (by kernel_rfl) ht
 obtain⟨x0,k0,l0,c0⟩:=Qw.fld op3 (n:=1) (off:=0) (by kernel_rfl) (by omega) (hf _ (List.mem_of_getElem? (i:=0) rfl))
 obtain⟨x1,k1,l1,c1⟩:=Qw.fld op3 (n:=1) (off:=1) (by kernel_rfl) (by omega) (hf _ (List.mem_of_getElem? (i:=1) rfl))
 have hc:Cov w cells 0 (G3 ⟨x0,x1⟩):=(c0.app (c1.app Cov.nil))
 exact⟨⟨x0,x1⟩,⟨k0,k1⟩,by rw [hl];rfl,fun j A v hA hv=>hc j A v hA (by simpa using hv)⟩
theorem op84:Qw Tryz.prog 84 Q6F (OkL Q2t):=Qw.slice Tryz.underlying84 (n:=2) (by kernel_rfl) (by decide) QbG
theorem op86:Qw Tryz.prog 86 Q9 Q2w:=fun enc w held fuel cells d ps ht=>by
 obtain⟨fuel',hl,hf⟩:=Qw.st (N:=5) Tryz.underlying86 (by kernel_rfl) ht
 obtain⟨x0,k0,l0,c0⟩:=Qw.fld op9 (n:=1) (off:=0) (by kernel_rfl) (by omega) (hf _ (List.mem_of_getElem? (i:=0) rfl))
 obtain⟨x1,k1,l1,c1⟩:=Qw.fld op22 (n:=1) (off:=1) (by kernel_rfl) (by omega) (hf _ (List.mem_of_getElem? (i:=1) rfl))
 obtain⟨x2,k2,l2,c2⟩:=Qw.fld op3 (n:=1) (off:=2) (by kernel_rfl) (by omega) (hf _ (List.mem_of_getElem? (i:=2) rfl))
 obtain⟨x3,k3,l3,c3⟩:=Qw.fld op3 (n:=1) (off:=3) (by kernel_rfl) (by omega) (hf _ (List.mem_of_getElem? (i:=3) rfl))
 obtain⟨x4,k4,l4,c4⟩:=Qw.fld op84 (n:=1) (off:=4) (by kernel_rfl) (by omega) (hf _ (List.mem_of_getElem? (i:=4) rfl))
 have hc:Cov w cells 0 (Q9 ⟨x0,x1,x2,x3,x4⟩):=(c0.app (c1.app (c2.app (c3.app (c4.app Cov.nil)))))
 exact⟨⟨x0,x1,x2,x3,x4⟩,⟨k0,k1,k2,k3,k4⟩,by rw [hl];rfl,fun j A v hA hv=>hc j A v hA (by simpa using hv)⟩
theorem op25:Qw Tryz.prog 25 Q6T (OkL Q2w):=Qw.slice Tryz.underlying25 (n:=5) (by kernel_rfl) (by decide) op86
theorem op88:Qw Tryz.prog 88 Qa Q1I:=fun enc w held fuel cells d ps ht=>by
 obtain⟨fuel',hl,hf⟩:=Qw.st (N:=2) Tryz.underlying88 (by kernel_rfl) ht
 obtain⟨x0,k0,l0,c0⟩:=Qw.fld op9 (n:=1) (off:=0) (by kernel_rfl) (by omega) (hf _ (List.mem_of_getElem? (i:=0) rfl))
 obtain⟨x1,k1,l1,c1⟩:=Qw.fld op9 (n:=1) (off:=1) (by kernel_rfl) (by omega) (hf _ (List.mem_of_getElem? (i:=1) rfl))
 have hc:Cov w cells 0 (Qa ⟨x0,x1⟩):=(c0.app (c1.app Cov.nil))
 exact⟨⟨x0,x1⟩,⟨k0,k1⟩,by rw [hl];rfl,fun j A v hA hv=>hc j A v hA (by simpa using hv)⟩
theorem op26:Qw Tryz.prog 26 Q5P (OkL Q1I):=Qw.slice Tryz.underlying26 (n:=2) (by kernel_rfl) (by decide) op88
theorem op90:Qw Tryz.prog 90 Qc Q1E:=fun enc w held fuel cells d ps ht=>by
 obtain⟨fuel',hl,hf⟩:=Qw.st (N:=2) Tryz.underlying90 (by kernel_rfl) ht
 obtain⟨x0,k0,l0,c0⟩:=Qw.fld op3 (n:=1) (off:=0) (by kernel_rfl) (by omega) (hf _ (List.mem_of_getElem? (i:=0) rfl))
 obtain⟨x1,k1,l1,c1⟩:=Qw.fld op9 (n:=1) (off:=1) (by kernel_rfl) (by omega) (hf _ (List.mem_of_getElem? (i:=1) rfl))
 have hc:Cov w cells 0 (Qc ⟨x0,x1⟩):=(c0.app (c1.app Cov.nil))
 exact⟨⟨x0,x1⟩,⟨k0,k1⟩,by rw [hl];rfl,fun j A v hA hv=>hc j A v hA (by simpa using hv)⟩
theorem op27:Qw Tryz.prog 27 Q62 (OkL Q1E):=Qw.slice Tryz.underlying27 (n:=2) (by kernel_rfl) (by decide) op90
theorem Qbr:Qw Tryz.prog 103 Qb Q1u:=fun enc w held fuel cells d ps ht=>by
 obtain⟨fuel',hl,hf⟩:=Qw.st (N:=2) Tryz.underlying103 (by kernel_rfl) ht
 obtain⟨x0,k0,l0,c0⟩:=Qw.fld op3 (n:=1) (off:=0) (by kernel_rfl) (by omega) (hf _ (List.mem_of_getElem? (i:=0) rfl))
 obtain⟨x1,k1,l1,c1⟩:=Qw.fld op3 (n:=1) (off:=1) (by kernel_rfl) (by omega) (hf _ (List.mem_of_getElem? (i:=1) rfl))
 have hc:Cov w cells 0 (Qb ⟨x0,x1⟩):=(c0.app (c1.app Cov.nil))
 exact⟨⟨x0,x1⟩,⟨k0,k1⟩,by rw [hl];rfl,fun j A v hA hv=>hc j A v hA (by simpa using hv)⟩
theorem op28:Qw Tryz.prog 28 Q5u (OkL Q1u):=Qw.slice Tryz.underlying28 (n:=2) (by kernel_rfl) (by decide) Qbr
theorem op30:Qw Tryz.prog 30 Q2 Qz:=fun enc w held fuel cells d ps ht=>by
 obtain⟨fuel',hl,hf⟩:=Qw.st (N:=9) Tryz.underlying30 (by kernel_rfl) ht
 obtain⟨x0,k0,l0,c0⟩:=Qw.fld op24 (n:=5) (off:=0) (by kernel_rfl) (by omega) (hf _ (List.mem_of_getElem? (i:=0) rfl))
 obtain⟨x1,k1,l1,c1⟩:=Qw.fld op25 (n:=1) (off:=5) (by kernel_rfl) (by omega) (hf _ (List.mem_of_getElem? (i:=1) rfl))
 obtain⟨x2,k2,l2,c2⟩:=Qw.fld op26 (n:=1) (off:=6) (by kernel_rfl) (by omega) (hf _ (List.mem_of_getElem? (i:=2) rfl))
 obtain⟨x3,k3,l3,c3⟩:=Qw.fld op27 (n:=1) (off:=7) (by kernel_rfl) (by omega) (hf _ (List.mem_of_getElem? (i:=3) rfl))
 obtain⟨x4,k4,l4,c4⟩:=Qw.fld op28 (n:=1) (off:=8) (by kernel_rfl) (by omega) (hf _ (List.mem_of_getElem? (i:=4) rfl))
 have hc:Cov w cells 0 (Q2 ⟨x0,x1,x2,x3,x4⟩):=(c0.app (c1.app (c2.app (c3.app (c4.app Cov.nil)))))
 exact⟨⟨x0,x1,x2,x3,x4⟩,⟨k0,k1,k2,k3,k4⟩,by rw [hl];rfl,fun j A v hA hv=>hc j A v hA (by simpa using hv)⟩
theorem op4:Qw Tryz.prog 4 eB (fun (_:Bool)=>True):=Qw.bool Tryz.underlying4
theorem op56:Qw Tryz.prog 56 Q4 Q1x:=fun enc w held fuel cells d ps ht=>by
 obtain⟨fuel',hl,hf⟩:=Qw.st (N:=6) Tryz.underlying56 (by kernel_rfl) ht
 obtain⟨x0,k0,l0,c0⟩:=Qw.fld op3 (n:=1) (off:=0) (by kernel_rfl) (by omega) (hf _ (List.mem_of_getElem? (i:=0) rfl))
 obtain⟨x1,k1,l1,c1⟩:=Qw.fld op3 (n:=1) (off:=1) (by kernel_rfl) (by omega) (hf _ (List.mem_of_getElem? (i:=1) rfl))
 obtain⟨x2,k2,l2,c2⟩:=Qw.fld op3 (n:=1) (off:=2) (by kernel_rfl) (by omega) (hf _ (List.mem_of_getElem? (i:=2) rfl))
 obtain⟨x3,k3,l3,c3⟩:=Qw.fld op3 (n:=1) (off:=3) (by kernel_rfl) (by omega) (hf _ (List.mem_of_getElem? (i:=3) rfl))
 obtain⟨x4,k4,l4,c4⟩:=Qw.fld op3 (n:=1) (off:=4) (by kernel_rfl) (by omega) (hf _ (List.mem_of_getElem? (i:=4) rfl))
 obtain⟨x5,k5,l5,c5⟩:=Qw.fld op4 (n:=1) (off:=5) (by kernel_rfl) (by omega) (hf _ (List.mem_of_getElem? (i:=5) rfl))
 have hc:Cov w cells 0 (Q4 ⟨x0,x1,x2,x3,x4,x5⟩):=(c0.app (c1.app (c2.app (c3.app (c4.app (c5.app Cov.nil))))))
 exact⟨⟨x0,x1,x2,x3,x4,x5⟩,⟨k0,k1,k2,k3,k4,k5⟩,by rw [hl];rfl,fun j A v hA hv=>hc j A v hA (by simpa using hv)⟩
theorem op31:Qw Tryz.prog 31 Q5W (OkL Q1x):=Qw.slice Tryz.underlying31 (n:=6) (by kernel_rfl) (by decide) op56
theorem op77:Qw Tryz.prog 77 Q3 Q1O:=fun enc w held fuel cells d ps ht=>by
 obtain⟨fuel',hl,hf⟩:=Qw.st (N:=2) Tryz.underlying77 (by kernel_rfl) ht
 obtain⟨x0,k0,l0,c0⟩:=Qw.fld op3 (n:=1) (off:=0) (by kernel_rfl) (by omega) (hf _ (List.mem_of_getElem? (i:=0) rfl))
 obtain⟨x1,k1,l1,c1⟩:=Qw.fld op3 (n:=1) (off:=1) (by kernel_rfl) (by omega) (hf _ (List.mem_of_getElem? (i:=1) rfl))
 have hc:Cov w cells 0 (Q3 ⟨x0,x1⟩):=(c0.app (c1.app Cov.nil))
 exact⟨⟨x0,x1⟩,⟨k0,k1⟩,by rw [hl];rfl,fun j A v hA hv=>hc j A v hA (by simpa using hv)⟩
theorem op32:Qw Tryz.prog 32 Q5O (OkL Q1O):=Qw.slice Tryz.underlying32 (n:=2) (by kernel_rfl) (by decide) op77
theorem op34:Qw Tryz.prog 34 Q1 Qh:=fun enc w held fuel cells d ps ht=>by
 obtain⟨fuel',hl,hf⟩:=Qw.st (N:=6) Tryz.underlying34 (by kernel_rfl) ht
 obtain⟨x0,k0,l0,c0⟩:=Qw.fld op3 (n:=1) (off:=0) (by kernel_rfl) (by omega) (hf _ (List.mem_of_getElem? (i:=0) rfl))
 obtain⟨x1,k1,l1,c1⟩:=Qw.fld op22 (n:=1) (off:=1) (by kernel_rfl) (by omega) (hf _ (List.mem_of_getElem? (i:=1) rfl))
 obtain⟨x2,k2,l2,c2⟩:=Qw.fld op31 (n:=1) (off:=2) (by kernel_rfl) (by omega) (hf _ (List.mem_of_getElem? (i:=2) rfl))
 obtain⟨x3,k3,l3,c3⟩:=Qw.fld op22 (n:=1) (off:=3) (by kernel_rfl) (by omega) (hf _ (List.mem_of_getElem? (i:=3) rfl))
 obtain⟨x4,k4,l4,c4⟩:=Qw.fld op22 (n:=1) (off:=4) (by kernel_rfl) (by omega) (hf _ (List.mem_of_getElem? (i:=4) rfl))
 obtain⟨x5,k5,l5,c5⟩:=Qw.fld op32 (n:=1) (off:=5) (by kernel_rfl) (by omega) (hf _ (List.mem_of_getElem? (i:=5) rfl))
 have hc:Cov w cells 0 (Q1 ⟨x0,x1,x2,x3,x4,x5⟩):=(c0.app (c1.app (c2.app (c3.app (c4.app (c5.app Cov.nil))))))
 exact⟨⟨x0,x1,x2,x3,x4,x5⟩,⟨k0,k1,k2,k3,k4,k5⟩,by rw [hl];rfl,fun j A v hA hv=>hc j A v hA (by simpa using hv)⟩
theorem op39:Qw Tryz.prog 39 Ks Q3M:=fun enc w held fuel cells d ps ht=>by
 obtain⟨fuel',hl,hf⟩:=Qw.st (N:=3) Tryz.underlying39 (by kernel_rfl) ht
 obtain⟨x0,k0,l0,c0⟩:=Qw.fld op3 (n:=1) (off:=0) (by kernel_rfl) (by omega) (hf _ (List.mem_of_getElem? (i:=0) rfl))
 obtain⟨x1,k1,l1,c1⟩:=Qw.fld op3 (n:=1) (off:=1) (by kernel_rfl) (by omega) (hf _ (List.mem_of_getElem? (i:=1) rfl))
 obtain⟨x2,k2,l2,c2⟩:=Qw.fld op3 (n:=1) (off:=2) (by kernel_rfl) (by omega) (hf _ (List.mem_of_getElem? (i:=2) rfl))
 have hc:Cov w cells 0 (Ks ⟨x0,x1,x2⟩):=(c0.app (c1.app (c2.app Cov.nil)))
 exact⟨⟨x0,x1,x2⟩,⟨k0,k1,k2⟩,by rw [hl];rfl,fun j A v hA hv=>hc j A v hA (by simpa using hv)⟩
theorem op41:Qw Tryz.prog 41 QJ Ge:=fun enc w held fuel cells d ps ht=>by
 obtain⟨fuel',hl,hf⟩:=Qw.st (N:=4) Tryz.underlying41 (by kernel_rfl) ht
 obtain⟨x0,k0,l0,c0⟩:=Qw.fld op22 (n:=1) (off:=0) (by kernel_rfl) (by omega) (hf _ (List.mem_of_getElem? (i:=0) rfl))
 obtain⟨x1,k1,l1,c1⟩:=Qw.fld op39 (n:=3) (off:=1) (by kernel_rfl) (by omega) (hf _ (List.mem_of_getElem? (i:=1) rfl))
 have hc:Cov w cells 0 (QJ ⟨x0,x1⟩):=(c0.app (c1.app Cov.nil))
 exact⟨⟨x0,x1⟩,⟨k0,k1⟩,by rw [hl];rfl,fun j A v hA hv=>hc j A v hA (by simpa using hv)⟩
theorem op35:Qw Tryz.prog 35 Q1H (OkL Ge):=Qw.slice Tryz.underlying35 (n:=4) (by kernel_rfl) (by decide) op41
theorem Q9I (xs:List Int) (l:Nat) (J:Nat→World→Prop) (Jx:World→Prop) (S:Nat→Prop) (w W:World) (b off cap:Nat) (p0:Option Addr) (hlen:xs.length≤1099511627776) (hS:S b)
  (hY:∀m x W1,xs[m]?=some x→J m W1→YieldAt Fence.wide 1 Tryz.prog l #[.int .i64 x] W1 fun e W'=>(e=.returned (.bool true)∧J (m+1) W'∧KS S W1 W')∨(e=.returned (.bool false)∧Jx W'))
  (hc:W.cell? ⟨b,off,none⟩=some (.slice p0 xs.length cap)) (hL:Q4M S W p0 xs) (h0:J 0 W):
  CallsIn Fence.wide 2 Tryz.prog 152 #[.func (.yield l) #[] #[],.pointer (some ⟨b,off,none⟩)] W fun e W'=>(∃v,e=.returned v)∧(J xs.length W'∨Jx W'):=by
 refine callsIn_of_wp Tryz.func152 rfl trivial ?_ rfl
 simp only [Tryz.ntmps152,List.size_toArray,List.length_cons,List.length_nil,Nat.reduceAdd,Nat.reduceSub,Array.replicate_succ,Array.replicate_zero,List.push_toArray,List.append_toArray,List.nil_append,List.cons_append]
 gi_wp2
 gi_loopw [7] (fun p wr=>∃(m:Nat),m≤xs.length∧p=.int .i64 (m:Int)∧Q4M S wr p0 xs∧J m wr)
  (fun p wr=>match p with | .int _ i=>xs.length-i.toNat | _=>0)
 case atStart=>exact⟨0,Nat.zero_le _,rfl,hL,h0⟩
 case round=>
  obtain⟨m,hm,rfl,hl,hJs⟩:=hrel
  by_cases hlt:m<xs.length
  ·have hx:xs[m]?=some (xs.getD m 0):=by rw [List.getD_eq_getElem?_getD,List.getElem?_eq_getElem hlt];rfl
   obtain⟨b',off',rfl,hb,hv⟩:=hl m _ hx
   obtain⟨fn,tmps,assign,body,hy,hR⟩:=hY m (xs.getD m 0) wr hx hJs
   generalize xs.getD m 0=x0 at *
   gi_wp2
   refine hR.mono ?_
   rintro e W3 (⟨rfl,hJ3,hk3⟩ | ⟨rfl,hJx3⟩)
   ·gi_wp2
    go_roundw
    case rel=>exact⟨m+1,by omega,rfl,hl.keep hk3,hJ3⟩
    case measure=>simp;omega
   ·gi_wp2
    refine bodyPost_ret (results_none rfl _ _ _) rfl ?_
    exact⟨⟨_,rfl⟩,.inr hJx3⟩
  ·obtain rfl:m=xs.length:=by omega
   gi_wp2
   go_end0
   exact⟨⟨_,rfl⟩,.inl hJs⟩
theorem QbI (xs:List Int) (hlen:xs.length≤1099511627776):Iter Tryz.prog 152 [.rp [.sl 1 eI xs]] (fun x:Int=>[.int .i64 x]) xs:=fun w ok β lb hlb l J Jx W hW hY h0=>by
 obtain⟨b,off,p,cap,rfl,hb,hc,hr⟩:=Q8u hlb
 exact Q9I xs l J Jx ok w W b off cap p hlen hb hY ((hW.cell hb).trans hc) (hr.keep hW) h0
theorem Q9j (xs:List Int) (l:Nat) (J:Nat→World→Prop) (Jx:World→Prop) (S:Nat→Prop) (w W:World) (b off cap:Nat) (p0:Option Addr) (hlen:xs.length≤1099511627776) (hS:S b)
  (hY:∀m x W1,(bkw xs)[m]?=some x→J m W1→YieldAt Fence.wide 1 Tryz.prog l #[.int .i64 x.1,.int .i64 x.2] W1 fun e W'=>(e=.returned (.bool true)∧J (m+1) W'∧KS S W1 W')∨(e=.returned (.bool false)∧Jx W'))
  (hc:W.cell? ⟨b,off,none⟩=some (.slice p0 xs.length cap)) (hL:Q4M S W p0 xs) (h0:J 0 W):
  CallsIn Fence.wide 2 Tryz.prog 223 #[.func (.yield l) #[] #[],.pointer (some ⟨b,off,none⟩)] W fun e W'=>(∃v,e=.returned v)∧(J (bkw xs).length W'∨Jx W'):=by
 refine callsIn_of_wp Tryz.func223 rfl trivial ?_ rfl
 simp only [Tryz.ntmps223,List.size_toArray,List.length_cons,List.length_nil,Nat.reduceAdd,Nat.reduceSub,Array.replicate_succ,Array.replicate_zero,List.push_toArray,List.append_toArray,List.nil_append,List.cons_append]
 gi_wp2
 gi_loopw [3] (fun p wr=>∃(m:Nat),m≤xs.length∧p=.int .i64 ((m:Int)-1)∧Q4M S wr p0 xs∧wr.cell? ⟨b,off,none⟩=some (.slice p0 xs.length cap)∧J (xs.length-m) wr)
  (fun p wr=>match p with | .int _ i=>(i+1).toNat | _=>0)
 case atStart=>exact⟨xs.length,Nat.le_refl _,rfl,hL,hc,by simpa using h0⟩
 case round=>
  obtain⟨m,hm,rfl,hl,hc,hJs⟩:=hrel
  cases m with
  | zero=>
   gi_wp2
   go_end0
   exact⟨⟨_,rfl⟩,.inl (by rw [Q5D];exact hJs)⟩
  | succ m=>
   have hx:xs[m]?=some (xs.getD m 0):=by rw [List.getD_eq_getElem?_getD,List.getElem?_eq_getElem (by omega)];rfl
   obtain⟨b',off',rfl,hb,hv⟩:=hl m _ hx
   obtain⟨fn,tmps,assign,body,hy,hR⟩:=hY (xs.length-(m+1)) ((m:Int),xs.getD m 0) wr (Q7r (by omega)) hJs
   have e1:((m+1:Nat):Int)-1=(m:Int):=by omega
   rw [e1]
   generalize xs.getD m 0=x0 at *
   gi_wp2
   refine hR.mono ?_
   rintro e W3 (⟨rfl,hJ3,hk3⟩ | ⟨rfl,hJx3⟩)
   ·gi_wp2
    go_roundw
    case rel=>exact⟨m,by omega,rfl,hl.keep hk3,(hk3.cell hS).trans hc,by rw [show xs.length-m=xs.length-(m+1)+1 by omega];exact hJ3⟩
    case measure=>simp
   ·gi_wp2
    refine bodyPost_ret (results_none rfl _ _ _) rfl ?_
    exact⟨⟨_,rfl⟩,.inr hJx3⟩
theorem Qbx (xs:List Int) (hlen:xs.length≤1099511627776):Iter Tryz.prog 223 [.rp [.sl 1 eI xs]] (fun x:Int×Int=>[.int .i64 x.1,.int .i64 x.2]) (bkw xs):=fun w ok β lb hlb l J Jx W hW hY h0=>by
 obtain⟨b,off,p,cap,rfl,hb,hc,hr⟩:=Q8u hlb
 exact Q9j xs l J Jx ok w W b off cap p hlen hb hY ((hW.cell hb).trans hc) (hr.keep hW) h0
end Go.Proofs.YtbpbennpgnjbkaaGreat
