/- The encodings of the data, and the types' table (written by a program of the prover). -/
import Derived.Test.YtbkpekodmhkbdaaGreatLibZX
import Derived.Test.YtbkpekodmhkbdaaGreatVc
import Derived.Test.YtbkpekodmhkbdaaGreatChecked
import Derived.Test.YtbkpekodmhkbdaaGreatLibZC
import Derived.Test.YtbkpekodmhkbdaaGreatLibZR
import Derived.Test.YtbkpekodmhkbdaaGreatLibZS
import Derived.Test.YtbkpekodmhkbdaaGreatLibZI
import Derived.Test.YtbkpekodmhkbdaaGreatLibZG
import Derived.RangeFuncLeaves
import Derived.WalkKit
import Derived.OwnWalkIn
import Derived.TacticsInMore
import Derived.LoopNIn
import Derived.LoopIn
import Derived.WalkKit
import Derived.Lib.Walk
import Derived.Laws.Externs
import Derived.Laws.IdiomCopy
import Derived.Deep.RegionLaw
import Derived.IntWalk
import Derived.KernelRfl
set_option maxRecDepth 100000
set_option maxHeartbeats 8000000
set_option linter.unusedVariables false
set_option linter.unusedSimpArgs false
namespace Go.Proofs.YtbkpekodmhkbdaaGreat
open Go Go.Taq
@[reducible] def eI (x:Int):List AVal:=[.i x]
@[reducible] def GS (x:XP):List AVal:=[.i x.From,.i x.To]
@[reducible] def Q8 (x:Ql):List AVal:=[.v (.string x.Name),.sl 1 eI x.Cells,.i x.Speed,.i x.Keep,.sl 2 GS x.Shut]
@[reducible] def Q3 (x:Qb):List AVal:=[.v (.string x.A),.v (.string x.B)]
@[reducible] def Q4 (x:QE):List AVal:=[.i x.Cell,.v (.string x.Class)]
@[reducible] def Q5 (x:QC):List AVal:=[.i x.Cell,.i x.Charge]
@[reducible] def Q0 (x:ApiRobot):List AVal:=[.i x.Cell,.i x.Load,.i x.Charge,.i x.Rest,.i x.Mute,.b x.Dead]
@[reducible] def Q7 (x:ApiStuck):List AVal:=[.i x.Cell,.i x.Left]
def kI (x:Int):Value:=.int .i64 x
@[reducible] def eB (x:Bool):List AVal:=[.b x]
def veB (x:Bool):AVal:=.b x
@[reducible] def Q6 (x:ApiSite):List AVal:=[.i x.Floor.W,.i x.Floor.H,.i x.Floor.D,.sl 1 eI x.Floor.Kind,.sl 1 eI x.Floor.Out,.sl 5 Q8 x.Zones,.sl 2 Q3 x.Aparts,.sl 2 Q4 x.Shelves,.sl 2 Q5 x.Robots]
@[reducible] def Q1 (x:ApiState):List AVal:=[.i x.Tick,.sl 1 eI x.Shelves,.sl 6 Q0 x.Robots,.sl 1 eI x.People,.sl 1 eI x.Dead,.sl 2 Q7 x.Stuck]
@[reducible] def eLeI (x:List Int):List AVal:=[.sl 1 eI x]
@[reducible] def Qc (x:ApiFloor):List AVal:=[.i x.W,.i x.H,.i x.D,.sl 1 eI x.Kind,.sl 1 eI x.Out]
@[reducible] def Q5j (x:Kh):List AVal:=[.i x.x,.i x.y,.i x.z]
def veI (x:Int):AVal:=.i x
def kS (x:ByteArray):Value:=.string x
def Q2g (x:Qb):List Value:=[.string x.A,.string x.B]
def Y6 (x:Qb):Value:=.agg (Q2g x).toArray
@[reducible] def Z1 (x:QV):List AVal:=[.i x.Kind,.i x.A,.i x.N]
@[reducible] def eS (x:ByteArray):List AVal:=[.v (.string x)]
@[reducible] def Q5i (x:List XP):List AVal:=[.sl 2 GS x]
@[reducible] def Q52 (x:List Ql):List AVal:=[.sl 5 Q8 x]
@[reducible] def Q49 (x:List Qb):List AVal:=[.sl 2 Q3 x]
@[reducible] def Q4f (x:List QE):List AVal:=[.sl 2 Q4 x]
@[reducible] def Q4b (x:List QC):List AVal:=[.sl 2 Q5 x]
@[reducible] def Q3U (x:List ApiRobot):List AVal:=[.sl 6 Q0 x]
@[reducible] def Q45 (x:List ApiStuck):List AVal:=[.sl 2 Q7 x]
def te3:TE:=⟨.int .i64,1,8,[.int .i64 0]⟩
theorem teok3:TEok Tryz.prog 3 te3:=⟨⟨_,Tryz.underlying3,rfl⟩,Tryz.t3,_,(by kernel_rfl:Tryz.prog.info? 3=some Tryz.t3),rfl,rfl,rfl,rfl,(fun h=>by cases h),rfl,by decide⟩
def te4:TE:=⟨.bool,1,1,[.bool false]⟩
theorem teok4:TEok Tryz.prog 4 te4:=⟨⟨_,Tryz.underlying4,rfl⟩,Tryz.t4,_,(by kernel_rfl:Tryz.prog.info? 4=some Tryz.t4),rfl,rfl,rfl,rfl,(fun h=>by cases h),rfl,by decide⟩
def te5:TE:=⟨.int .u8,1,1,[.int .u8 0]⟩
theorem teok5:TEok Tryz.prog 5 te5:=⟨⟨_,Tryz.underlying5,rfl⟩,Tryz.t5,_,(by kernel_rfl:Tryz.prog.info? 5=some Tryz.t5),rfl,rfl,rfl,rfl,(fun h=>by cases h),rfl,by decide⟩
def te9:TE:=⟨.str,1,16,[.string ByteArray.empty]⟩
theorem teok9:TEok Tryz.prog 9 te9:=⟨⟨_,Tryz.underlying9,rfl⟩,Tryz.t9,_,(by kernel_rfl:Tryz.prog.info? 9=some Tryz.t9),rfl,rfl,rfl,rfl,(fun h=>by cases h),rfl,by decide⟩
def te22:TE:=⟨.sl 3,1,24,[.slice none 0 0]⟩
theorem Q9g:TEok Tryz.prog 22 te22:=⟨⟨_,Tryz.underlying22,rfl⟩,Tryz.t22,_,(by kernel_rfl:Tryz.prog.info? 22=some Tryz.t22),rfl,rfl,rfl,rfl,(fun h=>by cases h),rfl,by decide⟩
def te24:TE:=⟨.st [(0,3),(1,3),(2,3),(3,22),(4,22)],5,72,[.int .i64 0,.int .i64 0,.int .i64 0,.slice none 0 0,.slice none 0 0]⟩
theorem Q9A:TEok Tryz.prog 24 te24:=⟨⟨_,Tryz.underlying24,⟨_,rfl,rfl⟩⟩,Tryz.t24,_,(by kernel_rfl:Tryz.prog.info? 24=some Tryz.t24),rfl,rfl,rfl,rfl,(fun _=>⟨_,rfl⟩),rfl,by decide⟩
def te25:TE:=⟨.sl 59,1,24,[.slice none 0 0]⟩
theorem Q8U:TEok Tryz.prog 25 te25:=⟨⟨_,Tryz.underlying25,rfl⟩,Tryz.t25,_,(by kernel_rfl:Tryz.prog.info? 25=some Tryz.t25),rfl,rfl,rfl,rfl,(fun h=>by cases h),rfl,by decide⟩
def te26:TE:=⟨.sl 69,1,24,[.slice none 0 0]⟩
theorem Q9r:TEok Tryz.prog 26 te26:=⟨⟨_,Tryz.underlying26,rfl⟩,Tryz.t26,_,(by kernel_rfl:Tryz.prog.info? 26=some Tryz.t26),rfl,rfl,rfl,rfl,(fun h=>by cases h),rfl,by decide⟩
def te27:TE:=⟨.sl 71,1,24,[.slice none 0 0]⟩
theorem Q9k:TEok Tryz.prog 27 te27:=⟨⟨_,Tryz.underlying27,rfl⟩,Tryz.t27,_,(by kernel_rfl:Tryz.prog.info? 27=some Tryz.t27),rfl,rfl,rfl,rfl,(fun h=>by cases h),rfl,by decide⟩
def te28:TE:=⟨.sl 84,1,24,[.slice none 0 0]⟩
theorem Q8Z:TEok Tryz.prog 28 te28:=⟨⟨_,Tryz.underlying28,rfl⟩,Tryz.t28,_,(by kernel_rfl:Tryz.prog.info? 28=some Tryz.t28),rfl,rfl,rfl,rfl,(fun h=>by cases h),rfl,by decide⟩
def te30:TE:=⟨.st [(0,24),(5,25),(6,26),(7,27),(8,28)],9,168,[.int .i64 0,.int .i64 0,.int .i64 0,.slice none 0 0,.slice none 0 0,.slice none 0 0,.slice none 0 0,.slice none 0 0,.slice none 0 0]⟩
theorem Q8X:TEok Tryz.prog 30 te30:=⟨⟨_,Tryz.underlying30,⟨_,rfl,rfl⟩⟩,Tryz.t30,_,(by kernel_rfl:Tryz.prog.info? 30=some Tryz.t30),rfl,rfl,rfl,rfl,(fun _=>⟨_,rfl⟩),rfl,by decide⟩
def te31:TE:=⟨.sl 53,1,24,[.slice none 0 0]⟩
theorem Q9y:TEok Tryz.prog 31 te31:=⟨⟨_,Tryz.underlying31,rfl⟩,Tryz.t31,_,(by kernel_rfl:Tryz.prog.info? 31=some Tryz.t31),rfl,rfl,rfl,rfl,(fun h=>by cases h),rfl,by decide⟩
def te32:TE:=⟨.sl 129,1,24,[.slice none 0 0]⟩
theorem Q8C:TEok Tryz.prog 32 te32:=⟨⟨_,Tryz.underlying32,rfl⟩,Tryz.t32,_,(by kernel_rfl:Tryz.prog.info? 32=some Tryz.t32),rfl,rfl,rfl,rfl,(fun h=>by cases h),rfl,by decide⟩
def te34:TE:=⟨.st [(0,3),(1,22),(2,31),(3,22),(4,22),(5,32)],6,128,[.int .i64 0,.slice none 0 0,.slice none 0 0,.slice none 0 0,.slice none 0 0,.slice none 0 0]⟩
theorem Q8M:TEok Tryz.prog 34 te34:=⟨⟨_,Tryz.underlying34,⟨_,rfl,rfl⟩⟩,Tryz.t34,_,(by kernel_rfl:Tryz.prog.info? 34=some Tryz.t34),rfl,rfl,rfl,rfl,(fun _=>⟨_,rfl⟩),rfl,by decide⟩
def te43:TE:=⟨.int .i64,1,8,[.int .i64 0]⟩
theorem Q8O:TEok Tryz.prog 43 te43:=⟨⟨_,Tryz.underlying43,rfl⟩,Tryz.t43,_,(by kernel_rfl:Tryz.prog.info? 43=some Tryz.t43),rfl,rfl,rfl,rfl,(fun h=>by cases h),rfl,by decide⟩
def te53:TE:=⟨.st [(0,3),(1,3),(2,3),(3,3),(4,3),(5,4)],6,48,[.int .i64 0,.int .i64 0,.int .i64 0,.int .i64 0,.int .i64 0,.bool false]⟩
theorem Q8Y:TEok Tryz.prog 53 te53:=⟨⟨_,Tryz.underlying53,⟨_,rfl,rfl⟩⟩,Tryz.t53,_,(by kernel_rfl:Tryz.prog.info? 53=some Tryz.t53),rfl,rfl,rfl,rfl,(fun _=>⟨_,rfl⟩),rfl,by decide⟩
def te55:TE:=⟨.fn,1,8,[.nilFunc]⟩
theorem Q8u:TEok Tryz.prog 55 te55:=⟨⟨_,Tryz.underlying55,⟨_,_,_,rfl⟩⟩,Tryz.t55,_,(by kernel_rfl:Tryz.prog.info? 55=some Tryz.t55),rfl,rfl,rfl,rfl,(fun h=>by cases h),rfl,by decide⟩
def te57:TE:=⟨.sl 120,1,24,[.slice none 0 0]⟩
theorem Q9w:TEok Tryz.prog 57 te57:=⟨⟨_,Tryz.underlying57,rfl⟩,Tryz.t57,_,(by kernel_rfl:Tryz.prog.info? 57=some Tryz.t57),rfl,rfl,rfl,rfl,(fun h=>by cases h),rfl,by decide⟩
def te59:TE:=⟨.st [(0,9),(1,22),(2,3),(3,3),(4,57)],5,80,[.string ByteArray.empty,.slice none 0 0,.int .i64 0,.int .i64 0,.slice none 0 0]⟩
theorem Q8S:TEok Tryz.prog 59 te59:=⟨⟨_,Tryz.underlying59,⟨_,rfl,rfl⟩⟩,Tryz.t59,_,(by kernel_rfl:Tryz.prog.info? 59=some Tryz.t59),rfl,rfl,rfl,rfl,(fun _=>⟨_,rfl⟩),rfl,by decide⟩
def te66:TE:=⟨.st [(0,3),(1,3),(2,3)],3,24,[.int .i64 0,.int .i64 0,.int .i64 0]⟩
theorem Q9q:TEok Tryz.prog 66 te66:=⟨⟨_,Tryz.underlying66,⟨_,rfl,rfl⟩⟩,Tryz.t66,_,(by kernel_rfl:Tryz.prog.info? 66=some Tryz.t66),rfl,rfl,rfl,rfl,(fun _=>⟨_,rfl⟩),rfl,by decide⟩
def te69:TE:=⟨.st [(0,9),(1,9)],2,32,[.string ByteArray.empty,.string ByteArray.empty]⟩
theorem Q8P:TEok Tryz.prog 69 te69:=⟨⟨_,Tryz.underlying69,⟨_,rfl,rfl⟩⟩,Tryz.t69,_,(by kernel_rfl:Tryz.prog.info? 69=some Tryz.t69),rfl,rfl,rfl,rfl,(fun _=>⟨_,rfl⟩),rfl,by decide⟩
def te71:TE:=⟨.st [(0,3),(1,9)],2,24,[.int .i64 0,.string ByteArray.empty]⟩
theorem Q8r:TEok Tryz.prog 71 te71:=⟨⟨_,Tryz.underlying71,⟨_,rfl,rfl⟩⟩,Tryz.t71,_,(by kernel_rfl:Tryz.prog.info? 71=some Tryz.t71),rfl,rfl,rfl,rfl,(fun _=>⟨_,rfl⟩),rfl,by decide⟩
def te74:TE:=⟨.pt 117,1,8,[.pointer none]⟩
theorem Q8F:TEok Tryz.prog 74 te74:=⟨⟨_,Tryz.underlying74,rfl⟩,Tryz.t74,_,(by kernel_rfl:Tryz.prog.info? 74=some Tryz.t74),rfl,rfl,rfl,rfl,(fun h=>by cases h),rfl,by decide⟩
def te84:TE:=⟨.st [(0,3),(1,3)],2,16,[.int .i64 0,.int .i64 0]⟩
theorem Q8z:TEok Tryz.prog 84 te84:=⟨⟨_,Tryz.underlying84,⟨_,rfl,rfl⟩⟩,Tryz.t84,_,(by kernel_rfl:Tryz.prog.info? 84=some Tryz.t84),rfl,rfl,rfl,rfl,(fun _=>⟨_,rfl⟩),rfl,by decide⟩
def te94:TE:=⟨.fn,1,8,[.nilFunc]⟩
theorem Q91:TEok Tryz.prog 94 te94:=⟨⟨_,Tryz.underlying94,⟨_,_,_,rfl⟩⟩,Tryz.t94,_,(by kernel_rfl:Tryz.prog.info? 94=some Tryz.t94),rfl,rfl,rfl,rfl,(fun h=>by cases h),rfl,by decide⟩
def te95:TE:=⟨.pt 100,1,8,[.pointer none]⟩
theorem Q8H:TEok Tryz.prog 95 te95:=⟨⟨_,Tryz.underlying95,rfl⟩,Tryz.t95,_,(by kernel_rfl:Tryz.prog.info? 95=some Tryz.t95),rfl,rfl,rfl,rfl,(fun h=>by cases h),rfl,by decide⟩
def te98:TE:=⟨.mp 3 4,1,8,[.map none]⟩
theorem Q8T:TEok Tryz.prog 98 te98:=⟨⟨_,Tryz.underlying98,rfl⟩,Tryz.t98,_,(by kernel_rfl:Tryz.prog.info? 98=some Tryz.t98),rfl,rfl,rfl,rfl,(fun h=>by cases h),rfl,by decide⟩
def te100:TE:=⟨.st [(0,30),(9,34),(15,22),(16,98)],17,328,[.int .i64 0,.int .i64 0,.int .i64 0,.slice none 0 0,.slice none 0 0,.slice none 0 0,.slice none 0 0,.slice none 0 0,.slice none 0 0,.int .i64 0,.slice none 0 0,.slice none 0 0,.slice none 0 0,.slice none 0 0,.slice none 0 0,.slice none 0 0,.map none]⟩
theorem Q86:TEok Tryz.prog 100 te100:=⟨⟨_,Tryz.underlying100,⟨_,rfl,rfl⟩⟩,Tryz.t100,_,(by kernel_rfl:Tryz.prog.info? 100=some Tryz.t100),rfl,rfl,rfl,rfl,(fun _=>⟨_,rfl⟩),rfl,by decide⟩
def te114:TE:=⟨.mp 3 3,1,8,[.map none]⟩
theorem Q8b:TEok Tryz.prog 114 te114:=⟨⟨_,Tryz.underlying114,rfl⟩,Tryz.t114,_,(by kernel_rfl:Tryz.prog.info? 114=some Tryz.t114),rfl,rfl,rfl,rfl,(fun h=>by cases h),rfl,by decide⟩
def te115:TE:=⟨.mp 9 3,1,8,[.map none]⟩
theorem Q7J:TEok Tryz.prog 115 te115:=⟨⟨_,Tryz.underlying115,rfl⟩,Tryz.t115,_,(by kernel_rfl:Tryz.prog.info? 115=some Tryz.t115),rfl,rfl,rfl,rfl,(fun h=>by cases h),rfl,by decide⟩
def te117:TE:=⟨.st [(0,30),(9,114),(10,98),(11,98),(12,115),(13,98),(14,22),(15,22)],16,256,[.int .i64 0,.int .i64 0,.int .i64 0,.slice none 0 0,.slice none 0 0,.slice none 0 0,.slice none 0 0,.slice none 0 0,.slice none 0 0,.map none,.map none,.map none,.map none,.map none,.slice none 0 0,.slice none 0 0]⟩
theorem Q8i:TEok Tryz.prog 117 te117:=⟨⟨_,Tryz.underlying117,⟨_,rfl,rfl⟩⟩,Tryz.t117,_,(by kernel_rfl:Tryz.prog.info? 117=some Tryz.t117),rfl,rfl,rfl,rfl,(fun _=>⟨_,rfl⟩),rfl,by decide⟩
def te120:TE:=⟨.st [(0,3),(1,3)],2,16,[.int .i64 0,.int .i64 0]⟩
theorem Q7G:TEok Tryz.prog 120 te120:=⟨⟨_,Tryz.underlying120,⟨_,rfl,rfl⟩⟩,Tryz.t120,_,(by kernel_rfl:Tryz.prog.info? 120=some Tryz.t120),rfl,rfl,rfl,rfl,(fun _=>⟨_,rfl⟩),rfl,by decide⟩
def te127:TE:=⟨.fn,1,8,[.nilFunc]⟩
theorem Q7N:TEok Tryz.prog 127 te127:=⟨⟨_,Tryz.underlying127,⟨_,_,_,rfl⟩⟩,Tryz.t127,_,(by kernel_rfl:Tryz.prog.info? 127=some Tryz.t127),rfl,rfl,rfl,rfl,(fun h=>by cases h),rfl,by decide⟩
def te129:TE:=⟨.st [(0,3),(1,3)],2,16,[.int .i64 0,.int .i64 0]⟩
theorem Q6v:TEok Tryz.prog 129 te129:=⟨⟨_,Tryz.underlying129,⟨_,rfl,rfl⟩⟩,Tryz.t129,_,(by kernel_rfl:Tryz.prog.info? 129=some Tryz.t129),rfl,rfl,rfl,rfl,(fun _=>⟨_,rfl⟩),rfl,by decide⟩
def te131:TE:=⟨.fn,1,8,[.nilFunc]⟩
theorem Q8n:TEok Tryz.prog 131 te131:=⟨⟨_,Tryz.underlying131,⟨_,_,_,rfl⟩⟩,Tryz.t131,_,(by kernel_rfl:Tryz.prog.info? 131=some Tryz.t131),rfl,rfl,rfl,rfl,(fun h=>by cases h),rfl,by decide⟩
def te134:TE:=⟨.fn,1,8,[.nilFunc]⟩
theorem Q7I:TEok Tryz.prog 134 te134:=⟨⟨_,Tryz.underlying134,⟨_,_,_,rfl⟩⟩,Tryz.t134,_,(by kernel_rfl:Tryz.prog.info? 134=some Tryz.t134),rfl,rfl,rfl,rfl,(fun h=>by cases h),rfl,by decide⟩
def te142:TE:=⟨.sl 4,1,24,[.slice none 0 0]⟩
theorem Q7K:TEok Tryz.prog 142 te142:=⟨⟨_,Tryz.underlying142,rfl⟩,Tryz.t142,_,(by kernel_rfl:Tryz.prog.info? 142=some Tryz.t142),rfl,rfl,rfl,rfl,(fun h=>by cases h),rfl,by decide⟩
def te145:TE:=⟨.st [(0,3),(1,3),(2,3)],3,24,[.int .i64 0,.int .i64 0,.int .i64 0]⟩
theorem Q7Z:TEok Tryz.prog 145 te145:=⟨⟨_,Tryz.underlying145,⟨_,rfl,rfl⟩⟩,Tryz.t145,_,(by kernel_rfl:Tryz.prog.info? 145=some Tryz.t145),rfl,rfl,rfl,rfl,(fun _=>⟨_,rfl⟩),rfl,by decide⟩
def te146:TE:=⟨.ar 6 145,18,144,List.replicate 18 (.int .i64 0)⟩
theorem Q7E:TEok Tryz.prog 146 te146:=⟨⟨_,Tryz.underlying146,rfl⟩,Tryz.t146,_,(by kernel_rfl:Tryz.prog.info? 146=some Tryz.t146),rfl,rfl,rfl,rfl,(fun _=>⟨_,rfl⟩),rfl,by decide⟩
def te159:TE:=⟨.fn,1,8,[.nilFunc]⟩
theorem Q7x:TEok Tryz.prog 159 te159:=⟨⟨_,Tryz.underlying159,⟨_,_,_,rfl⟩⟩,Tryz.t159,_,(by kernel_rfl:Tryz.prog.info? 159=some Tryz.t159),rfl,rfl,rfl,rfl,(fun h=>by cases h),rfl,by decide⟩
def te167:TE:=⟨.int .u64,1,8,[.int .u64 0]⟩
theorem Q7z:TEok Tryz.prog 167 te167:=⟨⟨_,Tryz.underlying167,rfl⟩,Tryz.t167,_,(by kernel_rfl:Tryz.prog.info? 167=some Tryz.t167),rfl,rfl,rfl,rfl,(fun h=>by cases h),rfl,by decide⟩
def te168:TE:=⟨.sl 22,1,24,[.slice none 0 0]⟩
theorem Q7O:TEok Tryz.prog 168 te168:=⟨⟨_,Tryz.underlying168,rfl⟩,Tryz.t168,_,(by kernel_rfl:Tryz.prog.info? 168=some Tryz.t168),rfl,rfl,rfl,rfl,(fun h=>by cases h),rfl,by decide⟩
def te196:TE:=⟨.ar 4 3,4,32,[.int .i64 0,.int .i64 0,.int .i64 0,.int .i64 0]⟩
theorem Q7P:TEok Tryz.prog 196 te196:=⟨⟨_,Tryz.underlying196,rfl⟩,Tryz.t196,_,(by kernel_rfl:Tryz.prog.info? 196=some Tryz.t196),rfl,rfl,rfl,rfl,(fun _=>⟨_,rfl⟩),rfl,by decide⟩
def te201:TE:=⟨.fn,1,8,[.nilFunc]⟩
theorem Q7Y:TEok Tryz.prog 201 te201:=⟨⟨_,Tryz.underlying201,⟨_,_,_,rfl⟩⟩,Tryz.t201,_,(by kernel_rfl:Tryz.prog.info? 201=some Tryz.t201),rfl,rfl,rfl,rfl,(fun h=>by cases h),rfl,by decide⟩
def te202:TE:=⟨.mp 69 4,1,8,[.map none]⟩
theorem Q8d:TEok Tryz.prog 202 te202:=⟨⟨_,Tryz.underlying202,rfl⟩,Tryz.t202,_,(by kernel_rfl:Tryz.prog.info? 202=some Tryz.t202),rfl,rfl,rfl,rfl,(fun h=>by cases h),rfl,by decide⟩
def te214:TE:=⟨.ar 6 3,6,48,[.int .i64 0,.int .i64 0,.int .i64 0,.int .i64 0,.int .i64 0,.int .i64 0]⟩
theorem Q7L:TEok Tryz.prog 214 te214:=⟨⟨_,Tryz.underlying214,rfl⟩,Tryz.t214,_,(by kernel_rfl:Tryz.prog.info? 214=some Tryz.t214),rfl,rfl,rfl,rfl,(fun _=>⟨_,rfl⟩),rfl,by decide⟩
theorem Q94:EqT Tryz.prog 69 [(0,9),(1,9)]:=⟨by kernel_rfl,by kernel_rfl,by kernel_rfl,by kernel_rfl,by kernel_rfl⟩
def tab:Tab:=[(3,te3),(4,te4),(5,te5),(9,te9),(22,te22),(24,te24),(25,te25),(26,te26),(27,te27),(28,te28),(30,te30),(31,te31),(32,te32),(34,te34),(43,te43),(53,te53),(55,te55),(57,te57),(59,te59),(66,te66),(69,te69),(71,te71),(74,te74),(84,te84),(94,te94),(95,te95),(98,te98),(100,te100),(114,te114),(115,te115),(117,te117),(120,te120),(127,te127),(129,te129),(131,te131),(134,te134),(142,te142),(145,te145),(146,te146),(159,te159),(167,te167),(168,te168),(196,te196),(201,te201),(202,te202),(214,te214)]
theorem T:K8 Tryz.prog tab:=(.cons teok3 (.cons teok4 (.cons teok5 (.cons teok9 (.cons Q9g (.cons Q9A (.cons Q8U (.cons Q9r (.cons Q9k (.cons Q8Z (.cons Q8X (.cons Q9y (.cons Q8C (.cons Q8M (.cons Q8O (.cons Q8Y (.cons Q8u (.cons Q9w (.cons Q8S (.cons Q9q (.cons Q8P (.cons Q8r (.cons Q8F (.cons Q8z (.cons Q91 (.cons Q8H (.cons Q8T (.cons Q86 (.cons Q8b (.cons Q7J (.cons Q8i (.cons Q7G (.cons Q7N (.cons Q6v (.cons Q8n (.cons Q7I (.cons Q7K (.cons Q7Z (.cons Q7E (.cons Q7x (.cons Q7z (.cons Q7O (.cons Q7P (.cons Q7Y (.cons Q8d (.cons Q7L K8.nil))))))))))))))))))))))))))))))))))))))))))))))
theorem kt3:KeyT Tryz.prog 3 kI:=KeyT.int Tryz.underlying3
theorem kt9:KeyT Tryz.prog 9 kS:=KeyT.str Tryz.underlying9
theorem kt69:KeyT Tryz.prog 69 Y6:=KeyT.st (kc:=Q2g) T Q94 (fun x y=>by
 obtain⟨x0,x1⟩:=x;obtain⟨y0,y1⟩:=y
 show some ((seq x0 y0&&(seq x1 y1&&true)))=some (decide _)
 congr 1;rw [Bool.eq_iff_iff];simp only [Bool.and_eq_true,beq_iff_eq,Q7a,decide_eq_true_eq,Qb.mk.injEq,and_true]
 constructor <;> intro h <;> simp_all) rfl (fun _=>rfl) (fun _=>rfl)
theorem zt3:Q5S Tryz.prog 3 veI 0:=⟨(.int .i64 0),fun w=>by kernel_rfl,fun _ _=>(.v _)⟩
theorem zt4:Q5S Tryz.prog 4 veB false:=⟨(.bool false),fun w=>by kernel_rfl,fun _ _=>(.v _)⟩
theorem mix:Tryz.prog.follows .mixedOrders=true:=by kernel_rfl
theorem en8:Q2 Tryz.prog 8:=fun args w=>Tryz.call8 args w
theorem en9:Q2 Tryz.prog 9:=fun args w=>Tryz.call9 args w
theorem en10:Q2 Tryz.prog 10:=fun args w=>Tryz.call10 args w
theorem en11:Q2 Tryz.prog 11:=fun args w=>Tryz.call11 args w
theorem en12:Q2 Tryz.prog 12:=fun args w=>Tryz.call12 args w
theorem en13:Q2 Tryz.prog 13:=fun args w=>Tryz.call13 args w
theorem en15:Q2 Tryz.prog 15:=fun args w=>Tryz.call15 args w
theorem en17:Q2 Tryz.prog 17:=fun args w=>Tryz.call17 args w
theorem en19:Q2 Tryz.prog 19:=fun args w=>Tryz.call19 args w
theorem en20:Q2 Tryz.prog 20:=fun args w=>Tryz.call20 args w
theorem en22:Q2 Tryz.prog 22:=fun args w=>Tryz.call22 args w
theorem en24:Q2 Tryz.prog 24:=fun args w=>Tryz.call24 args w
theorem en25:Q2 Tryz.prog 25:=fun args w=>Tryz.call25 args w
theorem en26:Q2 Tryz.prog 26:=fun args w=>Tryz.call26 args w
theorem en27:Q2 Tryz.prog 27:=fun args w=>Tryz.call27 args w
theorem en28:Q2 Tryz.prog 28:=fun args w=>Tryz.call28 args w
theorem en29:Q2 Tryz.prog 29:=fun args w=>Tryz.call29 args w
theorem en30:Q2 Tryz.prog 30:=fun args w=>Tryz.call30 args w
theorem en31:Q2 Tryz.prog 31:=fun args w=>Tryz.call31 args w
theorem en32:Q2 Tryz.prog 32:=fun args w=>Tryz.call32 args w
theorem en33:Q2 Tryz.prog 33:=fun args w=>Tryz.call33 args w
theorem en34:Q2 Tryz.prog 34:=fun args w=>Tryz.call34 args w
theorem en35:Q2 Tryz.prog 35:=fun args w=>Tryz.call35 args w
theorem en36:Q2 Tryz.prog 36:=fun args w=>Tryz.call36 args w
theorem en37:Q2 Tryz.prog 37:=fun args w=>Tryz.call37 args w
theorem en38:Q2 Tryz.prog 38:=fun args w=>Tryz.call38 args w
theorem en39:Q2 Tryz.prog 39:=fun args w=>Tryz.call39 args w
theorem en40:Q2 Tryz.prog 40:=fun args w=>Tryz.call40 args w
theorem en41:Q2 Tryz.prog 41:=fun args w=>Tryz.call41 args w
theorem en42:Q2 Tryz.prog 42:=fun args w=>Tryz.call42 args w
theorem en43:Q2 Tryz.prog 43:=fun args w=>Tryz.call43 args w
theorem en44:Q2 Tryz.prog 44:=fun args w=>Tryz.call44 args w
theorem en45:Q2 Tryz.prog 45:=fun args w=>Tryz.call45 args w
theorem en46:Q2 Tryz.prog 46:=fun args w=>Tryz.call46 args w
theorem en47:Q2 Tryz.prog 47:=fun args w=>Tryz.call47 args w
theorem en48:Q2 Tryz.prog 48:=fun args w=>Tryz.call48 args w
theorem en49:Q2 Tryz.prog 49:=fun args w=>Tryz.call49 args w
theorem en50:Q2 Tryz.prog 50:=fun args w=>Tryz.call50 args w
theorem en51:Q2 Tryz.prog 51:=fun args w=>Tryz.call51 args w
theorem en52:Q2 Tryz.prog 52:=fun args w=>Tryz.call52 args w
theorem en53:Q2 Tryz.prog 53:=fun args w=>Tryz.call53 args w
theorem en54:Q2 Tryz.prog 54:=fun args w=>Tryz.call54 args w
theorem en56:Q2 Tryz.prog 56:=fun args w=>Tryz.call56 args w
theorem en57:Q2 Tryz.prog 57:=fun args w=>Tryz.call57 args w
theorem en58:Q2 Tryz.prog 58:=fun args w=>Tryz.call58 args w
theorem en60:Q2 Tryz.prog 60:=fun args w=>Tryz.call60 args w
theorem en64:Q2 Tryz.prog 64:=fun args w=>Tryz.call64 args w
theorem en65:Q2 Tryz.prog 65:=fun args w=>Tryz.call65 args w
theorem en66:Q2 Tryz.prog 66:=fun args w=>Tryz.call66 args w
theorem en67:Q2 Tryz.prog 67:=fun args w=>Tryz.call67 args w
theorem en68:Q2 Tryz.prog 68:=fun args w=>Tryz.call68 args w
theorem en69:Q2 Tryz.prog 69:=fun args w=>Tryz.call69 args w
theorem en70:Q2 Tryz.prog 70:=fun args w=>Tryz.call70 args w
theorem en71:Q2 Tryz.prog 71:=fun args w=>Tryz.call71 args w
theorem en72:Q2 Tryz.prog 72:=fun args w=>Tryz.call72 args w
theorem en73:Q2 Tryz.prog 73:=fun args w=>Tryz.call73 args w
theorem en74:Q2 Tryz.prog 74:=fun args w=>Tryz.call74 args w
theorem en75:Q2 Tryz.prog 75:=fun args w=>Tryz.call75 args w
theorem en76:Q2 Tryz.prog 76:=fun args w=>Tryz.call76 args w
theorem en77:Q2 Tryz.prog 77:=fun args w=>Tryz.call77 args w
theorem en78:Q2 Tryz.prog 78:=fun args w=>Tryz.call78 args w
theorem en79:Q2 Tryz.prog 79:=fun args w=>Tryz.call79 args w
theorem en80:Q2 Tryz.prog 80:=fun args w=>Tryz.call80 args w
theorem en81:Q2 Tryz.prog 81:=fun args w=>Tryz.call81 args w
theorem en82:Q2 Tryz.prog 82:=fun args w=>Tryz.call82 args w
theorem en83:Q2 Tryz.prog 83:=fun args w=>Tryz.call83 args w
theorem en84:Q2 Tryz.prog 84:=fun args w=>Tryz.call84 args w
theorem en85:Q2 Tryz.prog 85:=fun args w=>Tryz.call85 args w
theorem en86:Q2 Tryz.prog 86:=fun args w=>Tryz.call86 args w
theorem en87:Q2 Tryz.prog 87:=fun args w=>Tryz.call87 args w
theorem en88:Q2 Tryz.prog 88:=fun args w=>Tryz.call88 args w
theorem en89:Q2 Tryz.prog 89:=fun args w=>Tryz.call89 args w
theorem en90:Q2 Tryz.prog 90:=fun args w=>Tryz.call90 args w
theorem en91:Q2 Tryz.prog 91:=fun args w=>Tryz.call91 args w
theorem en92:Q2 Tryz.prog 92:=fun args w=>Tryz.call92 args w
theorem en93:Q2 Tryz.prog 93:=fun args w=>Tryz.call93 args w
theorem en94:Q2 Tryz.prog 94:=fun args w=>Tryz.call94 args w
theorem en95:Q2 Tryz.prog 95:=fun args w=>Tryz.call95 args w
theorem en97:Q2 Tryz.prog 97:=fun args w=>Tryz.call97 args w
theorem en98:Q2 Tryz.prog 98:=fun args w=>Tryz.call98 args w
theorem en99:Q2 Tryz.prog 99:=fun args w=>Tryz.call99 args w
theorem Qag:Q2 Tryz.prog 100:=fun args w=>Tryz.call100 args w
theorem Q4c:Q2 Tryz.prog 103:=fun args w=>Tryz.call103 args w
theorem Qau:Q2 Tryz.prog 104:=fun args w=>Tryz.call104 args w
theorem Q9W:Q2 Tryz.prog 105:=fun args w=>Tryz.call105 args w
theorem Q8t:Q2 Tryz.prog 106:=fun args w=>Tryz.call106 args w
theorem Q8h:Q2 Tryz.prog 107:=fun args w=>Tryz.call107 args w
theorem Qas:Q2 Tryz.prog 108:=fun args w=>Tryz.call108 args w
theorem Qam:Q2 Tryz.prog 109:=fun args w=>Tryz.call109 args w
theorem Q8q:Q2 Tryz.prog 110:=fun args w=>Tryz.call110 args w
theorem Q92:Q2 Tryz.prog 111:=fun args w=>Tryz.call111 args w
theorem Q9Q:Q2 Tryz.prog 112:=fun args w=>Tryz.call112 args w
theorem Qab:Q2 Tryz.prog 113:=fun args w=>Tryz.call113 args w
theorem Q9E:Q2 Tryz.prog 114:=fun args w=>Tryz.call114 args w
theorem Q9n:Q2 Tryz.prog 115:=fun args w=>Tryz.call115 args w
theorem Q9K:Q2 Tryz.prog 116:=fun args w=>Tryz.call116 args w
theorem Q9N:Q2 Tryz.prog 117:=fun args w=>Tryz.call117 args w
theorem Q9l:Q2 Tryz.prog 118:=fun args w=>Tryz.call118 args w
theorem Qaa:Q2 Tryz.prog 119:=fun args w=>Tryz.call119 args w
theorem Q9J:Q2 Tryz.prog 120:=fun args w=>Tryz.call120 args w
theorem Q8D:Q2 Tryz.prog 122:=fun args w=>Tryz.call122 args w
theorem Q9P:Q2 Tryz.prog 123:=fun args w=>Tryz.call123 args w
theorem Q9L:Q2 Tryz.prog 124:=fun args w=>Tryz.call124 args w
theorem Q9t:Q2 Tryz.prog 125:=fun args w=>Tryz.call125 args w
theorem Q6B:Q2 Tryz.prog 126:=fun args w=>Tryz.call126 args w
theorem Q5V:Q2 Tryz.prog 127:=fun args w=>Tryz.call127 args w
theorem Qan:Q2 Tryz.prog 130:=fun args w=>Tryz.call130 args w
theorem Qa5:Q2 Tryz.prog 131:=fun args w=>Tryz.call131 args w
theorem Q9M:Q2 Tryz.prog 132:=fun args w=>Tryz.call132 args w
theorem Qa1:Q2 Tryz.prog 133:=fun args w=>Tryz.call133 args w
theorem Q8I:Q2 Tryz.prog 136:=fun args w=>Tryz.call136 args w
theorem Q96:Q2 Tryz.prog 137:=fun args w=>Tryz.call137 args w
theorem Q87:Q2 Tryz.prog 138:=fun args w=>Tryz.call138 args w
theorem Q9X:Q2 Tryz.prog 139:=fun args w=>Tryz.call139 args w
theorem Qa4:Q2 Tryz.prog 140:=fun args w=>Tryz.call140 args w
theorem Q8w:Q2 Tryz.prog 141:=fun args w=>Tryz.call141 args w
theorem Qay:Q2 Tryz.prog 142:=fun args w=>Tryz.call142 args w
theorem Q9S:Q2 Tryz.prog 143:=fun args w=>Tryz.call143 args w
theorem Q9Y:Q2 Tryz.prog 144:=fun args w=>Tryz.call144 args w
theorem Q9Z:Q2 Tryz.prog 145:=fun args w=>Tryz.call145 args w
theorem QaA:Q2 Tryz.prog 146:=fun args w=>Tryz.call146 args w
theorem Q9I:Q2 Tryz.prog 147:=fun args w=>Tryz.call147 args w
theorem Qar:Q2 Tryz.prog 148:=fun args w=>Tryz.call148 args w
theorem Q9b:Q2 Tryz.prog 149:=fun args w=>Tryz.call149 args w
theorem Qaq:Q2 Tryz.prog 150:=fun args w=>Tryz.call150 args w
theorem Q9e:Q2 Tryz.prog 151:=fun args w=>Tryz.call151 args w
theorem Qao:Q2 Tryz.prog 153:=fun args w=>Tryz.call153 args w
theorem Q9G:Q2 Tryz.prog 154:=fun args w=>Tryz.call154 args w
theorem Qav:Q2 Tryz.prog 161:=fun args w=>Tryz.call161 args w
theorem Q95:Q2 Tryz.prog 166:=fun args w=>Tryz.call166 args w
theorem Qad:Q2 Tryz.prog 167:=fun args w=>Tryz.call167 args w
theorem Q9F:Q2 Tryz.prog 173:=fun args w=>Tryz.call173 args w
theorem Q7S:Q2 Tryz.prog 174:=fun args w=>Tryz.call174 args w
theorem Qac:Q2 Tryz.prog 175:=fun args w=>Tryz.call175 args w
theorem Q9O:Q2 Tryz.prog 176:=fun args w=>Tryz.call176 args w
theorem Qa7:Q2 Tryz.prog 177:=fun args w=>Tryz.call177 args w
theorem Qap:Q2 Tryz.prog 178:=fun args w=>Tryz.call178 args w
theorem Q9V:Q2 Tryz.prog 179:=fun args w=>Tryz.call179 args w
theorem Q9T:Q2 Tryz.prog 180:=fun args w=>Tryz.call180 args w
theorem Q9j:Q2 Tryz.prog 186:=fun args w=>Tryz.call186 args w
theorem Q9U:Q2 Tryz.prog 188:=fun args w=>Tryz.call188 args w
theorem Qaf:Q2 Tryz.prog 189:=fun args w=>Tryz.call189 args w
theorem Q8G:Q2 Tryz.prog 190:=fun args w=>Tryz.call190 args w
theorem op3:QI Tryz.prog 3 eI I64:=QI.i64 Tryz.underlying3
theorem op22:QI Tryz.prog 22 eLeI (OkL I64):=QI.slice Tryz.underlying22 (n:=1) (by kernel_rfl) (by decide) op3
theorem op24:QI Tryz.prog 24 Qc Q29:=fun enc w held fuel cells d ps ht=>by
 obtain⟨fuel',hl,hf⟩:=QI.st (N:=5) Tryz.underlying24 (by kernel_rfl) ht
 obtain⟨x0,k0,l0,c0⟩:=QI.fld op3 (n:=1) (off:=0) (by kernel_rfl) (by omega) (hf _ (List.mem_of_getElem? (i:=0) rfl))
 obtain⟨x1,k1,l1,c1⟩:=QI.fld op3 (n:=1) (off:=1) (by kernel_rfl) (by omega) (hf _ (List.mem_of_getElem? (i:=1) rfl))
 obtain⟨x2,k2,l2,c2⟩:=QI.fld op3 (n:=1) (off:=2) (by kernel_rfl) (by omega) (hf _ (List.mem_of_getElem? (i:=2) rfl))
 obtain⟨x3,k3,l3,c3⟩:=QI.fld op22 (n:=1) (off:=3) (by kernel_rfl) (by omega) (hf _ (List.mem_of_getElem? (i:=3) rfl))
 obtain⟨x4,k4,l4,c4⟩:=QI.fld op22 (n:=1) (off:=4) (by kernel_rfl) (by omega) (hf _ (List.mem_of_getElem? (i:=4) rfl))
 have hc:Cov w cells 0 (Qc ⟨x0,x1,x2,x3,x4⟩):=(c0.app (c1.app (c2.app (c3.app (c4.app Cov.nil)))))
 exact⟨⟨x0,x1,x2,x3,x4⟩,⟨k0,k1,k2,k3,k4⟩,by rw [hl];rfl,fun j A v hA hv=>hc j A v hA (by simpa using hv)⟩
theorem op9:QI Tryz.prog 9 eS OkS:=QI.str Tryz.underlying9
theorem Qaz:QI Tryz.prog 120 GS Q13:=fun enc w held fuel cells d ps ht=>by
 obtain⟨fuel',hl,hf⟩:=QI.st (N:=2) Tryz.underlying120 (by kernel_rfl) ht
 obtain⟨x0,k0,l0,c0⟩:=QI.fld op3 (n:=1) (off:=0) (by kernel_rfl) (by omega) (hf _ (List.mem_of_getElem? (i:=0) rfl))
 obtain⟨x1,k1,l1,c1⟩:=QI.fld op3 (n:=1) (off:=1) (by kernel_rfl) (by omega) (hf _ (List.mem_of_getElem? (i:=1) rfl))
 have hc:Cov w cells 0 (GS ⟨x0,x1⟩):=(c0.app (c1.app Cov.nil))
 exact⟨⟨x0,x1⟩,⟨k0,k1⟩,by rw [hl];rfl,fun j A v hA hv=>hc j A v hA (by simpa using hv)⟩
theorem op57:QI Tryz.prog 57 Q5i (OkL Q13):=QI.slice Tryz.underlying57 (n:=2) (by kernel_rfl) (by decide) Qaz
theorem op59:QI Tryz.prog 59 Q8 Q1a:=fun enc w held fuel cells d ps ht=>by
 obtain⟨fuel',hl,hf⟩:=QI.st (N:=5) Tryz.underlying59 (by kernel_rfl) ht
 obtain⟨x0,k0,l0,c0⟩:=QI.fld op9 (n:=1) (off:=0) (by kernel_rfl) (by omega) (hf _ (List.mem_of_getElem? (i:=0) rfl))
 obtain⟨x1,k1,l1,c1⟩:=QI.fld op22 (n:=1) (off:=1) (by kernel_rfl) (by omega) (hf _ (List.mem_of_getElem? (i:=1) rfl))
 obtain⟨x2,k2,l2,c2⟩:=QI.fld op3 (n:=1) (off:=2) (by kernel_rfl) (by omega) (hf _ (List.mem_of_getElem? (i:=2) rfl))
 obtain⟨x3,k3,l3,c3⟩:=QI.fld op3 (n:=1) (off:=3) (by kernel_rfl) (by omega) (hf _ (List.mem_of_getElem? (i:=3) rfl))
 obtain⟨x4,k4,l4,c4⟩:=QI.fld op57 (n:=1) (off:=4) (by kernel_rfl) (by omega) (hf _ (List.mem_of_getElem? (i:=4) rfl))
 have hc:Cov w cells 0 (Q8 ⟨x0,x1,x2,x3,x4⟩):=(c0.app (c1.app (c2.app (c3.app (c4.app Cov.nil)))))
 exact⟨⟨x0,x1,x2,x3,x4⟩,⟨k0,k1,k2,k3,k4⟩,by rw [hl];rfl,fun j A v hA hv=>hc j A v hA (by simpa using hv)⟩
theorem op25:QI Tryz.prog 25 Q52 (OkL Q1a):=QI.slice Tryz.underlying25 (n:=5) (by kernel_rfl) (by decide) op59
theorem op69:QI Tryz.prog 69 Q3 Q0x:=fun enc w held fuel cells d ps ht=>by
 obtain⟨fuel',hl,hf⟩:=QI.st (N:=2) Tryz.underlying69 (by kernel_rfl) ht
 obtain⟨x0,k0,l0,c0⟩:=QI.fld op9 (n:=1) (off:=0) (by kernel_rfl) (by omega) (hf _ (List.mem_of_getElem? (i:=0) rfl))
 obtain⟨x1,k1,l1,c1⟩:=QI.fld op9 (n:=1) (off:=1) (by kernel_rfl) (by omega) (hf _ (List.mem_of_getElem? (i:=1) rfl))
 have hc:Cov w cells 0 (Q3 ⟨x0,x1⟩):=(c0.app (c1.app Cov.nil))
 exact⟨⟨x0,x1⟩,⟨k0,k1⟩,by rw [hl];rfl,fun j A v hA hv=>hc j A v hA (by simpa using hv)⟩
theorem op26:QI Tryz.prog 26 Q49 (OkL Q0x):=QI.slice Tryz.underlying26 (n:=2) (by kernel_rfl) (by decide) op69
theorem op71:QI Tryz.prog 71 Q4 Q0m:=fun enc w held fuel cells d ps ht=>by
 obtain⟨fuel',hl,hf⟩:=QI.st (N:=2) Tryz.underlying71 (by kernel_rfl) ht
 obtain⟨x0,k0,l0,c0⟩:=QI.fld op3 (n:=1) (off:=0) (by kernel_rfl) (by omega) (hf _ (List.mem_of_getElem? (i:=0) rfl))
 obtain⟨x1,k1,l1,c1⟩:=QI.fld op9 (n:=1) (off:=1) (by kernel_rfl) (by omega) (hf _ (List.mem_of_getElem? (i:=1) rfl))
 have hc:Cov w cells 0 (Q4 ⟨x0,x1⟩):=(c0.app (c1.app Cov.nil))
 exact⟨⟨x0,x1⟩,⟨k0,k1⟩,by rw [hl];rfl,fun j A v hA hv=>hc j A v hA (by simpa using hv)⟩
theorem op27:QI Tryz.prog 27 Q4f (OkL Q0m):=QI.slice Tryz.underlying27 (n:=2) (by kernel_rfl) (by decide) op71
theorem op84:QI Tryz.prog 84 Q5 Q0y:=fun enc w held fuel cells d ps ht=>by
 obtain⟨fuel',hl,hf⟩:=QI.st (N:=2) Tryz.underlying84 (by kernel_rfl) ht
 obtain⟨x0,k0,l0,c0⟩:=QI.fld op3 (n:=1) (off:=0) (by kernel_rfl) (by omega) (hf _ (List.mem_of_getElem? (i:=0) rfl))
 obtain⟨x1,k1,l1,c1⟩:=QI.fld op3 (n:=1) (off:=1) (by kernel_rfl) (by omega) (hf _ (List.mem_of_getElem? (i:=1) rfl))
 have hc:Cov w cells 0 (Q5 ⟨x0,x1⟩):=(c0.app (c1.app Cov.nil))
 exact⟨⟨x0,x1⟩,⟨k0,k1⟩,by rw [hl];rfl,fun j A v hA hv=>hc j A v hA (by simpa using hv)⟩
theorem op28:QI Tryz.prog 28 Q4b (OkL Q0y):=QI.slice Tryz.underlying28 (n:=2) (by kernel_rfl) (by decide) op84
theorem op30:QI Tryz.prog 30 Q6 QX:=fun enc w held fuel cells d ps ht=>by
 obtain⟨fuel',hl,hf⟩:=QI.st (N:=9) Tryz.underlying30 (by kernel_rfl) ht
 obtain⟨x0,k0,l0,c0⟩:=QI.fld op24 (n:=5) (off:=0) (by kernel_rfl) (by omega) (hf _ (List.mem_of_getElem? (i:=0) rfl))
 obtain⟨x1,k1,l1,c1⟩:=QI.fld op25 (n:=1) (off:=5) (by kernel_rfl) (by omega) (hf _ (List.mem_of_getElem? (i:=1) rfl))
 obtain⟨x2,k2,l2,c2⟩:=QI.fld op26 (n:=1) (off:=6) (by kernel_rfl) (by omega) (hf _ (List.mem_of_getElem? (i:=2) rfl))
 obtain⟨x3,k3,l3,c3⟩:=QI.fld op27 (n:=1) (off:=7) (by kernel_rfl) (by omega) (hf _ (List.mem_of_getElem? (i:=3) rfl))
 obtain⟨x4,k4,l4,c4⟩:=QI.fld op28 (n:=1) (off:=8) (by kernel_rfl) (by omega) (hf _ (List.mem_of_getElem? (i:=4) rfl))
 have hc:Cov w cells 0 (Q6 ⟨x0,x1,x2,x3,x4⟩):=(c0.app (c1.app (c2.app (c3.app (c4.app Cov.nil)))))
 exact⟨⟨x0,x1,x2,x3,x4⟩,⟨k0,k1,k2,k3,k4⟩,by rw [hl];rfl,fun j A v hA hv=>hc j A v hA (by simpa using hv)⟩
theorem op4:QI Tryz.prog 4 eB (fun (_:Bool)=>True):=QI.bool Tryz.underlying4
theorem op53:QI Tryz.prog 53 Q0 Q0n:=fun enc w held fuel cells d ps ht=>by
 obtain⟨fuel',hl,hf⟩:=QI.st (N:=6) Tryz.underlying53 (by kernel_rfl) ht
 obtain⟨x0,k0,l0,c0⟩:=QI.fld op3 (n:=1) (off:=0) (by kernel_rfl) (by omega) (hf _ (List.mem_of_getElem? (i:=0) rfl))
 obtain⟨x1,k1,l1,c1⟩:=QI.fld op3 (n:=1) (off:=1) (by kernel_rfl) (by omega) (hf _ (List.mem_of_getElem? (i:=1) rfl))
 obtain⟨x2,k2,l2,c2⟩:=QI.fld op3 (n:=1) (off:=2) (by kernel_rfl) (by omega) (hf _ (List.mem_of_getElem? (i:=2) rfl))
 obtain⟨x3,k3,l3,c3⟩:=QI.fld op3 (n:=1) (off:=3) (by kernel_rfl) (by omega) (hf _ (List.mem_of_getElem? (i:=3) rfl))
 obtain⟨x4,k4,l4,c4⟩:=QI.fld op3 (n:=1) (off:=4) (by kernel_rfl) (by omega) (hf _ (List.mem_of_getElem? (i:=4) rfl))
 obtain⟨x5,k5,l5,c5⟩:=QI.fld op4 (n:=1) (off:=5) (by kernel_rfl) (by omega) (hf _ (List.mem_of_getElem? (i:=5) rfl))
 have hc:Cov w cells 0 (Q0 ⟨x0,x1,x2,x3,x4,x5⟩):=(c0.app (c1.app (c2.app (c3.app (c4.app (c5.app Cov.nil))))))
 exact⟨⟨x0,x1,x2,x3,x4,x5⟩,⟨k0,k1,k2,k3,k4,k5⟩,by rw [hl];rfl,fun j A v hA hv=>hc j A v hA (by simpa using hv)⟩
theorem op31:QI Tryz.prog 31 Q3U (OkL Q0n):=QI.slice Tryz.underlying31 (n:=6) (by kernel_rfl) (by decide) op53
theorem Qa6:QI Tryz.prog 129 Q7 Q0C:=fun enc w held fuel cells d ps ht=>by
 obtain⟨fuel',hl,hf⟩:=QI.st (N:=2) Tryz.underlying129 (by kernel_rfl) ht
 obtain⟨x0,k0,l0,c0⟩:=QI.fld op3 (n:=1) (off:=0) (by kernel_rfl) (by omega) (hf _ (List.mem_of_getElem? (i:=0) rfl))
 obtain⟨x1,k1,l1,c1⟩:=QI.fld op3 (n:=1) (off:=1) (by kernel_rfl) (by omega) (hf _ (List.mem_of_getElem? (i:=1) rfl))
 have hc:Cov w cells 0 (Q7 ⟨x0,x1⟩):=(c0.app (c1.app Cov.nil))
 exact⟨⟨x0,x1⟩,⟨k0,k1⟩,by rw [hl];rfl,fun j A v hA hv=>hc j A v hA (by simpa using hv)⟩
theorem op32:QI Tryz.prog 32 Q45 (OkL Q0C):=QI.slice Tryz.underlying32 (n:=2) (by kernel_rfl) (by decide) Qa6
theorem op34:QI Tryz.prog 34 Q1 QM:=fun enc w held fuel cells d ps ht=>by
 obtain⟨fuel',hl,hf⟩:=QI.st (N:=6) Tryz.underlying34 (by kernel_rfl) ht
 obtain⟨x0,k0,l0,c0⟩:=QI.fld op3 (n:=1) (off:=0) (by kernel_rfl) (by omega) (hf _ (List.mem_of_getElem? (i:=0) rfl))
 obtain⟨x1,k1,l1,c1⟩:=QI.fld op22 (n:=1) (off:=1) (by kernel_rfl) (by omega) (hf _ (List.mem_of_getElem? (i:=1) rfl))
 obtain⟨x2,k2,l2,c2⟩:=QI.fld op31 (n:=1) (off:=2) (by kernel_rfl) (by omega) (hf _ (List.mem_of_getElem? (i:=2) rfl))
 obtain⟨x3,k3,l3,c3⟩:=QI.fld op22 (n:=1) (off:=3) (by kernel_rfl) (by omega) (hf _ (List.mem_of_getElem? (i:=3) rfl))
 obtain⟨x4,k4,l4,c4⟩:=QI.fld op22 (n:=1) (off:=4) (by kernel_rfl) (by omega) (hf _ (List.mem_of_getElem? (i:=4) rfl))
 obtain⟨x5,k5,l5,c5⟩:=QI.fld op32 (n:=1) (off:=5) (by kernel_rfl) (by omega) (hf _ (List.mem_of_getElem? (i:=5) rfl))
 have hc:Cov w cells 0 (Q1 ⟨x0,x1,x2,x3,x4,x5⟩):=(c0.app (c1.app (c2.app (c3.app (c4.app (c5.app Cov.nil))))))
 exact⟨⟨x0,x1,x2,x3,x4,x5⟩,⟨k0,k1,k2,k3,k4,k5⟩,by rw [hl];rfl,fun j A v hA hv=>hc j A v hA (by simpa using hv)⟩
theorem Q9C (xs:List Int) (l:Nat) (J:Nat→World→Prop) (Jx:World→Prop) (S:Nat→Prop) (w W:World) (b off cap:Nat) (p0:Option Addr) (hlen:xs.length≤1099511627776) (hS:S b)
  (hY:∀m x W1,xs[m]?=some x→J m W1→YieldAt Fence.wide 1 Tryz.prog l #[.int .i64 x] W1 fun e W'=>(e=.returned (.bool true)∧J (m+1) W'∧KS S W1 W')∨(e=.returned (.bool false)∧Jx W'))
  (hc:W.cell? ⟨b,off,none⟩=some (.slice p0 xs.length cap)) (hL:Q3B S W p0 xs) (h0:J 0 W):
  CallsIn Fence.wide 2 Tryz.prog 124 #[.func (.yield l) #[] #[],.pointer (some ⟨b,off,none⟩)] W fun e W'=>(∃v,e=.returned v)∧(J xs.length W'∨Jx W'):=by
 refine callsIn_of_wp Tryz.func124 rfl trivial ?_ rfl
 simp only [Tryz.ntmps124,List.size_toArray,List.length_cons,List.length_nil,Nat.reduceAdd,Nat.reduceSub,Array.replicate_succ,Array.replicate_zero,List.push_toArray,List.append_toArray,List.nil_append,List.cons_append]
 gi_wp2
 gi_loopw [7] (fun p wr=>∃(m:Nat),m≤xs.length∧p=.int .i64 (m:Int)∧Q3B S wr p0 xs∧J m wr)
  (fun p wr=>match p with | .int _ i=>xs.length-i.toNat | _=>0)
 case atStart=>exact⟨0,Nat.zero_le _,rfl,hL,h0⟩
 case round=>
  obtain⟨m,hm,rfl,hl,hJs⟩:=hrel
  by_cases hlt:m<xs.length
  ·have hx:xs[m]?=some (xs.getD m 0):=by rw [List.getD_eq_getElem?_getD,List.getElem?_eq_getElem hlt];rfl
   obtain⟨b',off',rfl,hb,hv⟩:=hl m _ hx
   obtain⟨fn,tmps,assign,body,hy,hR⟩:=hY m (xs.getD m 0) wr hx hJs
   generalize xs.getD m 0=x0 at *
   gi_wp2
   refine hR.mono ?_
   rintro e W3 (⟨rfl,hJ3,hk3⟩ | ⟨rfl,hJx3⟩)
   ·gi_wp2
    go_roundw
    case rel=>exact⟨m+1,by omega,rfl,hl.keep hk3,hJ3⟩
    case measure=>simp;omega
   ·gi_wp2
    refine bodyPost_ret (results_none rfl _ _ _) rfl ?_
    exact⟨⟨_,rfl⟩,.inr hJx3⟩
  ·obtain rfl:m=xs.length:=by omega
   gi_wp2
   go_end0
   exact⟨⟨_,rfl⟩,.inl hJs⟩
theorem Qa2 (xs:List Int) (hlen:xs.length≤1099511627776):Iter Tryz.prog 124 [.rp [.sl 1 eI xs]] (fun x:Int=>[.int .i64 x]) xs:=fun w ok β lb hlb l J Jx W hW hY h0=>by
 obtain⟨b,off,p,cap,rfl,hb,hc,hr⟩:=Q7i hlb
 exact Q9C xs l J Jx ok w W b off cap p hlen hb hY ((hW.cell hb).trans hc) (hr.keep hW) h0
theorem Q8y (xs:List Int) (l:Nat) (J:Nat→World→Prop) (Jx:World→Prop) (S:Nat→Prop) (w W:World) (b off cap:Nat) (p0:Option Addr) (hlen:xs.length≤1099511627776) (hS:S b)
  (hY:∀m x W1,(bkw xs)[m]?=some x→J m W1→YieldAt Fence.wide 1 Tryz.prog l #[.int .i64 x.1,.int .i64 x.2] W1 fun e W'=>(e=.returned (.bool true)∧J (m+1) W'∧KS S W1 W')∨(e=.returned (.bool false)∧Jx W'))
  (hc:W.cell? ⟨b,off,none⟩=some (.slice p0 xs.length cap)) (hL:Q3B S W p0 xs) (h0:J 0 W):
  CallsIn Fence.wide 2 Tryz.prog 189 #[.func (.yield l) #[] #[],.pointer (some ⟨b,off,none⟩)] W fun e W'=>(∃v,e=.returned v)∧(J (bkw xs).length W'∨Jx W'):=by
 refine callsIn_of_wp Tryz.func189 rfl trivial ?_ rfl
 simp only [Tryz.ntmps189,List.size_toArray,List.length_cons,List.length_nil,Nat.reduceAdd,Nat.reduceSub,Array.replicate_succ,Array.replicate_zero,List.push_toArray,List.append_toArray,List.nil_append,List.cons_append]
 gi_wp2
 gi_loopw [3] (fun p wr=>∃(m:Nat),m≤xs.length∧p=.int .i64 ((m:Int)-1)∧Q3B S wr p0 xs∧wr.cell? ⟨b,off,none⟩=some (.slice p0 xs.length cap)∧J (xs.length-m) wr)
  (fun p wr=>match p with | .int _ i=>(i+1).toNat | _=>0)
 case atStart=>exact⟨xs.length,Nat.le_refl _,rfl,hL,hc,by simpa using h0⟩
 case round=>
  obtain⟨m,hm,rfl,hl,hc,hJs⟩:=hrel
  cases m with
  | zero=>
   gi_wp2
   go_end0
   exact⟨⟨_,rfl⟩,.inl (by rw [Q3Y];exact hJs)⟩
  | succ m=>
   have hx:xs[m]?=some (xs.getD m 0):=by rw [List.getD_eq_getElem?_getD,List.getElem?_eq_getElem (by omega)];rfl
   obtain⟨b',off',rfl,hb,hv⟩:=hl m _ hx
   obtain⟨fn,tmps,assign,body,hy,hR⟩:=hY (xs.length-(m+1)) ((m:Int),xs.getD m 0) wr (Q5B (by omega)) hJs
   have e1:((m+1:Nat):Int)-1=(m:Int):=by omega
   rw [e1]
   generalize xs.getD m 0=x0 at *
   gi_wp2
   refine hR.mono ?_
   rintro e W3 (⟨rfl,hJ3,hk3⟩ | ⟨rfl,hJx3⟩)
   ·gi_wp2
    go_roundw
    case rel=>exact⟨m,by omega,rfl,hl.keep hk3,(hk3.cell hS).trans hc,by rw [show xs.length-m=xs.length-(m+1)+1 by omega];exact hJ3⟩
    case measure=>simp
   ·gi_wp2
    refine bodyPost_ret (results_none rfl _ _ _) rfl ?_
    exact⟨⟨_,rfl⟩,.inr hJx3⟩
theorem Qai (xs:List Int) (hlen:xs.length≤1099511627776):Iter Tryz.prog 189 [.rp [.sl 1 eI xs]] (fun x:Int×Int=>[.int .i64 x.1,.int .i64 x.2]) (bkw xs):=fun w ok β lb hlb l J Jx W hW hY h0=>by
 obtain⟨b,off,p,cap,rfl,hb,hc,hr⟩:=Q7i hlb
 exact Q8y xs l J Jx ok w W b off cap p hlen hb hY ((hW.cell hb).trans hc) (hr.keep hW) h0
end Go.Proofs.YtbkpekodmhkbdaaGreat
