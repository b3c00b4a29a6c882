/- The encodings of the data, and the types' table (written by a program of the prover). -/
import Derived.Test.YtlaehjhkcanffaaLibZQ
import Derived.Test.YtlaehjhkcanffaaLibZX
import Derived.Test.YtlaehjhkcanffaaVc
import Derived.Test.YtlaehjhkcanffaaChecked
import Derived.Test.YtlaehjhkcanffaaLibZC
import Derived.Test.YtlaehjhkcanffaaLibZR
import Derived.Test.YtlaehjhkcanffaaLibZS
import Derived.Test.YtlaehjhkcanffaaLibZT
import Derived.RangeFuncLeaves
import Derived.WalkKit
import Derived.OwnWalkIn
import Derived.TacticsInMore
import Derived.LoopNIn
import Derived.LoopIn
import Derived.KernelRfl
set_option maxRecDepth 100000
set_option maxHeartbeats 8000000
set_option linter.unusedVariables false
set_option linter.unusedSimpArgs false
namespace Go.Proofs.Ytlaehjhkcanffaa
open Go Go.Taq
@[reducible] def eI (x:Int):List AVal:=[.i x]
@[reducible] def XR (x:XI):List AVal:=[.i x.From,.i x.To]
@[reducible] def QX (x:ApiZone):List AVal:=[.v (.string x.Name),.sl 1 eI x.Cells,.i x.Speed,.i x.Keep,.sl 2 XR x.Shut]
@[reducible] def X8 (x:ApiApart):List AVal:=[.v (.string x.A),.v (.string x.B)]
@[reducible] def XH (x:ApiShelf):List AVal:=[.i x.Cell,.v (.string x.Class)]
@[reducible] def XA (x:ApiStart):List AVal:=[.i x.Cell,.i x.Charge]
@[reducible] def eLeI (x:List Int):List AVal:=[.sl 1 eI x]
def kI (x:Int):Value:=.int .i64 x
def veI (x:Int):AVal:=.i x
@[reducible] def eB (x:Bool):List AVal:=[.b x]
def veB (x:Bool):AVal:=.b x
@[reducible] def eOeI (x:List Int):List AVal:=[.os 1 eI x]
@[reducible] def Q1 (x:ApiSite):List AVal:=[.i x.Floor.W,.i x.Floor.H,.i x.Floor.D,.sl 1 eI x.Floor.Kind,.sl 1 eI x.Floor.Out,.sl 5 QX x.Zones,.sl 2 X8 x.Aparts,.sl 2 XH x.Shelves,.sl 2 XA x.Robots]
@[reducible] def Qm (x:ApiFloor):List AVal:=[.i x.W,.i x.H,.i x.D,.sl 1 eI x.Kind,.sl 1 eI x.Out]
@[reducible] def Q0A (x:Qw):List AVal:=[.i x.x,.i x.y,.i x.z]
@[reducible] def Xf (x:ReachStep):List AVal:=[.i x.to_,.i x.price]
@[reducible] def Qy (x:List ReachStep):List AVal:=[.os 2 Xf x]
@[reducible] def Qq (x:List ReachStep):List AVal:=[.sl 2 Xf x]
@[reducible] def eS (x:ByteArray):List AVal:=[.v (.string x)]
@[reducible] def Q0s (x:List XI):List AVal:=[.sl 2 XR x]
@[reducible] def Q0q (x:List ApiZone):List AVal:=[.sl 5 QX x]
@[reducible] def ZU (x:List ApiApart):List AVal:=[.sl 2 X8 x]
@[reducible] def Q02 (x:List ApiShelf):List AVal:=[.sl 2 XH x]
@[reducible] def Q01 (x:List ApiStart):List AVal:=[.sl 2 XA x]
def te3:TE:=⟨.int .i64,1,8,[.int .i64 0]⟩
theorem teok3:TEok Try.prog 3 te3:=⟨⟨_,Try.underlying3,rfl⟩,Try.t3,_,(by kernel_rfl:Try.prog.info? 3=some Try.t3),rfl,rfl,rfl,rfl,(fun h=>by cases h),rfl,by decide⟩
def te4:TE:=⟨.bool,1,1,[.bool false]⟩
theorem teok4:TEok Try.prog 4 te4:=⟨⟨_,Try.underlying4,rfl⟩,Try.t4,_,(by kernel_rfl:Try.prog.info? 4=some Try.t4),rfl,rfl,rfl,rfl,(fun h=>by cases h),rfl,by decide⟩
def te5:TE:=⟨.int .u8,1,1,[.int .u8 0]⟩
theorem teok5:TEok Try.prog 5 te5:=⟨⟨_,Try.underlying5,rfl⟩,Try.t5,_,(by kernel_rfl:Try.prog.info? 5=some Try.t5),rfl,rfl,rfl,rfl,(fun h=>by cases h),rfl,by decide⟩
def te9:TE:=⟨.str,1,16,[.string ByteArray.empty]⟩
theorem teok9:TEok Try.prog 9 te9:=⟨⟨_,Try.underlying9,rfl⟩,Try.t9,_,(by kernel_rfl:Try.prog.info? 9=some Try.t9),rfl,rfl,rfl,rfl,(fun h=>by cases h),rfl,by decide⟩
def te22:TE:=⟨.sl 23,1,24,[.slice none 0 0]⟩
theorem Q2L:TEok Try.prog 22 te22:=⟨⟨_,Try.underlying22,rfl⟩,Try.t22,_,(by kernel_rfl:Try.prog.info? 22=some Try.t22),rfl,rfl,rfl,rfl,(fun h=>by cases h),rfl,by decide⟩
def te23:TE:=⟨.sl 3,1,24,[.slice none 0 0]⟩
theorem Q2B:TEok Try.prog 23 te23:=⟨⟨_,Try.underlying23,rfl⟩,Try.t23,_,(by kernel_rfl:Try.prog.info? 23=some Try.t23),rfl,rfl,rfl,rfl,(fun h=>by cases h),rfl,by decide⟩
def te29:TE:=⟨.sl 4,1,24,[.slice none 0 0]⟩
theorem Q2s:TEok Try.prog 29 te29:=⟨⟨_,Try.underlying29,rfl⟩,Try.t29,_,(by kernel_rfl:Try.prog.info? 29=some Try.t29),rfl,rfl,rfl,rfl,(fun h=>by cases h),rfl,by decide⟩
def te35:TE:=⟨.st [(0,3),(1,3),(2,3),(3,23),(4,23)],5,72,[.int .i64 0,.int .i64 0,.int .i64 0,.slice none 0 0,.slice none 0 0]⟩
theorem Q2E:TEok Try.prog 35 te35:=⟨⟨_,Try.underlying35,⟨_,rfl,rfl⟩⟩,Try.t35,_,(by kernel_rfl:Try.prog.info? 35=some Try.t35),rfl,rfl,rfl,rfl,(fun _=>⟨_,rfl⟩),rfl,by decide⟩
def te36:TE:=⟨.sl 62,1,24,[.slice none 0 0]⟩
theorem Q2N:TEok Try.prog 36 te36:=⟨⟨_,Try.underlying36,rfl⟩,Try.t36,_,(by kernel_rfl:Try.prog.info? 36=some Try.t36),rfl,rfl,rfl,rfl,(fun h=>by cases h),rfl,by decide⟩
def te37:TE:=⟨.sl 64,1,24,[.slice none 0 0]⟩
theorem Q2e:TEok Try.prog 37 te37:=⟨⟨_,Try.underlying37,rfl⟩,Try.t37,_,(by kernel_rfl:Try.prog.info? 37=some Try.t37),rfl,rfl,rfl,rfl,(fun h=>by cases h),rfl,by decide⟩
def te38:TE:=⟨.sl 66,1,24,[.slice none 0 0]⟩
theorem Q28:TEok Try.prog 38 te38:=⟨⟨_,Try.underlying38,rfl⟩,Try.t38,_,(by kernel_rfl:Try.prog.info? 38=some Try.t38),rfl,rfl,rfl,rfl,(fun h=>by cases h),rfl,by decide⟩
def te39:TE:=⟨.sl 73,1,24,[.slice none 0 0]⟩
theorem Q2o:TEok Try.prog 39 te39:=⟨⟨_,Try.underlying39,rfl⟩,Try.t39,_,(by kernel_rfl:Try.prog.info? 39=some Try.t39),rfl,rfl,rfl,rfl,(fun h=>by cases h),rfl,by decide⟩
def te41:TE:=⟨.st [(0,35),(5,36),(6,37),(7,38),(8,39)],9,168,[.int .i64 0,.int .i64 0,.int .i64 0,.slice none 0 0,.slice none 0 0,.slice none 0 0,.slice none 0 0,.slice none 0 0,.slice none 0 0]⟩
theorem Q2j:TEok Try.prog 41 te41:=⟨⟨_,Try.underlying41,⟨_,rfl,rfl⟩⟩,Try.t41,_,(by kernel_rfl:Try.prog.info? 41=some Try.t41),rfl,rfl,rfl,rfl,(fun _=>⟨_,rfl⟩),rfl,by decide⟩
def te56:TE:=⟨.fn,1,8,[.nilFunc]⟩
theorem Q2n:TEok Try.prog 56 te56:=⟨⟨_,Try.underlying56,⟨_,_,_,rfl⟩⟩,Try.t56,_,(by kernel_rfl:Try.prog.info? 56=some Try.t56),rfl,rfl,rfl,rfl,(fun h=>by cases h),rfl,by decide⟩
def te59:TE:=⟨.fn,1,8,[.nilFunc]⟩
theorem Q2w:TEok Try.prog 59 te59:=⟨⟨_,Try.underlying59,⟨_,_,_,rfl⟩⟩,Try.t59,_,(by kernel_rfl:Try.prog.info? 59=some Try.t59),rfl,rfl,rfl,rfl,(fun h=>by cases h),rfl,by decide⟩
def te60:TE:=⟨.sl 120,1,24,[.slice none 0 0]⟩
theorem Q2h:TEok Try.prog 60 te60:=⟨⟨_,Try.underlying60,rfl⟩,Try.t60,_,(by kernel_rfl:Try.prog.info? 60=some Try.t60),rfl,rfl,rfl,rfl,(fun h=>by cases h),rfl,by decide⟩
def te62:TE:=⟨.st [(0,9),(1,23),(2,3),(3,3),(4,60)],5,80,[.string ByteArray.empty,.slice none 0 0,.int .i64 0,.int .i64 0,.slice none 0 0]⟩
theorem Q2z:TEok Try.prog 62 te62:=⟨⟨_,Try.underlying62,⟨_,rfl,rfl⟩⟩,Try.t62,_,(by kernel_rfl:Try.prog.info? 62=some Try.t62),rfl,rfl,rfl,rfl,(fun _=>⟨_,rfl⟩),rfl,by decide⟩
def te64:TE:=⟨.st [(0,9),(1,9)],2,32,[.string ByteArray.empty,.string ByteArray.empty]⟩
theorem Q2F:TEok Try.prog 64 te64:=⟨⟨_,Try.underlying64,⟨_,rfl,rfl⟩⟩,Try.t64,_,(by kernel_rfl:Try.prog.info? 64=some Try.t64),rfl,rfl,rfl,rfl,(fun _=>⟨_,rfl⟩),rfl,by decide⟩
def te66:TE:=⟨.st [(0,3),(1,9)],2,24,[.int .i64 0,.string ByteArray.empty]⟩
theorem Q2v:TEok Try.prog 66 te66:=⟨⟨_,Try.underlying66,⟨_,rfl,rfl⟩⟩,Try.t66,_,(by kernel_rfl:Try.prog.info? 66=some Try.t66),rfl,rfl,rfl,rfl,(fun _=>⟨_,rfl⟩),rfl,by decide⟩
def te73:TE:=⟨.st [(0,3),(1,3)],2,16,[.int .i64 0,.int .i64 0]⟩
theorem Q2l:TEok Try.prog 73 te73:=⟨⟨_,Try.underlying73,⟨_,rfl,rfl⟩⟩,Try.t73,_,(by kernel_rfl:Try.prog.info? 73=some Try.t73),rfl,rfl,rfl,rfl,(fun _=>⟨_,rfl⟩),rfl,by decide⟩
def te78:TE:=⟨.pt 102,1,8,[.pointer none]⟩
theorem Q2i:TEok Try.prog 78 te78:=⟨⟨_,Try.underlying78,rfl⟩,Try.t78,_,(by kernel_rfl:Try.prog.info? 78=some Try.t78),rfl,rfl,rfl,rfl,(fun h=>by cases h),rfl,by decide⟩
def te85:TE:=⟨.pt 88,1,8,[.pointer none]⟩
theorem Q2H:TEok Try.prog 85 te85:=⟨⟨_,Try.underlying85,rfl⟩,Try.t85,_,(by kernel_rfl:Try.prog.info? 85=some Try.t85),rfl,rfl,rfl,rfl,(fun h=>by cases h),rfl,by decide⟩
def te86:TE:=⟨.mp 3 3,1,8,[.map none]⟩
theorem Q2a:TEok Try.prog 86 te86:=⟨⟨_,Try.underlying86,rfl⟩,Try.t86,_,(by kernel_rfl:Try.prog.info? 86=some Try.t86),rfl,rfl,rfl,rfl,(fun h=>by cases h),rfl,by decide⟩
def te88:TE:=⟨.st [(0,22),(1,86)],2,32,[.slice none 0 0,.map none]⟩
theorem Q2K:TEok Try.prog 88 te88:=⟨⟨_,Try.underlying88,⟨_,rfl,rfl⟩⟩,Try.t88,_,(by kernel_rfl:Try.prog.info? 88=some Try.t88),rfl,rfl,rfl,rfl,(fun _=>⟨_,rfl⟩),rfl,by decide⟩
def te97:TE:=⟨.int .u64,1,8,[.int .u64 0]⟩
theorem Q2c:TEok Try.prog 97 te97:=⟨⟨_,Try.underlying97,rfl⟩,Try.t97,_,(by kernel_rfl:Try.prog.info? 97=some Try.t97),rfl,rfl,rfl,rfl,(fun h=>by cases h),rfl,by decide⟩
def te100:TE:=⟨.sl 103,1,24,[.slice none 0 0]⟩
theorem Q1Z:TEok Try.prog 100 te100:=⟨⟨_,Try.underlying100,rfl⟩,Try.t100,_,(by kernel_rfl:Try.prog.info? 100=some Try.t100),rfl,rfl,rfl,rfl,(fun h=>by cases h),rfl,by decide⟩
def te102:TE:=⟨.st [(0,100),(1,22),(2,29)],3,72,[.slice none 0 0,.slice none 0 0,.slice none 0 0]⟩
theorem Q1M:TEok Try.prog 102 te102:=⟨⟨_,Try.underlying102,⟨_,rfl,rfl⟩⟩,Try.t102,_,(by kernel_rfl:Try.prog.info? 102=some Try.t102),rfl,rfl,rfl,rfl,(fun _=>⟨_,rfl⟩),rfl,by decide⟩
def te103:TE:=⟨.sl 105,1,24,[.slice none 0 0]⟩
theorem Q1E:TEok Try.prog 103 te103:=⟨⟨_,Try.underlying103,rfl⟩,Try.t103,_,(by kernel_rfl:Try.prog.info? 103=some Try.t103),rfl,rfl,rfl,rfl,(fun h=>by cases h),rfl,by decide⟩
def te105:TE:=⟨.st [(0,3),(1,3)],2,16,[.int .i64 0,.int .i64 0]⟩
theorem Q21:TEok Try.prog 105 te105:=⟨⟨_,Try.underlying105,⟨_,rfl,rfl⟩⟩,Try.t105,_,(by kernel_rfl:Try.prog.info? 105=some Try.t105),rfl,rfl,rfl,rfl,(fun _=>⟨_,rfl⟩),rfl,by decide⟩
def te110:TE:=⟨.st [(0,3),(1,3),(2,3)],3,24,[.int .i64 0,.int .i64 0,.int .i64 0]⟩
theorem Q1V:TEok Try.prog 110 te110:=⟨⟨_,Try.underlying110,⟨_,rfl,rfl⟩⟩,Try.t110,_,(by kernel_rfl:Try.prog.info? 110=some Try.t110),rfl,rfl,rfl,rfl,(fun _=>⟨_,rfl⟩),rfl,by decide⟩
def te111:TE:=⟨.ar 6 110,18,144,List.replicate 18 (.int .i64 0)⟩
theorem Q1R:TEok Try.prog 111 te111:=⟨⟨_,Try.underlying111,rfl⟩,Try.t111,_,(by kernel_rfl:Try.prog.info? 111=some Try.t111),rfl,rfl,rfl,rfl,(fun _=>⟨_,rfl⟩),rfl,by decide⟩
def te115:TE:=⟨.mp 3 4,1,8,[.map none]⟩
theorem Q1I:TEok Try.prog 115 te115:=⟨⟨_,Try.underlying115,rfl⟩,Try.t115,_,(by kernel_rfl:Try.prog.info? 115=some Try.t115),rfl,rfl,rfl,rfl,(fun h=>by cases h),rfl,by decide⟩
def te120:TE:=⟨.st [(0,3),(1,3)],2,16,[.int .i64 0,.int .i64 0]⟩
theorem Q1Q:TEok Try.prog 120 te120:=⟨⟨_,Try.underlying120,⟨_,rfl,rfl⟩⟩,Try.t120,_,(by kernel_rfl:Try.prog.info? 120=some Try.t120),rfl,rfl,rfl,rfl,(fun _=>⟨_,rfl⟩),rfl,by decide⟩
def te124:TE:=⟨.int .u64,1,8,[.int .u64 0]⟩
theorem Q1X:TEok Try.prog 124 te124:=⟨⟨_,Try.underlying124,rfl⟩,Try.t124,_,(by kernel_rfl:Try.prog.info? 124=some Try.t124),rfl,rfl,rfl,rfl,(fun h=>by cases h),rfl,by decide⟩
def te131:TE:=⟨.fn,1,8,[.nilFunc]⟩
theorem Q1P:TEok Try.prog 131 te131:=⟨⟨_,Try.underlying131,⟨_,_,_,rfl⟩⟩,Try.t131,_,(by kernel_rfl:Try.prog.info? 131=some Try.t131),rfl,rfl,rfl,rfl,(fun h=>by cases h),rfl,by decide⟩
def tab:Tab:=[(3,te3),(4,te4),(5,te5),(9,te9),(22,te22),(23,te23),(29,te29),(35,te35),(36,te36),(37,te37),(38,te38),(39,te39),(41,te41),(56,te56),(59,te59),(60,te60),(62,te62),(64,te64),(66,te66),(73,te73),(78,te78),(85,te85),(86,te86),(88,te88),(97,te97),(100,te100),(102,te102),(103,te103),(105,te105),(110,te110),(111,te111),(115,te115),(120,te120),(124,te124),(131,te131)]
theorem T:Qi Try.prog tab:=(.cons teok3 (.cons teok4 (.cons teok5 (.cons teok9 (.cons Q2L (.cons Q2B (.cons Q2s (.cons Q2E (.cons Q2N (.cons Q2e (.cons Q28 (.cons Q2o (.cons Q2j (.cons Q2n (.cons Q2w (.cons Q2h (.cons Q2z (.cons Q2F (.cons Q2v (.cons Q2l (.cons Q2i (.cons Q2H (.cons Q2a (.cons Q2K (.cons Q2c (.cons Q1Z (.cons Q1M (.cons Q1E (.cons Q21 (.cons Q1V (.cons Q1R (.cons Q1I (.cons Q1Q (.cons Q1X (.cons Q1P Qi.nil)))))))))))))))))))))))))))))))))))
theorem kt3:KeyT Try.prog 3 kI:=KeyT.int Try.underlying3
theorem zt3:Q0I Try.prog 3 veI 0:=⟨(.int .i64 0),fun w=>by kernel_rfl,fun _ _=>(.v _)⟩
theorem zt4:Q0I Try.prog 4 veB false:=⟨(.bool false),fun w=>by kernel_rfl,fun _ _=>(.v _)⟩
theorem mix:Try.prog.follows .mixedOrders=true:=by kernel_rfl
theorem en6:Q3 Try.prog 6:=fun args w=>Try.call6 args w
theorem en8:Q3 Try.prog 8:=fun args w=>Try.call8 args w
theorem en10:Q3 Try.prog 10:=fun args w=>Try.call10 args w
theorem en11:Q3 Try.prog 11:=fun args w=>Try.call11 args w
theorem en12:Q3 Try.prog 12:=fun args w=>Try.call12 args w
theorem en13:Q3 Try.prog 13:=fun args w=>Try.call13 args w
theorem en14:Q3 Try.prog 14:=fun args w=>Try.call14 args w
theorem en15:Q3 Try.prog 15:=fun args w=>Try.call15 args w
theorem en16:Q3 Try.prog 16:=fun args w=>Try.call16 args w
theorem en17:Q3 Try.prog 17:=fun args w=>Try.call17 args w
theorem en18:Q3 Try.prog 18:=fun args w=>Try.call18 args w
theorem en19:Q3 Try.prog 19:=fun args w=>Try.call19 args w
theorem en20:Q3 Try.prog 20:=fun args w=>Try.call20 args w
theorem en21:Q3 Try.prog 21:=fun args w=>Try.call21 args w
theorem en22:Q3 Try.prog 22:=fun args w=>Try.call22 args w
theorem en23:Q3 Try.prog 23:=fun args w=>Try.call23 args w
theorem en24:Q3 Try.prog 24:=fun args w=>Try.call24 args w
theorem en25:Q3 Try.prog 25:=fun args w=>Try.call25 args w
theorem en26:Q3 Try.prog 26:=fun args w=>Try.call26 args w
theorem en27:Q3 Try.prog 27:=fun args w=>Try.call27 args w
theorem en28:Q3 Try.prog 28:=fun args w=>Try.call28 args w
theorem en29:Q3 Try.prog 29:=fun args w=>Try.call29 args w
theorem en30:Q3 Try.prog 30:=fun args w=>Try.call30 args w
theorem en31:Q3 Try.prog 31:=fun args w=>Try.call31 args w
theorem en32:Q3 Try.prog 32:=fun args w=>Try.call32 args w
theorem en33:Q3 Try.prog 33:=fun args w=>Try.call33 args w
theorem en34:Q3 Try.prog 34:=fun args w=>Try.call34 args w
theorem en35:Q3 Try.prog 35:=fun args w=>Try.call35 args w
theorem en36:Q3 Try.prog 36:=fun args w=>Try.call36 args w
theorem en37:Q3 Try.prog 37:=fun args w=>Try.call37 args w
theorem en38:Q3 Try.prog 38:=fun args w=>Try.call38 args w
theorem en39:Q3 Try.prog 39:=fun args w=>Try.call39 args w
theorem en40:Q3 Try.prog 40:=fun args w=>Try.call40 args w
theorem en41:Q3 Try.prog 41:=fun args w=>Try.call41 args w
theorem en42:Q3 Try.prog 42:=fun args w=>Try.call42 args w
theorem en43:Q3 Try.prog 43:=fun args w=>Try.call43 args w
theorem en44:Q3 Try.prog 44:=fun args w=>Try.call44 args w
theorem en45:Q3 Try.prog 45:=fun args w=>Try.call45 args w
theorem en46:Q3 Try.prog 46:=fun args w=>Try.call46 args w
theorem en47:Q3 Try.prog 47:=fun args w=>Try.call47 args w
theorem en48:Q3 Try.prog 48:=fun args w=>Try.call48 args w
theorem en49:Q3 Try.prog 49:=fun args w=>Try.call49 args w
theorem en50:Q3 Try.prog 50:=fun args w=>Try.call50 args w
theorem en51:Q3 Try.prog 51:=fun args w=>Try.call51 args w
theorem en52:Q3 Try.prog 52:=fun args w=>Try.call52 args w
theorem en53:Q3 Try.prog 53:=fun args w=>Try.call53 args w
theorem en54:Q3 Try.prog 54:=fun args w=>Try.call54 args w
theorem en55:Q3 Try.prog 55:=fun args w=>Try.call55 args w
theorem en56:Q3 Try.prog 56:=fun args w=>Try.call56 args w
theorem en57:Q3 Try.prog 57:=fun args w=>Try.call57 args w
theorem en58:Q3 Try.prog 58:=fun args w=>Try.call58 args w
theorem en59:Q3 Try.prog 59:=fun args w=>Try.call59 args w
theorem en60:Q3 Try.prog 60:=fun args w=>Try.call60 args w
theorem en61:Q3 Try.prog 61:=fun args w=>Try.call61 args w
theorem en62:Q3 Try.prog 62:=fun args w=>Try.call62 args w
theorem en63:Q3 Try.prog 63:=fun args w=>Try.call63 args w
theorem en64:Q3 Try.prog 64:=fun args w=>Try.call64 args w
theorem en65:Q3 Try.prog 65:=fun args w=>Try.call65 args w
theorem en66:Q3 Try.prog 66:=fun args w=>Try.call66 args w
theorem en67:Q3 Try.prog 67:=fun args w=>Try.call67 args w
theorem en68:Q3 Try.prog 68:=fun args w=>Try.call68 args w
theorem en69:Q3 Try.prog 69:=fun args w=>Try.call69 args w
theorem en70:Q3 Try.prog 70:=fun args w=>Try.call70 args w
theorem en71:Q3 Try.prog 71:=fun args w=>Try.call71 args w
theorem en72:Q3 Try.prog 72:=fun args w=>Try.call72 args w
theorem en73:Q3 Try.prog 73:=fun args w=>Try.call73 args w
theorem en74:Q3 Try.prog 74:=fun args w=>Try.call74 args w
theorem en77:Q3 Try.prog 77:=fun args w=>Try.call77 args w
theorem en78:Q3 Try.prog 78:=fun args w=>Try.call78 args w
theorem en80:Q3 Try.prog 80:=fun args w=>Try.call80 args w
theorem en81:Q3 Try.prog 81:=fun args w=>Try.call81 args w
theorem en82:Q3 Try.prog 82:=fun args w=>Try.call82 args w
theorem en83:Q3 Try.prog 83:=fun args w=>Try.call83 args w
theorem en84:Q3 Try.prog 84:=fun args w=>Try.call84 args w
theorem en85:Q3 Try.prog 85:=fun args w=>Try.call85 args w
theorem en92:Q3 Try.prog 92:=fun args w=>Try.call92 args w
theorem en97:Q3 Try.prog 97:=fun args w=>Try.call97 args w
theorem Q2A:Q3 Try.prog 103:=fun args w=>Try.call103 args w
theorem op3:Ql Try.prog 3 eI I64:=Ql.i64 Try.underlying3
theorem op23:Ql Try.prog 23 eLeI (OkL I64):=Ql.slice Try.underlying23 (n:=1) (by kernel_rfl) (by decide) op3
theorem op35:Ql Try.prog 35 Qm YP:=fun enc w held fuel cells d ps ht=>by
 obtain⟨fuel',hl,hf⟩:=Ql.st (N:=5) Try.underlying35 (by kernel_rfl) ht
 obtain⟨x0,k0,l0,c0⟩:=Ql.fld op3 (n:=1) (off:=0) (by kernel_rfl) (by omega) (hf _ (List.mem_of_getElem? (i:=0) rfl))
 obtain⟨x1,k1,l1,c1⟩:=Ql.fld op3 (n:=1) (off:=1) (by kernel_rfl) (by omega) (hf _ (List.mem_of_getElem? (i:=1) rfl))
 obtain⟨x2,k2,l2,c2⟩:=Ql.fld op3 (n:=1) (off:=2) (by kernel_rfl) (by omega) (hf _ (List.mem_of_getElem? (i:=2) rfl))
 obtain⟨x3,k3,l3,c3⟩:=Ql.fld op23 (n:=1) (off:=3) (by kernel_rfl) (by omega) (hf _ (List.mem_of_getElem? (i:=3) rfl))
 obtain⟨x4,k4,l4,c4⟩:=Ql.fld op23 (n:=1) (off:=4) (by kernel_rfl) (by omega) (hf _ (List.mem_of_getElem? (i:=4) rfl))
 have hc:Cov w cells 0 (Qm ⟨x0,x1,x2,x3,x4⟩):=(c0.app (c1.app (c2.app (c3.app (c4.app Cov.nil)))))
 exact⟨⟨x0,x1,x2,x3,x4⟩,⟨k0,k1,k2,k3,k4⟩,by rw [hl];rfl,fun j A v hA hv=>hc j A v hA (by simpa using hv)⟩
theorem op9:Ql Try.prog 9 eS OkS:=Ql.str Try.underlying9
theorem Q2P:Ql Try.prog 120 XR Yg:=fun enc w held fuel cells d ps ht=>by
 obtain⟨fuel',hl,hf⟩:=Ql.st (N:=2) Try.underlying120 (by kernel_rfl) ht
 obtain⟨x0,k0,l0,c0⟩:=Ql.fld op3 (n:=1) (off:=0) (by kernel_rfl) (by omega) (hf _ (List.mem_of_getElem? (i:=0) rfl))
 obtain⟨x1,k1,l1,c1⟩:=Ql.fld op3 (n:=1) (off:=1) (by kernel_rfl) (by omega) (hf _ (List.mem_of_getElem? (i:=1) rfl))
 have hc:Cov w cells 0 (XR ⟨x0,x1⟩):=(c0.app (c1.app Cov.nil))
 exact⟨⟨x0,x1⟩,⟨k0,k1⟩,by rw [hl];rfl,fun j A v hA hv=>hc j A v hA (by simpa using hv)⟩
theorem op60:Ql Try.prog 60 Q0s (OkL Yg):=Ql.slice Try.underlying60 (n:=2) (by kernel_rfl) (by decide) Q2P
theorem op62:Ql Try.prog 62 QX WX:=fun enc w held fuel cells d ps ht=>by
 obtain⟨fuel',hl,hf⟩:=Ql.st (N:=5) Try.underlying62 (by kernel_rfl) ht
 obtain⟨x0,k0,l0,c0⟩:=Ql.fld op9 (n:=1) (off:=0) (by kernel_rfl) (by omega) (hf _ (List.mem_of_getElem? (i:=0) rfl))
 obtain⟨x1,k1,l1,c1⟩:=Ql.fld op23 (n:=1) (off:=1) (by kernel_rfl) (by omega) (hf _ (List.mem_of_getElem? (i:=1) rfl))
 obtain⟨x2,k2,l2,c2⟩:=Ql.fld op3 (n:=1) (off:=2) (by kernel_rfl) (by omega) (hf _ (List.mem_of_getElem? (i:=2) rfl))
 obtain⟨x3,k3,l3,c3⟩:=Ql.fld op3 (n:=1) (off:=3) (by kernel_rfl) (by omega) (hf _ (List.mem_of_getElem? (i:=3) rfl))
 obtain⟨x4,k4,l4,c4⟩:=Ql.fld op60 (n:=1) (off:=4) (by kernel_rfl) (by omega) (hf _ (List.mem_of_getElem? (i:=4) rfl))
 have hc:Cov w cells 0 (QX ⟨x0,x1,x2,x3,x4⟩):=(c0.app (c1.app (c2.app (c3.app (c4.app Cov.nil)))))
 exact⟨⟨x0,x1,x2,x3,x4⟩,⟨k0,k1,k2,k3,k4⟩,by rw [hl];rfl,fun j A v hA hv=>hc j A v hA (by simpa using hv)⟩
theorem op36:Ql Try.prog 36 Q0q (OkL WX):=Ql.slice Try.underlying36 (n:=5) (by kernel_rfl) (by decide) op62
theorem op64:Ql Try.prog 64 X8 Wx:=fun enc w held fuel cells d ps ht=>by
 obtain⟨fuel',hl,hf⟩:=Ql.st (N:=2) Try.underlying64 (by kernel_rfl) ht
 obtain⟨x0,k0,l0,c0⟩:=Ql.fld op9 (n:=1) (off:=0) (by kernel_rfl) (by omega) (hf _ (List.mem_of_getElem? (i:=0) rfl))
 obtain⟨x1,k1,l1,c1⟩:=Ql.fld op9 (n:=1) (off:=1) (by kernel_rfl) (by omega) (hf _ (List.mem_of_getElem? (i:=1) rfl))
 have hc:Cov w cells 0 (X8 ⟨x0,x1⟩):=(c0.app (c1.app Cov.nil))
 exact⟨⟨x0,x1⟩,⟨k0,k1⟩,by rw [hl];rfl,fun j A v hA hv=>hc j A v hA (by simpa using hv)⟩
theorem op37:Ql Try.prog 37 ZU (OkL Wx):=Ql.slice Try.underlying37 (n:=2) (by kernel_rfl) (by decide) op64
theorem op66:Ql Try.prog 66 XH Wq:=fun enc w held fuel cells d ps ht=>by
 obtain⟨fuel',hl,hf⟩:=Ql.st (N:=2) Try.underlying66 (by kernel_rfl) ht
 obtain⟨x0,k0,l0,c0⟩:=Ql.fld op3 (n:=1) (off:=0) (by kernel_rfl) (by omega) (hf _ (List.mem_of_getElem? (i:=0) rfl))
 obtain⟨x1,k1,l1,c1⟩:=Ql.fld op9 (n:=1) (off:=1) (by kernel_rfl) (by omega) (hf _ (List.mem_of_getElem? (i:=1) rfl))
 have hc:Cov w cells 0 (XH ⟨x0,x1⟩):=(c0.app (c1.app Cov.nil))
 exact⟨⟨x0,x1⟩,⟨k0,k1⟩,by rw [hl];rfl,fun j A v hA hv=>hc j A v hA (by simpa using hv)⟩
theorem op38:Ql Try.prog 38 Q02 (OkL Wq):=Ql.slice Try.underlying38 (n:=2) (by kernel_rfl) (by decide) op66
theorem op73:Ql Try.prog 73 XA Wu:=fun enc w held fuel cells d ps ht=>by
 obtain⟨fuel',hl,hf⟩:=Ql.st (N:=2) Try.underlying73 (by kernel_rfl) ht
 obtain⟨x0,k0,l0,c0⟩:=Ql.fld op3 (n:=1) (off:=0) (by kernel_rfl) (by omega) (hf _ (List.mem_of_getElem? (i:=0) rfl))
 obtain⟨x1,k1,l1,c1⟩:=Ql.fld op3 (n:=1) (off:=1) (by kernel_rfl) (by omega) (hf _ (List.mem_of_getElem? (i:=1) rfl))
 have hc:Cov w cells 0 (XA ⟨x0,x1⟩):=(c0.app (c1.app Cov.nil))
 exact⟨⟨x0,x1⟩,⟨k0,k1⟩,by rw [hl];rfl,fun j A v hA hv=>hc j A v hA (by simpa using hv)⟩
theorem op39:Ql Try.prog 39 Q01 (OkL Wu):=Ql.slice Try.underlying39 (n:=2) (by kernel_rfl) (by decide) op73
theorem op41:Ql Try.prog 41 Q1 OkApiSite:=fun enc w held fuel cells d ps ht=>by
 obtain⟨fuel',hl,hf⟩:=Ql.st (N:=9) Try.underlying41 (by kernel_rfl) ht
 obtain⟨x0,k0,l0,c0⟩:=Ql.fld op35 (n:=5) (off:=0) (by kernel_rfl) (by omega) (hf _ (List.mem_of_getElem? (i:=0) rfl))
 obtain⟨x1,k1,l1,c1⟩:=Ql.fld op36 (n:=1) (off:=5) (by kernel_rfl) (by omega) (hf _ (List.mem_of_getElem? (i:=1) rfl))
 obtain⟨x2,k2,l2,c2⟩:=Ql.fld op37 (n:=1) (off:=6) (by kernel_rfl) (by omega) (hf _ (List.mem_of_getElem? (i:=2) rfl))
 obtain⟨x3,k3,l3,c3⟩:=Ql.fld op38 (n:=1) (off:=7) (by kernel_rfl) (by omega) (hf _ (List.mem_of_getElem? (i:=3) rfl))
 obtain⟨x4,k4,l4,c4⟩:=Ql.fld op39 (n:=1) (off:=8) (by kernel_rfl) (by omega) (hf _ (List.mem_of_getElem? (i:=4) rfl))
 have hc:Cov w cells 0 (Q1 ⟨x0,x1,x2,x3,x4⟩):=(c0.app (c1.app (c2.app (c3.app (c4.app Cov.nil)))))
 exact⟨⟨x0,x1,x2,x3,x4⟩,⟨k0,k1,k2,k3,k4⟩,by rw [hl];rfl,fun j A v hA hv=>hc j A v hA (by simpa using hv)⟩
theorem Q2Q (xs:List Int) (l:Nat) (J:Nat→World→Prop) (Jx:World→Prop) (S:Nat→Prop) (w W:World) (b off cap:Nat) (p0:Option Addr) (hlen:xs.length≤1099511627776) (hS:S b)
  (hY:∀m x W1,xs[m]?=some x→J m W1→YieldAt Fence.wide 1 Try.prog l #[.int .i64 x] W1 fun e W'=>(e=.returned (.bool true)∧J (m+1) W'∧KS S W1 W')∨(e=.returned (.bool false)∧Jx W'))
  (hc:W.cell? ⟨b,off,none⟩=some (.slice p0 xs.length cap)) (hL:Q0t S W p0 xs) (h0:J 0 W):
  CallsIn Fence.wide 2 Try.prog 55 #[.func (.yield l) #[] #[],.pointer (some ⟨b,off,none⟩)] W fun e W'=>(∃v,e=.returned v)∧(J xs.length W'∨Jx W'):=by
 refine callsIn_of_wp Try.func55 rfl trivial ?_ rfl
 simp only [Try.ntmps55,List.size_toArray,List.length_cons,List.length_nil,Nat.reduceAdd,Nat.reduceSub,Array.replicate_succ,Array.replicate_zero,List.push_toArray,List.append_toArray,List.nil_append,List.cons_append]
 gi_wp2
 gi_loopw [7] (fun p wr=>∃(m:Nat),m≤xs.length∧p=.int .i64 (m:Int)∧Q0t S wr p0 xs∧J m wr)
  (fun p wr=>match p with | .int _ i=>xs.length-i.toNat | _=>0)
 case atStart=>exact⟨0,Nat.zero_le _,rfl,hL,h0⟩
 case round=>
  obtain⟨m,hm,rfl,hl,hJs⟩:=hrel
  by_cases hlt:m<xs.length
  ·have hx:xs[m]?=some (xs.getD m 0):=by rw [List.getD_eq_getElem?_getD,List.getElem?_eq_getElem hlt];rfl
   obtain⟨b',off',rfl,hb,hv⟩:=hl m _ hx
   obtain⟨fn,tmps,assign,body,hy,hR⟩:=hY m (xs.getD m 0) wr hx hJs
   generalize xs.getD m 0=x0 at *
   gi_wp2
   refine hR.mono ?_
   rintro e W3 (⟨rfl,hJ3,hk3⟩ | ⟨rfl,hJx3⟩)
   ·gi_wp2
    go_roundw
    case rel=>exact⟨m+1,by omega,rfl,hl.keep hk3,hJ3⟩
    case measure=>simp;omega
   ·gi_wp2
    refine bodyPost_ret (results_none rfl _ _ _) rfl ?_
    exact⟨⟨_,rfl⟩,.inr hJx3⟩
  ·obtain rfl:m=xs.length:=by omega
   gi_wp2
   go_end0
   exact⟨⟨_,rfl⟩,.inl hJs⟩
theorem it55 (xs:List Int) (hlen:xs.length≤1099511627776):Iter Try.prog 55 [.rp [.sl 1 eI xs]] (fun x:Int=>[.int .i64 x]) xs:=fun w ok β lb hlb l J Jx W hW hY h0=>by
 obtain⟨b,off,p,cap,rfl,hb,hc,hr⟩:=Q2b hlb
 exact Q2Q xs l J Jx ok w W b off cap p hlen hb hY ((hW.cell hb).trans hc) (hr.keep hW) h0
end Go.Proofs.Ytlaehjhkcanffaa
