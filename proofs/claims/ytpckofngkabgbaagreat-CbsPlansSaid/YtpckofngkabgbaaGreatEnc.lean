/- The encodings of the data, and the types' table (written by a program of the prover). -/
import Derived.Test.YtpckofngkabgbaaGreatLibZM
import Derived.Test.YtpckofngkabgbaaGreatLibZJ
import Derived.Test.YtpckofngkabgbaaGreatLibZX
import Derived.Test.YtpckofngkabgbaaGreatVc
import Derived.Test.YtpckofngkabgbaaGreatChecked
import Derived.Test.YtpckofngkabgbaaGreatLibZB
import Derived.Test.YtpckofngkabgbaaGreatLibZC
import Derived.Test.YtpckofngkabgbaaGreatLibZY
import Derived.Test.YtpckofngkabgbaaGreatLibZS
import Derived.Test.YtpckofngkabgbaaGreatLibZI
import Derived.WalkKit
import Derived.Lib.Walk
import Derived.Laws.Externs
import Derived.Laws.IdiomCopy
import Derived.Deep.RegionLaw
import Derived.IntWalk
import Derived.KernelRfl
set_option maxRecDepth 100000
set_option maxHeartbeats 8000000
set_option linter.unusedVariables false
set_option linter.unusedSimpArgs false
namespace Go.Proofs.YtpckofngkabgbaaGreat
open Go Go.Taq
@[reducible] def eI (x:Int):List AVal:=[.i x]
@[reducible] def X7 (x:QF):List AVal:=[.i x.From,.i x.To]
@[reducible] def Q3 (x:Qx):List AVal:=[.v (.string x.Name),.sl 1 eI x.Cells,.i x.Speed,.i x.Keep,.sl 2 X7 x.Shut]
@[reducible] def Q0 (x:Qk):List AVal:=[.v (.string x.A),.v (.string x.B)]
@[reducible] def Q1 (x:QB):List AVal:=[.i x.Cell,.v (.string x.Class)]
@[reducible] def Q2 (x:QK):List AVal:=[.i x.Cell,.i x.Charge]
@[reducible] def Q4 (x:ApiTrip):List AVal:=[.i x.From,.i x.To]
def kI (x:Int):Value:=.int .i64 x
def veB (x:Bool):AVal:=.b x
@[reducible] def Q9 (x:ApiSite):List AVal:=[.i x.Floor.W,.i x.Floor.H,.i x.Floor.D,.sl 1 eI x.Floor.Kind,.sl 1 eI x.Floor.Out,.sl 5 Q3 x.Zones,.sl 2 Q0 x.Aparts,.sl 2 Q1 x.Shelves,.sl 2 Q2 x.Robots]
@[reducible] def Qc (x:CbsPlace):List AVal:=[.i x.cell,.i x.rest,.b x.done]
def Zs (x:CbsPlace):List Value:=[.int .i64 x.cell,.int .i64 x.rest,.bool x.done]
def Kr (x:CbsPlace):Value:=.agg (Zs x).toArray
def Yv (x:Arr4CbsPlace):List Value:=[.int .i64 x.e0.cell,.int .i64 x.e0.rest,.bool x.e0.done,.int .i64 x.e1.cell,.int .i64 x.e1.rest,.bool x.e1.done,.int .i64 x.e2.cell,.int .i64 x.e2.rest,.bool x.e2.done,.int .i64 x.e3.cell,.int .i64 x.e3.rest,.bool x.e3.done]
def Qa (x:Arr4CbsPlace):Value:=.agg (Yv x).toArray
def QD (x:CbsStep):AVal:=.v (.agg #[.int .i64 x.cost,.int .i64 x.from_.e0.cell,.int .i64 x.from_.e0.rest,.bool x.from_.e0.done,.int .i64 x.from_.e1.cell,.int .i64 x.from_.e1.rest,.bool x.from_.e1.done,.int .i64 x.from_.e2.cell,.int .i64 x.from_.e2.rest,.bool x.from_.e2.done,.int .i64 x.from_.e3.cell,.int .i64 x.from_.e3.rest,.bool x.from_.e3.done,.int .i64 x.acts.e0,.int .i64 x.acts.e1,.int .i64 x.acts.e2,.int .i64 x.acts.e3])
@[reducible] def Qe (x:List (Arr4CbsPlace×CbsStep)):List AVal:=[.om Qa QD x]
@[reducible] def Ku (x:Arr4CbsPlace):List AVal:=[.i x.e0.cell,.i x.e0.rest,.b x.e0.done,.i x.e1.cell,.i x.e1.rest,.b x.e1.done,.i x.e2.cell,.i x.e2.rest,.b x.e2.done,.i x.e3.cell,.i x.e3.rest,.b x.e3.done]
@[reducible] def K1 (x:CbsStep):List AVal:=[.i x.cost,.i x.from_.e0.cell,.i x.from_.e0.rest,.b x.from_.e0.done,.i x.from_.e1.cell,.i x.from_.e1.rest,.b x.from_.e1.done,.i x.from_.e2.cell,.i x.from_.e2.rest,.b x.from_.e2.done,.i x.from_.e3.cell,.i x.from_.e3.rest,.b x.from_.e3.done,.i x.acts.e0,.i x.acts.e1,.i x.acts.e2,.i x.acts.e3]
@[reducible] def QQ (x:Ke):List AVal:=[.i x.act,.i x.to_.cell,.i x.to_.rest,.b x.to_.done]
@[reducible] def K5 (x:ApiFloor):List AVal:=[.i x.W,.i x.H,.i x.D,.sl 1 eI x.Kind,.sl 1 eI x.Out]
@[reducible] def Q2V (x:Kf):List AVal:=[.i x.x,.i x.y,.i x.z]
@[reducible] def eOeI (x:List Int):List AVal:=[.os 1 eI x]
@[reducible] def eLeI (x:List Int):List AVal:=[.sl 1 eI x]
def Q2R (x:Kl):List Value:=[.int .i64 x.robot,.int .i64 x.cell,.int .i64 x.tick]
def Qf (x:Kl):Value:=.agg (Q2R x).toArray
@[reducible] def QS (x:Kl):List AVal:=[.i x.robot,.i x.cell,.i x.tick]
def K9 (x:CbsOrigin):AVal:=.v (.agg #[.int .i64 x.from_.cell,.int .i64 x.from_.rest,.bool x.from_.done,.int .i64 x.act])
@[reducible] def Qj (x:List (CbsPlace×CbsOrigin)):List AVal:=[.om Kr K9 x]
@[reducible] def Kj (x:Qw):List AVal:=[.rm Qf veB x.bans,.sl 1 eLeI x.plan]
@[reducible] def Xf (x:We):List AVal:=[.i x.a,.i x.b,.i x.tick,.i x.cell]
def veI (x:Int):AVal:=.i x
def kS (x:ByteArray):Value:=.string x
@[reducible] def Y2 (x:ApiTaken):List AVal:=[.i x.Cell,.i x.Span.From,.i x.Span.To]
def Gd (x:List QF):AVal:=.os 2 X7 x
@[reducible] def Q2W (x:List QF):List AVal:=[.sl 2 X7 x]
def GB (x:List QF):AVal:=.sl 2 X7 x
@[reducible] def eS (x:ByteArray):List AVal:=[.v (.string x)]
@[reducible] def Q2U (x:List Qx):List AVal:=[.sl 5 Q3 x]
@[reducible] def Q2p (x:List Qk):List AVal:=[.sl 2 Q0 x]
@[reducible] def Q2r (x:List QB):List AVal:=[.sl 2 Q1 x]
@[reducible] def Q2f (x:List QK):List AVal:=[.sl 2 Q2 x]
@[reducible] def Q2T (x:List ApiTrip):List AVal:=[.sl 2 Q4 x]
def te3:TE:=⟨.int .i64,1,8,[.int .i64 0]⟩
theorem teok3:TEok Tryz.prog 3 te3:=⟨⟨_,Tryz.underlying3,rfl⟩,Tryz.t3,_,(by kernel_rfl:Tryz.prog.info? 3=some Tryz.t3),rfl,rfl,rfl,rfl,(fun h=>by cases h),rfl,by decide⟩
def te4:TE:=⟨.bool,1,1,[.bool false]⟩
theorem teok4:TEok Tryz.prog 4 te4:=⟨⟨_,Tryz.underlying4,rfl⟩,Tryz.t4,_,(by kernel_rfl:Tryz.prog.info? 4=some Tryz.t4),rfl,rfl,rfl,rfl,(fun h=>by cases h),rfl,by decide⟩
def te5:TE:=⟨.int .u8,1,1,[.int .u8 0]⟩
theorem teok5:TEok Tryz.prog 5 te5:=⟨⟨_,Tryz.underlying5,rfl⟩,Tryz.t5,_,(by kernel_rfl:Tryz.prog.info? 5=some Tryz.t5),rfl,rfl,rfl,rfl,(fun h=>by cases h),rfl,by decide⟩
def te9:TE:=⟨.str,1,16,[.string ByteArray.empty]⟩
theorem teok9:TEok Tryz.prog 9 te9:=⟨⟨_,Tryz.underlying9,rfl⟩,Tryz.t9,_,(by kernel_rfl:Tryz.prog.info? 9=some Tryz.t9),rfl,rfl,rfl,rfl,(fun h=>by cases h),rfl,by decide⟩
def te22:TE:=⟨.sl 3,1,24,[.slice none 0 0]⟩
theorem Q5I:TEok Tryz.prog 22 te22:=⟨⟨_,Tryz.underlying22,rfl⟩,Tryz.t22,_,(by kernel_rfl:Tryz.prog.info? 22=some Tryz.t22),rfl,rfl,rfl,rfl,(fun h=>by cases h),rfl,by decide⟩
def te24:TE:=⟨.st [(0,3),(1,3),(2,3),(3,22),(4,22)],5,72,[.int .i64 0,.int .i64 0,.int .i64 0,.slice none 0 0,.slice none 0 0]⟩
theorem Q5w:TEok Tryz.prog 24 te24:=⟨⟨_,Tryz.underlying24,⟨_,rfl,rfl⟩⟩,Tryz.t24,_,(by kernel_rfl:Tryz.prog.info? 24=some Tryz.t24),rfl,rfl,rfl,rfl,(fun _=>⟨_,rfl⟩),rfl,by decide⟩
def te25:TE:=⟨.sl 85,1,24,[.slice none 0 0]⟩
theorem Q65:TEok Tryz.prog 25 te25:=⟨⟨_,Tryz.underlying25,rfl⟩,Tryz.t25,_,(by kernel_rfl:Tryz.prog.info? 25=some Tryz.t25),rfl,rfl,rfl,rfl,(fun h=>by cases h),rfl,by decide⟩
def te26:TE:=⟨.sl 87,1,24,[.slice none 0 0]⟩
theorem Q5r:TEok Tryz.prog 26 te26:=⟨⟨_,Tryz.underlying26,rfl⟩,Tryz.t26,_,(by kernel_rfl:Tryz.prog.info? 26=some Tryz.t26),rfl,rfl,rfl,rfl,(fun h=>by cases h),rfl,by decide⟩
def te27:TE:=⟨.sl 89,1,24,[.slice none 0 0]⟩
theorem Q6e:TEok Tryz.prog 27 te27:=⟨⟨_,Tryz.underlying27,rfl⟩,Tryz.t27,_,(by kernel_rfl:Tryz.prog.info? 27=some Tryz.t27),rfl,rfl,rfl,rfl,(fun h=>by cases h),rfl,by decide⟩
def te28:TE:=⟨.sl 71,1,24,[.slice none 0 0]⟩
theorem Q5u:TEok Tryz.prog 28 te28:=⟨⟨_,Tryz.underlying28,rfl⟩,Tryz.t28,_,(by kernel_rfl:Tryz.prog.info? 28=some Tryz.t28),rfl,rfl,rfl,rfl,(fun h=>by cases h),rfl,by decide⟩
def te30:TE:=⟨.st [(0,24),(5,25),(6,26),(7,27),(8,28)],9,168,[.int .i64 0,.int .i64 0,.int .i64 0,.slice none 0 0,.slice none 0 0,.slice none 0 0,.slice none 0 0,.slice none 0 0,.slice none 0 0]⟩
theorem Q63:TEok Tryz.prog 30 te30:=⟨⟨_,Tryz.underlying30,⟨_,rfl,rfl⟩⟩,Tryz.t30,_,(by kernel_rfl:Tryz.prog.info? 30=some Tryz.t30),rfl,rfl,rfl,rfl,(fun _=>⟨_,rfl⟩),rfl,by decide⟩
def te31:TE:=⟨.sl 48,1,24,[.slice none 0 0]⟩
theorem Q5N:TEok Tryz.prog 31 te31:=⟨⟨_,Tryz.underlying31,rfl⟩,Tryz.t31,_,(by kernel_rfl:Tryz.prog.info? 31=some Tryz.t31),rfl,rfl,rfl,rfl,(fun h=>by cases h),rfl,by decide⟩
def te34:TE:=⟨.sl 22,1,24,[.slice none 0 0]⟩
theorem Q5o:TEok Tryz.prog 34 te34:=⟨⟨_,Tryz.underlying34,rfl⟩,Tryz.t34,_,(by kernel_rfl:Tryz.prog.info? 34=some Tryz.t34),rfl,rfl,rfl,rfl,(fun h=>by cases h),rfl,by decide⟩
def te35:TE:=⟨.int .i64,1,8,[.int .i64 0]⟩
theorem Q5R:TEok Tryz.prog 35 te35:=⟨⟨_,Tryz.underlying35,rfl⟩,Tryz.t35,_,(by kernel_rfl:Tryz.prog.info? 35=some Tryz.t35),rfl,rfl,rfl,rfl,(fun h=>by cases h),rfl,by decide⟩
def te48:TE:=⟨.st [(0,3),(1,3)],2,16,[.int .i64 0,.int .i64 0]⟩
theorem Q5X:TEok Tryz.prog 48 te48:=⟨⟨_,Tryz.underlying48,⟨_,rfl,rfl⟩⟩,Tryz.t48,_,(by kernel_rfl:Tryz.prog.info? 48=some Tryz.t48),rfl,rfl,rfl,rfl,(fun _=>⟨_,rfl⟩),rfl,by decide⟩
def te55:TE:=⟨.pt 57,1,8,[.pointer none]⟩
theorem Q68:TEok Tryz.prog 55 te55:=⟨⟨_,Tryz.underlying55,rfl⟩,Tryz.t55,_,(by kernel_rfl:Tryz.prog.info? 55=some Tryz.t55),rfl,rfl,rfl,rfl,(fun h=>by cases h),rfl,by decide⟩
def te57:TE:=⟨.st [(0,30),(9,31),(10,3),(11,22),(12,3)],13,232,[.int .i64 0,.int .i64 0,.int .i64 0,.slice none 0 0,.slice none 0 0,.slice none 0 0,.slice none 0 0,.slice none 0 0,.slice none 0 0,.slice none 0 0,.int .i64 0,.slice none 0 0,.int .i64 0]⟩
theorem Q5t:TEok Tryz.prog 57 te57:=⟨⟨_,Tryz.underlying57,⟨_,rfl,rfl⟩⟩,Tryz.t57,_,(by kernel_rfl:Tryz.prog.info? 57=some Tryz.t57),rfl,rfl,rfl,rfl,(fun _=>⟨_,rfl⟩),rfl,by decide⟩
def te59:TE:=⟨.mp 3 4,1,8,[.map none]⟩
theorem Q60:TEok Tryz.prog 59 te59:=⟨⟨_,Tryz.underlying59,rfl⟩,Tryz.t59,_,(by kernel_rfl:Tryz.prog.info? 59=some Tryz.t59),rfl,rfl,rfl,rfl,(fun h=>by cases h),rfl,by decide⟩
def te63:TE:=⟨.st [(0,3),(1,3),(2,3),(3,3)],4,32,[.int .i64 0,.int .i64 0,.int .i64 0,.int .i64 0]⟩
theorem Q5M:TEok Tryz.prog 63 te63:=⟨⟨_,Tryz.underlying63,⟨_,rfl,rfl⟩⟩,Tryz.t63,_,(by kernel_rfl:Tryz.prog.info? 63=some Tryz.t63),rfl,rfl,rfl,rfl,(fun _=>⟨_,rfl⟩),rfl,by decide⟩
def te71:TE:=⟨.st [(0,3),(1,3)],2,16,[.int .i64 0,.int .i64 0]⟩
theorem Q5q:TEok Tryz.prog 71 te71:=⟨⟨_,Tryz.underlying71,⟨_,rfl,rfl⟩⟩,Tryz.t71,_,(by kernel_rfl:Tryz.prog.info? 71=some Tryz.t71),rfl,rfl,rfl,rfl,(fun _=>⟨_,rfl⟩),rfl,by decide⟩
def te83:TE:=⟨.sl 165,1,24,[.slice none 0 0]⟩
theorem Q69:TEok Tryz.prog 83 te83:=⟨⟨_,Tryz.underlying83,rfl⟩,Tryz.t83,_,(by kernel_rfl:Tryz.prog.info? 83=some Tryz.t83),rfl,rfl,rfl,rfl,(fun h=>by cases h),rfl,by decide⟩
def te85:TE:=⟨.st [(0,9),(1,22),(2,3),(3,3),(4,83)],5,80,[.string ByteArray.empty,.slice none 0 0,.int .i64 0,.int .i64 0,.slice none 0 0]⟩
theorem Q5P:TEok Tryz.prog 85 te85:=⟨⟨_,Tryz.underlying85,⟨_,rfl,rfl⟩⟩,Tryz.t85,_,(by kernel_rfl:Tryz.prog.info? 85=some Tryz.t85),rfl,rfl,rfl,rfl,(fun _=>⟨_,rfl⟩),rfl,by decide⟩
def te87:TE:=⟨.st [(0,9),(1,9)],2,32,[.string ByteArray.empty,.string ByteArray.empty]⟩
theorem Q5l:TEok Tryz.prog 87 te87:=⟨⟨_,Tryz.underlying87,⟨_,rfl,rfl⟩⟩,Tryz.t87,_,(by kernel_rfl:Tryz.prog.info? 87=some Tryz.t87),rfl,rfl,rfl,rfl,(fun _=>⟨_,rfl⟩),rfl,by decide⟩
def te89:TE:=⟨.st [(0,3),(1,9)],2,24,[.int .i64 0,.string ByteArray.empty]⟩
theorem Q5k:TEok Tryz.prog 89 te89:=⟨⟨_,Tryz.underlying89,⟨_,rfl,rfl⟩⟩,Tryz.t89,_,(by kernel_rfl:Tryz.prog.info? 89=some Tryz.t89),rfl,rfl,rfl,rfl,(fun _=>⟨_,rfl⟩),rfl,by decide⟩
def te92:TE:=⟨.pt 163,1,8,[.pointer none]⟩
theorem Q5m:TEok Tryz.prog 92 te92:=⟨⟨_,Tryz.underlying92,rfl⟩,Tryz.t92,_,(by kernel_rfl:Tryz.prog.info? 92=some Tryz.t92),rfl,rfl,rfl,rfl,(fun h=>by cases h),rfl,by decide⟩
def te105:TE:=⟨.st [(0,3),(1,3),(2,4)],3,24,[.int .i64 0,.int .i64 0,.bool false]⟩
theorem Q58:TEok Tryz.prog 105 te105:=⟨⟨_,Tryz.underlying105,⟨_,rfl,rfl⟩⟩,Tryz.t105,_,(by kernel_rfl:Tryz.prog.info? 105=some Tryz.t105),rfl,rfl,rfl,rfl,(fun _=>⟨_,rfl⟩),rfl,by decide⟩
def te107:TE:=⟨.ar 4 105,12,96,[.int .i64 0,.int .i64 0,.bool false,.int .i64 0,.int .i64 0,.bool false,.int .i64 0,.int .i64 0,.bool false,.int .i64 0,.int .i64 0,.bool false]⟩
theorem Q4Z:TEok Tryz.prog 107 te107:=⟨⟨_,Tryz.underlying107,rfl⟩,Tryz.t107,_,(by kernel_rfl:Tryz.prog.info? 107=some Tryz.t107),rfl,rfl,rfl,rfl,(fun _=>⟨_,rfl⟩),rfl,by decide⟩
def te108:TE:=⟨.ar 4 3,4,32,[.int .i64 0,.int .i64 0,.int .i64 0,.int .i64 0]⟩
theorem Q4w:TEok Tryz.prog 108 te108:=⟨⟨_,Tryz.underlying108,rfl⟩,Tryz.t108,_,(by kernel_rfl:Tryz.prog.info? 108=some Tryz.t108),rfl,rfl,rfl,rfl,(fun _=>⟨_,rfl⟩),rfl,by decide⟩
def te110:TE:=⟨.st [(0,3),(1,107),(13,108)],17,136,[.int .i64 0,.int .i64 0,.int .i64 0,.bool false,.int .i64 0,.int .i64 0,.bool false,.int .i64 0,.int .i64 0,.bool false,.int .i64 0,.int .i64 0,.bool false,.int .i64 0,.int .i64 0,.int .i64 0,.int .i64 0]⟩
theorem Q4F:TEok Tryz.prog 110 te110:=⟨⟨_,Tryz.underlying110,⟨_,rfl,rfl⟩⟩,Tryz.t110,_,(by kernel_rfl:Tryz.prog.info? 110=some Tryz.t110),rfl,rfl,rfl,rfl,(fun _=>⟨_,rfl⟩),rfl,by decide⟩
def te111:TE:=⟨.mp 107 110,1,8,[.map none]⟩
theorem Q4s:TEok Tryz.prog 111 te111:=⟨⟨_,Tryz.underlying111,rfl⟩,Tryz.t111,_,(by kernel_rfl:Tryz.prog.info? 111=some Tryz.t111),rfl,rfl,rfl,rfl,(fun h=>by cases h),rfl,by decide⟩
def te112:TE:=⟨.sl 111,1,24,[.slice none 0 0]⟩
theorem Q4V:TEok Tryz.prog 112 te112:=⟨⟨_,Tryz.underlying112,rfl⟩,Tryz.t112,_,(by kernel_rfl:Tryz.prog.info? 112=some Tryz.t112),rfl,rfl,rfl,rfl,(fun h=>by cases h),rfl,by decide⟩
def te113:TE:=⟨.sl 107,1,24,[.slice none 0 0]⟩
theorem Q5b:TEok Tryz.prog 113 te113:=⟨⟨_,Tryz.underlying113,rfl⟩,Tryz.t113,_,(by kernel_rfl:Tryz.prog.info? 113=some Tryz.t113),rfl,rfl,rfl,rfl,(fun h=>by cases h),rfl,by decide⟩
def te118:TE:=⟨.mp 127 4,1,8,[.map none]⟩
theorem Q4Q:TEok Tryz.prog 118 te118:=⟨⟨_,Tryz.underlying118,rfl⟩,Tryz.t118,_,(by kernel_rfl:Tryz.prog.info? 118=some Tryz.t118),rfl,rfl,rfl,rfl,(fun h=>by cases h),rfl,by decide⟩
def te120:TE:=⟨.st [(0,118),(1,34)],2,32,[.map none,.slice none 0 0]⟩
theorem Q3v:TEok Tryz.prog 120 te120:=⟨⟨_,Tryz.underlying120,⟨_,rfl,rfl⟩⟩,Tryz.t120,_,(by kernel_rfl:Tryz.prog.info? 120=some Tryz.t120),rfl,rfl,rfl,rfl,(fun _=>⟨_,rfl⟩),rfl,by decide⟩
def te123:TE:=⟨.sl 120,1,24,[.slice none 0 0]⟩
theorem Q4o:TEok Tryz.prog 123 te123:=⟨⟨_,Tryz.underlying123,rfl⟩,Tryz.t123,_,(by kernel_rfl:Tryz.prog.info? 123=some Tryz.t123),rfl,rfl,rfl,rfl,(fun h=>by cases h),rfl,by decide⟩
def te127:TE:=⟨.st [(0,3),(1,3),(2,3)],3,24,[.int .i64 0,.int .i64 0,.int .i64 0]⟩
theorem Q4W:TEok Tryz.prog 127 te127:=⟨⟨_,Tryz.underlying127,⟨_,rfl,rfl⟩⟩,Tryz.t127,_,(by kernel_rfl:Tryz.prog.info? 127=some Tryz.t127),rfl,rfl,rfl,rfl,(fun _=>⟨_,rfl⟩),rfl,by decide⟩
def te129:TE:=⟨.fn,1,8,[.nilFunc]⟩
theorem Q4G:TEok Tryz.prog 129 te129:=⟨⟨_,Tryz.underlying129,⟨_,_,_,rfl⟩⟩,Tryz.t129,_,(by kernel_rfl:Tryz.prog.info? 129=some Tryz.t129),rfl,rfl,rfl,rfl,(fun h=>by cases h),rfl,by decide⟩
def te131:TE:=⟨.sl 198,1,24,[.slice none 0 0]⟩
theorem Q4y:TEok Tryz.prog 131 te131:=⟨⟨_,Tryz.underlying131,rfl⟩,Tryz.t131,_,(by kernel_rfl:Tryz.prog.info? 131=some Tryz.t131),rfl,rfl,rfl,rfl,(fun h=>by cases h),rfl,by decide⟩
def te132:TE:=⟨.fn,1,8,[.nilFunc]⟩
theorem Q4v:TEok Tryz.prog 132 te132:=⟨⟨_,Tryz.underlying132,⟨_,_,_,rfl⟩⟩,Tryz.t132,_,(by kernel_rfl:Tryz.prog.info? 132=some Tryz.t132),rfl,rfl,rfl,rfl,(fun h=>by cases h),rfl,by decide⟩
def te135:TE:=⟨.mp 3 83,1,8,[.map none]⟩
theorem Q4S:TEok Tryz.prog 135 te135:=⟨⟨_,Tryz.underlying135,rfl⟩,Tryz.t135,_,(by kernel_rfl:Tryz.prog.info? 135=some Tryz.t135),rfl,rfl,rfl,rfl,(fun h=>by cases h),rfl,by decide⟩
def te137:TE:=⟨.st [(0,30),(9,3),(10,22),(11,135)],12,208,[.int .i64 0,.int .i64 0,.int .i64 0,.slice none 0 0,.slice none 0 0,.slice none 0 0,.slice none 0 0,.slice none 0 0,.slice none 0 0,.int .i64 0,.slice none 0 0,.map none]⟩
theorem Q55:TEok Tryz.prog 137 te137:=⟨⟨_,Tryz.underlying137,⟨_,rfl,rfl⟩⟩,Tryz.t137,_,(by kernel_rfl:Tryz.prog.info? 137=some Tryz.t137),rfl,rfl,rfl,rfl,(fun _=>⟨_,rfl⟩),rfl,by decide⟩
def te140:TE:=⟨.st [(0,3),(1,3)],2,16,[.int .i64 0,.int .i64 0]⟩
theorem Q5h:TEok Tryz.prog 140 te140:=⟨⟨_,Tryz.underlying140,⟨_,rfl,rfl⟩⟩,Tryz.t140,_,(by kernel_rfl:Tryz.prog.info? 140=some Tryz.t140),rfl,rfl,rfl,rfl,(fun _=>⟨_,rfl⟩),rfl,by decide⟩
def te160:TE:=⟨.mp 3 3,1,8,[.map none]⟩
theorem Q57:TEok Tryz.prog 160 te160:=⟨⟨_,Tryz.underlying160,rfl⟩,Tryz.t160,_,(by kernel_rfl:Tryz.prog.info? 160=some Tryz.t160),rfl,rfl,rfl,rfl,(fun h=>by cases h),rfl,by decide⟩
def te161:TE:=⟨.mp 9 3,1,8,[.map none]⟩
theorem Q51:TEok Tryz.prog 161 te161:=⟨⟨_,Tryz.underlying161,rfl⟩,Tryz.t161,_,(by kernel_rfl:Tryz.prog.info? 161=some Tryz.t161),rfl,rfl,rfl,rfl,(fun h=>by cases h),rfl,by decide⟩
def te163:TE:=⟨.st [(0,30),(9,160),(10,59),(11,59),(12,161),(13,59),(14,22),(15,22)],16,256,[.int .i64 0,.int .i64 0,.int .i64 0,.slice none 0 0,.slice none 0 0,.slice none 0 0,.slice none 0 0,.slice none 0 0,.slice none 0 0,.map none,.map none,.map none,.map none,.map none,.slice none 0 0,.slice none 0 0]⟩
theorem Q4E:TEok Tryz.prog 163 te163:=⟨⟨_,Tryz.underlying163,⟨_,rfl,rfl⟩⟩,Tryz.t163,_,(by kernel_rfl:Tryz.prog.info? 163=some Tryz.t163),rfl,rfl,rfl,rfl,(fun _=>⟨_,rfl⟩),rfl,by decide⟩
def te165:TE:=⟨.st [(0,3),(1,3)],2,16,[.int .i64 0,.int .i64 0]⟩
theorem Q4L:TEok Tryz.prog 165 te165:=⟨⟨_,Tryz.underlying165,⟨_,rfl,rfl⟩⟩,Tryz.t165,_,(by kernel_rfl:Tryz.prog.info? 165=some Tryz.t165),rfl,rfl,rfl,rfl,(fun _=>⟨_,rfl⟩),rfl,by decide⟩
def te172:TE:=⟨.fn,1,8,[.nilFunc]⟩
theorem Q4A:TEok Tryz.prog 172 te172:=⟨⟨_,Tryz.underlying172,⟨_,_,_,rfl⟩⟩,Tryz.t172,_,(by kernel_rfl:Tryz.prog.info? 172=some Tryz.t172),rfl,rfl,rfl,rfl,(fun h=>by cases h),rfl,by decide⟩
def te175:TE:=⟨.fn,1,8,[.nilFunc]⟩
theorem Q4C:TEok Tryz.prog 175 te175:=⟨⟨_,Tryz.underlying175,⟨_,_,_,rfl⟩⟩,Tryz.t175,_,(by kernel_rfl:Tryz.prog.info? 175=some Tryz.t175),rfl,rfl,rfl,rfl,(fun h=>by cases h),rfl,by decide⟩
def te178:TE:=⟨.sl 105,1,24,[.slice none 0 0]⟩
theorem Q54:TEok Tryz.prog 178 te178:=⟨⟨_,Tryz.underlying178,rfl⟩,Tryz.t178,_,(by kernel_rfl:Tryz.prog.info? 178=some Tryz.t178),rfl,rfl,rfl,rfl,(fun h=>by cases h),rfl,by decide⟩
def te179:TE:=⟨.fn,1,8,[.nilFunc]⟩
theorem Q4J:TEok Tryz.prog 179 te179:=⟨⟨_,Tryz.underlying179,⟨_,_,_,rfl⟩⟩,Tryz.t179,_,(by kernel_rfl:Tryz.prog.info? 179=some Tryz.t179),rfl,rfl,rfl,rfl,(fun h=>by cases h),rfl,by decide⟩
def te182:TE:=⟨.sl 185,1,24,[.slice none 0 0]⟩
theorem Q4p:TEok Tryz.prog 182 te182:=⟨⟨_,Tryz.underlying182,rfl⟩,Tryz.t182,_,(by kernel_rfl:Tryz.prog.info? 182=some Tryz.t182),rfl,rfl,rfl,rfl,(fun h=>by cases h),rfl,by decide⟩
def te185:TE:=⟨.st [(0,3),(1,105)],4,32,[.int .i64 0,.int .i64 0,.int .i64 0,.bool false]⟩
theorem Q4z:TEok Tryz.prog 185 te185:=⟨⟨_,Tryz.underlying185,⟨_,rfl,rfl⟩⟩,Tryz.t185,_,(by kernel_rfl:Tryz.prog.info? 185=some Tryz.t185),rfl,rfl,rfl,rfl,(fun _=>⟨_,rfl⟩),rfl,by decide⟩
def te187:TE:=⟨.st [(0,105),(3,3)],4,32,[.int .i64 0,.int .i64 0,.bool false,.int .i64 0]⟩
theorem Q4x:TEok Tryz.prog 187 te187:=⟨⟨_,Tryz.underlying187,⟨_,rfl,rfl⟩⟩,Tryz.t187,_,(by kernel_rfl:Tryz.prog.info? 187=some Tryz.t187),rfl,rfl,rfl,rfl,(fun _=>⟨_,rfl⟩),rfl,by decide⟩
def te188:TE:=⟨.mp 105 187,1,8,[.map none]⟩
theorem Q52:TEok Tryz.prog 188 te188:=⟨⟨_,Tryz.underlying188,rfl⟩,Tryz.t188,_,(by kernel_rfl:Tryz.prog.info? 188=some Tryz.t188),rfl,rfl,rfl,rfl,(fun h=>by cases h),rfl,by decide⟩
def te189:TE:=⟨.sl 188,1,24,[.slice none 0 0]⟩
theorem Q5c:TEok Tryz.prog 189 te189:=⟨⟨_,Tryz.underlying189,rfl⟩,Tryz.t189,_,(by kernel_rfl:Tryz.prog.info? 189=some Tryz.t189),rfl,rfl,rfl,rfl,(fun h=>by cases h),rfl,by decide⟩
def te193:TE:=⟨.int .u64,1,8,[.int .u64 0]⟩
theorem Q5f:TEok Tryz.prog 193 te193:=⟨⟨_,Tryz.underlying193,rfl⟩,Tryz.t193,_,(by kernel_rfl:Tryz.prog.info? 193=some Tryz.t193),rfl,rfl,rfl,rfl,(fun h=>by cases h),rfl,by decide⟩
def te198:TE:=⟨.st [(0,3),(1,165)],3,24,[.int .i64 0,.int .i64 0,.int .i64 0]⟩
theorem Q4u:TEok Tryz.prog 198 te198:=⟨⟨_,Tryz.underlying198,⟨_,rfl,rfl⟩⟩,Tryz.t198,_,(by kernel_rfl:Tryz.prog.info? 198=some Tryz.t198),rfl,rfl,rfl,rfl,(fun _=>⟨_,rfl⟩),rfl,by decide⟩
def te200:TE:=⟨.fn,1,8,[.nilFunc]⟩
theorem Q4r:TEok Tryz.prog 200 te200:=⟨⟨_,Tryz.underlying200,⟨_,_,_,rfl⟩⟩,Tryz.t200,_,(by kernel_rfl:Tryz.prog.info? 200=some Tryz.t200),rfl,rfl,rfl,rfl,(fun h=>by cases h),rfl,by decide⟩
def te204:TE:=⟨.ar 2 4,2,2,[.bool false,.bool false]⟩
theorem Q4n:TEok Tryz.prog 204 te204:=⟨⟨_,Tryz.underlying204,rfl⟩,Tryz.t204,_,(by kernel_rfl:Tryz.prog.info? 204=some Tryz.t204),rfl,rfl,rfl,rfl,(fun _=>⟨_,rfl⟩),rfl,by decide⟩
def te229:TE:=⟨.st [(0,3),(1,3),(2,3)],3,24,[.int .i64 0,.int .i64 0,.int .i64 0]⟩
theorem Q4R:TEok Tryz.prog 229 te229:=⟨⟨_,Tryz.underlying229,⟨_,rfl,rfl⟩⟩,Tryz.t229,_,(by kernel_rfl:Tryz.prog.info? 229=some Tryz.t229),rfl,rfl,rfl,rfl,(fun _=>⟨_,rfl⟩),rfl,by decide⟩
def te230:TE:=⟨.ar 6 229,18,144,List.replicate 18 (.int .i64 0)⟩
theorem Q4q:TEok Tryz.prog 230 te230:=⟨⟨_,Tryz.underlying230,rfl⟩,Tryz.t230,_,(by kernel_rfl:Tryz.prog.info? 230=some Tryz.t230),rfl,rfl,rfl,rfl,(fun _=>⟨_,rfl⟩),rfl,by decide⟩
def te240:TE:=⟨.fn,1,8,[.nilFunc]⟩
theorem Q50:TEok Tryz.prog 240 te240:=⟨⟨_,Tryz.underlying240,⟨_,_,_,rfl⟩⟩,Tryz.t240,_,(by kernel_rfl:Tryz.prog.info? 240=some Tryz.t240),rfl,rfl,rfl,rfl,(fun h=>by cases h),rfl,by decide⟩
theorem Q6G:EqT Tryz.prog 87 [(0,9),(1,9)]:=⟨by kernel_rfl,by kernel_rfl,by kernel_rfl,by kernel_rfl,by kernel_rfl⟩
theorem Q4k:EqT Tryz.prog 105 [(0,3),(1,3),(2,4)]:=⟨by kernel_rfl,by kernel_rfl,by kernel_rfl,by kernel_rfl,by kernel_rfl⟩
theorem Q5Y:EqT Tryz.prog 127 [(0,3),(1,3),(2,3)]:=⟨by kernel_rfl,by kernel_rfl,by kernel_rfl,by kernel_rfl,by kernel_rfl⟩
def tab:Tab:=[(3,te3),(4,te4),(5,te5),(9,te9),(22,te22),(24,te24),(25,te25),(26,te26),(27,te27),(28,te28),(30,te30),(31,te31),(34,te34),(35,te35),(48,te48),(55,te55),(57,te57),(59,te59),(63,te63),(71,te71),(83,te83),(85,te85),(87,te87),(89,te89),(92,te92),(105,te105),(107,te107),(108,te108),(110,te110),(111,te111),(112,te112),(113,te113),(118,te118),(120,te120),(123,te123),(127,te127),(129,te129),(131,te131),(132,te132),(135,te135),(137,te137),(140,te140),(160,te160),(161,te161),(163,te163),(165,te165),(172,te172),(175,te175),(178,te178),(179,te179),(182,te182),(185,te185),(187,te187),(188,te188),(189,te189),(193,te193),(198,te198),(200,te200),(204,te204),(229,te229),(230,te230),(240,te240)]
theorem T:QI Tryz.prog tab:=(.cons teok3 (.cons teok4 (.cons teok5 (.cons teok9 (.cons Q5I (.cons Q5w (.cons Q65 (.cons Q5r (.cons Q6e (.cons Q5u (.cons Q63 (.cons Q5N (.cons Q5o (.cons Q5R (.cons Q5X (.cons Q68 (.cons Q5t (.cons Q60 (.cons Q5M (.cons Q5q (.cons Q69 (.cons Q5P (.cons Q5l (.cons Q5k (.cons Q5m (.cons Q58 (.cons Q4Z (.cons Q4w (.cons Q4F (.cons Q4s (.cons Q4V (.cons Q5b (.cons Q4Q (.cons Q3v (.cons Q4o (.cons Q4W (.cons Q4G (.cons Q4y (.cons Q4v (.cons Q4S (.cons Q55 (.cons Q5h (.cons Q57 (.cons Q51 (.cons Q4E (.cons Q4L (.cons Q4A (.cons Q4C (.cons Q54 (.cons Q4J (.cons Q4p (.cons Q4z (.cons Q4x (.cons Q52 (.cons Q5c (.cons Q5f (.cons Q4u (.cons Q4r (.cons Q4n (.cons Q4R (.cons Q4q (.cons Q50 QI.nil))))))))))))))))))))))))))))))))))))))))))))))))))))))))))))))
theorem kt3:KeyT Tryz.prog 3 kI:=KeyT.int Tryz.underlying3
theorem kt9:KeyT Tryz.prog 9 kS:=KeyT.str Tryz.underlying9
theorem Q49:KeyT Tryz.prog 105 Kr:=KeyT.st (kc:=Zs) T Q4k (fun x y=>by
 obtain⟨x0,x1,x2⟩:=x;obtain⟨y0,y1,y2⟩:=y
 show some (((x0 == y0)&&((x1 == y1)&&((x2 == y2)&&true))))=some (decide _)
 congr 1;rw [Bool.eq_iff_iff];simp only [Bool.and_eq_true,beq_iff_eq,Q1F,decide_eq_true_eq,CbsPlace.mk.injEq,and_true]
 constructor <;> intro h <;> simp_all) rfl (fun _=>rfl) (fun _=>rfl)
theorem Q3u:KeyT Tryz.prog 107 Qa:=KeyT.ar (kc:=Yv) (rows:=fun x=>[x.e0,x.e1,x.e2,x.e3]) T (KeyD.st (kc:=Zs) T Q4k (fun x y=>by
 obtain⟨x0,x1,x2⟩:=x;obtain⟨y0,y1,y2⟩:=y
 show some (((x0 == y0)&&((x1 == y1)&&((x2 == y2)&&true))))=some (decide _)
 congr 1;rw [Bool.eq_iff_iff];simp only [Bool.and_eq_true,beq_iff_eq,Q1F,decide_eq_true_eq,CbsPlace.mk.injEq,and_true]
 constructor <;> intro h <;> simp_all) rfl (fun _=>rfl) (fun _=>rfl)) rfl rfl rfl (fun _=>rfl) (fun _=>rfl) (fun _=>rfl) (fun x y h=>by cases x;cases y;simpa using h)
theorem Q26:KeyT Tryz.prog 127 Qf:=KeyT.st (kc:=Q2R) T Q5Y (fun x y=>by
 obtain⟨x0,x1,x2⟩:=x;obtain⟨y0,y1,y2⟩:=y
 show some (((x0 == y0)&&((x1 == y1)&&((x2 == y2)&&true))))=some (decide _)
 congr 1;rw [Bool.eq_iff_iff];simp only [Bool.and_eq_true,beq_iff_eq,Q1F,decide_eq_true_eq,Kl.mk.injEq,and_true]
 constructor <;> intro h <;> simp_all) rfl (fun _=>rfl) (fun _=>rfl)
theorem zt3:Q1L Tryz.prog 3 veI 0:=⟨(.int .i64 0),fun w=>by kernel_rfl,fun _ _=>(.v _)⟩
theorem zt4:Q1L Tryz.prog 4 veB false:=⟨(.bool false),fun w=>by kernel_rfl,fun _ _=>(.v _)⟩
theorem zt83:Q1L Tryz.prog 83 GB []:=⟨(.slice none 0 0),fun w=>by kernel_rfl,fun _ _=>(.slNil _ _ _)⟩
theorem zt110:Q1L Tryz.prog 110 QD ({cost:=0,from_:=({e0:=({cell:=0,rest:=0,done:=false:CbsPlace}),e1:=({cell:=0,rest:=0,done:=false:CbsPlace}),e2:=({cell:=0,rest:=0,done:=false:CbsPlace}),e3:=({cell:=0,rest:=0,done:=false:CbsPlace}):Arr4CbsPlace}),acts:=({e0:=0,e1:=0,e2:=0,e3:=0:Arr4Int}):CbsStep}):=⟨.agg #[.int .i64 0,.int .i64 0,.int .i64 0,.bool false,.int .i64 0,.int .i64 0,.bool false,.int .i64 0,.int .i64 0,.bool false,.int .i64 0,.int .i64 0,.bool false,.int .i64 0,.int .i64 0,.int .i64 0,.int .i64 0],fun w=>by kernel_rfl,fun _ _=>(.v _)⟩
theorem zt187:Q1L Tryz.prog 187 K9 ({from_:=({cell:=0,rest:=0,done:=false:CbsPlace}),act:=0:CbsOrigin}):=⟨.agg #[.int .i64 0,.int .i64 0,.bool false,.int .i64 0],fun w=>by kernel_rfl,fun _ _=>(.v _)⟩
theorem mix:Tryz.prog.follows .mixedOrders=true:=by kernel_rfl
theorem en5:Q6 Tryz.prog 5:=fun args w=>Tryz.call5 args w
theorem en6:Q6 Tryz.prog 6:=fun args w=>Tryz.call6 args w
theorem en7:Q6 Tryz.prog 7:=fun args w=>Tryz.call7 args w
theorem en8:Q6 Tryz.prog 8:=fun args w=>Tryz.call8 args w
theorem en9:Q6 Tryz.prog 9:=fun args w=>Tryz.call9 args w
theorem en10:Q6 Tryz.prog 10:=fun args w=>Tryz.call10 args w
theorem en13:Q6 Tryz.prog 13:=fun args w=>Tryz.call13 args w
theorem en14:Q6 Tryz.prog 14:=fun args w=>Tryz.call14 args w
theorem en15:Q6 Tryz.prog 15:=fun args w=>Tryz.call15 args w
theorem en16:Q6 Tryz.prog 16:=fun args w=>Tryz.call16 args w
theorem en17:Q6 Tryz.prog 17:=fun args w=>Tryz.call17 args w
theorem en18:Q6 Tryz.prog 18:=fun args w=>Tryz.call18 args w
theorem en19:Q6 Tryz.prog 19:=fun args w=>Tryz.call19 args w
theorem en20:Q6 Tryz.prog 20:=fun args w=>Tryz.call20 args w
theorem en21:Q6 Tryz.prog 21:=fun args w=>Tryz.call21 args w
theorem en22:Q6 Tryz.prog 22:=fun args w=>Tryz.call22 args w
theorem en23:Q6 Tryz.prog 23:=fun args w=>Tryz.call23 args w
theorem en24:Q6 Tryz.prog 24:=fun args w=>Tryz.call24 args w
theorem en25:Q6 Tryz.prog 25:=fun args w=>Tryz.call25 args w
theorem en28:Q6 Tryz.prog 28:=fun args w=>Tryz.call28 args w
theorem en29:Q6 Tryz.prog 29:=fun args w=>Tryz.call29 args w
theorem en30:Q6 Tryz.prog 30:=fun args w=>Tryz.call30 args w
theorem en31:Q6 Tryz.prog 31:=fun args w=>Tryz.call31 args w
theorem en32:Q6 Tryz.prog 32:=fun args w=>Tryz.call32 args w
theorem en33:Q6 Tryz.prog 33:=fun args w=>Tryz.call33 args w
theorem en34:Q6 Tryz.prog 34:=fun args w=>Tryz.call34 args w
theorem en35:Q6 Tryz.prog 35:=fun args w=>Tryz.call35 args w
theorem en36:Q6 Tryz.prog 36:=fun args w=>Tryz.call36 args w
theorem en37:Q6 Tryz.prog 37:=fun args w=>Tryz.call37 args w
theorem en38:Q6 Tryz.prog 38:=fun args w=>Tryz.call38 args w
theorem en39:Q6 Tryz.prog 39:=fun args w=>Tryz.call39 args w
theorem en40:Q6 Tryz.prog 40:=fun args w=>Tryz.call40 args w
theorem en41:Q6 Tryz.prog 41:=fun args w=>Tryz.call41 args w
theorem en42:Q6 Tryz.prog 42:=fun args w=>Tryz.call42 args w
theorem en43:Q6 Tryz.prog 43:=fun args w=>Tryz.call43 args w
theorem en44:Q6 Tryz.prog 44:=fun args w=>Tryz.call44 args w
theorem en45:Q6 Tryz.prog 45:=fun args w=>Tryz.call45 args w
theorem en46:Q6 Tryz.prog 46:=fun args w=>Tryz.call46 args w
theorem en47:Q6 Tryz.prog 47:=fun args w=>Tryz.call47 args w
theorem en48:Q6 Tryz.prog 48:=fun args w=>Tryz.call48 args w
theorem en49:Q6 Tryz.prog 49:=fun args w=>Tryz.call49 args w
theorem en50:Q6 Tryz.prog 50:=fun args w=>Tryz.call50 args w
theorem en51:Q6 Tryz.prog 51:=fun args w=>Tryz.call51 args w
theorem en52:Q6 Tryz.prog 52:=fun args w=>Tryz.call52 args w
theorem en53:Q6 Tryz.prog 53:=fun args w=>Tryz.call53 args w
theorem en54:Q6 Tryz.prog 54:=fun args w=>Tryz.call54 args w
theorem en55:Q6 Tryz.prog 55:=fun args w=>Tryz.call55 args w
theorem en56:Q6 Tryz.prog 56:=fun args w=>Tryz.call56 args w
theorem en57:Q6 Tryz.prog 57:=fun args w=>Tryz.call57 args w
theorem en58:Q6 Tryz.prog 58:=fun args w=>Tryz.call58 args w
theorem en59:Q6 Tryz.prog 59:=fun args w=>Tryz.call59 args w
theorem en60:Q6 Tryz.prog 60:=fun args w=>Tryz.call60 args w
theorem en61:Q6 Tryz.prog 61:=fun args w=>Tryz.call61 args w
theorem en62:Q6 Tryz.prog 62:=fun args w=>Tryz.call62 args w
theorem en77:Q6 Tryz.prog 77:=fun args w=>Tryz.call77 args w
theorem en78:Q6 Tryz.prog 78:=fun args w=>Tryz.call78 args w
theorem en79:Q6 Tryz.prog 79:=fun args w=>Tryz.call79 args w
theorem en80:Q6 Tryz.prog 80:=fun args w=>Tryz.call80 args w
theorem en81:Q6 Tryz.prog 81:=fun args w=>Tryz.call81 args w
theorem en82:Q6 Tryz.prog 82:=fun args w=>Tryz.call82 args w
theorem en83:Q6 Tryz.prog 83:=fun args w=>Tryz.call83 args w
theorem en84:Q6 Tryz.prog 84:=fun args w=>Tryz.call84 args w
theorem en85:Q6 Tryz.prog 85:=fun args w=>Tryz.call85 args w
theorem en86:Q6 Tryz.prog 86:=fun args w=>Tryz.call86 args w
theorem en87:Q6 Tryz.prog 87:=fun args w=>Tryz.call87 args w
theorem en88:Q6 Tryz.prog 88:=fun args w=>Tryz.call88 args w
theorem en89:Q6 Tryz.prog 89:=fun args w=>Tryz.call89 args w
theorem en90:Q6 Tryz.prog 90:=fun args w=>Tryz.call90 args w
theorem en91:Q6 Tryz.prog 91:=fun args w=>Tryz.call91 args w
theorem en92:Q6 Tryz.prog 92:=fun args w=>Tryz.call92 args w
theorem en93:Q6 Tryz.prog 93:=fun args w=>Tryz.call93 args w
theorem en94:Q6 Tryz.prog 94:=fun args w=>Tryz.call94 args w
theorem en95:Q6 Tryz.prog 95:=fun args w=>Tryz.call95 args w
theorem en96:Q6 Tryz.prog 96:=fun args w=>Tryz.call96 args w
theorem en97:Q6 Tryz.prog 97:=fun args w=>Tryz.call97 args w
theorem en98:Q6 Tryz.prog 98:=fun args w=>Tryz.call98 args w
theorem en99:Q6 Tryz.prog 99:=fun args w=>Tryz.call99 args w
theorem Q6A:Q6 Tryz.prog 100:=fun args w=>Tryz.call100 args w
theorem Q6B:Q6 Tryz.prog 101:=fun args w=>Tryz.call101 args w
theorem Q4M:Q6 Tryz.prog 102:=fun args w=>Tryz.call102 args w
theorem Q6I:Q6 Tryz.prog 103:=fun args w=>Tryz.call103 args w
theorem Q67:Q6 Tryz.prog 104:=fun args w=>Tryz.call104 args w
theorem Q6N:Q6 Tryz.prog 105:=fun args w=>Tryz.call105 args w
theorem Q37:Q6 Tryz.prog 106:=fun args w=>Tryz.call106 args w
theorem Q5e:Q6 Tryz.prog 109:=fun args w=>Tryz.call109 args w
theorem Q5z:Q6 Tryz.prog 110:=fun args w=>Tryz.call110 args w
theorem Q6b:Q6 Tryz.prog 111:=fun args w=>Tryz.call111 args w
theorem Q6m:Q6 Tryz.prog 112:=fun args w=>Tryz.call112 args w
theorem Q6x:Q6 Tryz.prog 113:=fun args w=>Tryz.call113 args w
theorem Q5s:Q6 Tryz.prog 136:=fun args w=>Tryz.call136 args w
theorem Q6C:Q6 Tryz.prog 137:=fun args w=>Tryz.call137 args w
theorem Q5Q:Q6 Tryz.prog 141:=fun args w=>Tryz.call141 args w
theorem Q6l:Q6 Tryz.prog 142:=fun args w=>Tryz.call142 args w
theorem Q6R:Q6 Tryz.prog 143:=fun args w=>Tryz.call143 args w
theorem Q6h:Q6 Tryz.prog 144:=fun args w=>Tryz.call144 args w
theorem Q6w:Q6 Tryz.prog 145:=fun args w=>Tryz.call145 args w
theorem Q6M:Q6 Tryz.prog 147:=fun args w=>Tryz.call147 args w
theorem Q6q:Q6 Tryz.prog 148:=fun args w=>Tryz.call148 args w
theorem Q62:Q6 Tryz.prog 150:=fun args w=>Tryz.call150 args w
theorem Q6z:Q6 Tryz.prog 151:=fun args w=>Tryz.call151 args w
theorem Q5D:Q6 Tryz.prog 152:=fun args w=>Tryz.call152 args w
theorem Q6Q:Q6 Tryz.prog 153:=fun args w=>Tryz.call153 args w
theorem Q6H:Q6 Tryz.prog 180:=fun args w=>Tryz.call180 args w
theorem Q6E:Q6 Tryz.prog 186:=fun args w=>Tryz.call186 args w
theorem Q5W:Q6 Tryz.prog 187:=fun args w=>Tryz.call187 args w
theorem Q6c:Q6 Tryz.prog 210:=fun args w=>Tryz.call210 args w
theorem op3:QN Tryz.prog 3 eI I64:=QN.i64 Tryz.underlying3
theorem op22:QN Tryz.prog 22 eLeI (OkL I64):=QN.slice Tryz.underlying22 (n:=1) (by kernel_rfl) (by decide) op3
theorem op24:QN Tryz.prog 24 K5 Q0U:=fun enc w held fuel cells d ps ht=>by
 obtain⟨fuel',hl,hf⟩:=QN.st (N:=5) Tryz.underlying24 (by kernel_rfl) ht
 obtain⟨x0,k0,l0,c0⟩:=QN.fld op3 (n:=1) (off:=0) (by kernel_rfl) (by omega) (hf _ (List.mem_of_getElem? (i:=0) rfl))
 obtain⟨x1,k1,l1,c1⟩:=QN.fld op3 (n:=1) (off:=1) (by kernel_rfl) (by omega) (hf _ (List.mem_of_getElem? (i:=1) rfl))
 obtain⟨x2,k2,l2,c2⟩:=QN.fld op3 (n:=1) (off:=2) (by kernel_rfl) (by omega) (hf _ (List.mem_of_getElem? (i:=2) rfl))
 obtain⟨x3,k3,l3,c3⟩:=QN.fld op22 (n:=1) (off:=3) (by kernel_rfl) (by omega) (hf _ (List.mem_of_getElem? (i:=3) rfl))
 obtain⟨x4,k4,l4,c4⟩:=QN.fld op22 (n:=1) (off:=4) (by kernel_rfl) (by omega) (hf _ (List.mem_of_getElem? (i:=4) rfl))
 have hc:Cov w cells 0 (K5 ⟨x0,x1,x2,x3,x4⟩):=(c0.app (c1.app (c2.app (c3.app (c4.app Cov.nil)))))
 exact⟨⟨x0,x1,x2,x3,x4⟩,⟨k0,k1,k2,k3,k4⟩,by rw [hl];rfl,fun j A v hA hv=>hc j A v hA (by simpa using hv)⟩
theorem op9:QN Tryz.prog 9 eS OkS:=QN.str Tryz.underlying9
theorem Q6i:QN Tryz.prog 165 X7 Q0z:=fun enc w held fuel cells d ps ht=>by
 obtain⟨fuel',hl,hf⟩:=QN.st (N:=2) Tryz.underlying165 (by kernel_rfl) ht
 obtain⟨x0,k0,l0,c0⟩:=QN.fld op3 (n:=1) (off:=0) (by kernel_rfl) (by omega) (hf _ (List.mem_of_getElem? (i:=0) rfl))
 obtain⟨x1,k1,l1,c1⟩:=QN.fld op3 (n:=1) (off:=1) (by kernel_rfl) (by omega) (hf _ (List.mem_of_getElem? (i:=1) rfl))
 have hc:Cov w cells 0 (X7 ⟨x0,x1⟩):=(c0.app (c1.app Cov.nil))
 exact⟨⟨x0,x1⟩,⟨k0,k1⟩,by rw [hl];rfl,fun j A v hA hv=>hc j A v hA (by simpa using hv)⟩
theorem op83:QN Tryz.prog 83 Q2W (OkL Q0z):=QN.slice Tryz.underlying83 (n:=2) (by kernel_rfl) (by decide) Q6i
theorem op85:QN Tryz.prog 85 Q3 Q0m:=fun enc w held fuel cells d ps ht=>by
 obtain⟨fuel',hl,hf⟩:=QN.st (N:=5) Tryz.underlying85 (by kernel_rfl) ht
 obtain⟨x0,k0,l0,c0⟩:=QN.fld op9 (n:=1) (off:=0) (by kernel_rfl) (by omega) (hf _ (List.mem_of_getElem? (i:=0) rfl))
 obtain⟨x1,k1,l1,c1⟩:=QN.fld op22 (n:=1) (off:=1) (by kernel_rfl) (by omega) (hf _ (List.mem_of_getElem? (i:=1) rfl))
 obtain⟨x2,k2,l2,c2⟩:=QN.fld op3 (n:=1) (off:=2) (by kernel_rfl) (by omega) (hf _ (List.mem_of_getElem? (i:=2) rfl))
 obtain⟨x3,k3,l3,c3⟩:=QN.fld op3 (n:=1) (off:=3) (by kernel_rfl) (by omega) (hf _ (List.mem_of_getElem? (i:=3) rfl))
 obtain⟨x4,k4,l4,c4⟩:=QN.fld op83 (n:=1) (off:=4) (by kernel_rfl) (by omega) (hf _ (List.mem_of_getElem? (i:=4) rfl))
 have hc:Cov w cells 0 (Q3 ⟨x0,x1,x2,x3,x4⟩):=(c0.app (c1.app (c2.app (c3.app (c4.app Cov.nil)))))
 exact⟨⟨x0,x1,x2,x3,x4⟩,⟨k0,k1,k2,k3,k4⟩,by rw [hl];rfl,fun j A v hA hv=>hc j A v hA (by simpa using hv)⟩
theorem op25:QN Tryz.prog 25 Q2U (OkL Q0m):=QN.slice Tryz.underlying25 (n:=5) (by kernel_rfl) (by decide) op85
theorem op87:QN Tryz.prog 87 Q0 Zx:=fun enc w held fuel cells d ps ht=>by
 obtain⟨fuel',hl,hf⟩:=QN.st (N:=2) Tryz.underlying87 (by kernel_rfl) ht
 obtain⟨x0,k0,l0,c0⟩:=QN.fld op9 (n:=1) (off:=0) (by kernel_rfl) (by omega) (hf _ (List.mem_of_getElem? (i:=0) rfl))
 obtain⟨x1,k1,l1,c1⟩:=QN.fld op9 (n:=1) (off:=1) (by kernel_rfl) (by omega) (hf _ (List.mem_of_getElem? (i:=1) rfl))
 have hc:Cov w cells 0 (Q0 ⟨x0,x1⟩):=(c0.app (c1.app Cov.nil))
 exact⟨⟨x0,x1⟩,⟨k0,k1⟩,by rw [hl];rfl,fun j A v hA hv=>hc j A v hA (by simpa using hv)⟩
theorem op26:QN Tryz.prog 26 Q2p (OkL Zx):=QN.slice Tryz.underlying26 (n:=2) (by kernel_rfl) (by decide) op87
theorem op89:QN Tryz.prog 89 Q1 Ze:=fun enc w held fuel cells d ps ht=>by
 obtain⟨fuel',hl,hf⟩:=QN.st (N:=2) Tryz.underlying89 (by kernel_rfl) ht
 obtain⟨x0,k0,l0,c0⟩:=QN.fld op3 (n:=1) (off:=0) (by kernel_rfl) (by omega) (hf _ (List.mem_of_getElem? (i:=0) rfl))
 obtain⟨x1,k1,l1,c1⟩:=QN.fld op9 (n:=1) (off:=1) (by kernel_rfl) (by omega) (hf _ (List.mem_of_getElem? (i:=1) rfl))
 have hc:Cov w cells 0 (Q1 ⟨x0,x1⟩):=(c0.app (c1.app Cov.nil))
 exact⟨⟨x0,x1⟩,⟨k0,k1⟩,by rw [hl];rfl,fun j A v hA hv=>hc j A v hA (by simpa using hv)⟩
theorem op27:QN Tryz.prog 27 Q2r (OkL Ze):=QN.slice Tryz.underlying27 (n:=2) (by kernel_rfl) (by decide) op89
theorem op71:QN Tryz.prog 71 Q2 Zy:=fun enc w held fuel cells d ps ht=>by
 obtain⟨fuel',hl,hf⟩:=QN.st (N:=2) Tryz.underlying71 (by kernel_rfl) ht
 obtain⟨x0,k0,l0,c0⟩:=QN.fld op3 (n:=1) (off:=0) (by kernel_rfl) (by omega) (hf _ (List.mem_of_getElem? (i:=0) rfl))
 obtain⟨x1,k1,l1,c1⟩:=QN.fld op3 (n:=1) (off:=1) (by kernel_rfl) (by omega) (hf _ (List.mem_of_getElem? (i:=1) rfl))
 have hc:Cov w cells 0 (Q2 ⟨x0,x1⟩):=(c0.app (c1.app Cov.nil))
 exact⟨⟨x0,x1⟩,⟨k0,k1⟩,by rw [hl];rfl,fun j A v hA hv=>hc j A v hA (by simpa using hv)⟩
theorem op28:QN Tryz.prog 28 Q2f (OkL Zy):=QN.slice Tryz.underlying28 (n:=2) (by kernel_rfl) (by decide) op71
theorem op30:QN Tryz.prog 30 Q9 OkApiSite:=fun enc w held fuel cells d ps ht=>by
 obtain⟨fuel',hl,hf⟩:=QN.st (N:=9) Tryz.underlying30 (by kernel_rfl) ht
 obtain⟨x0,k0,l0,c0⟩:=QN.fld op24 (n:=5) (off:=0) (by kernel_rfl) (by omega) (hf _ (List.mem_of_getElem? (i:=0) rfl))
 obtain⟨x1,k1,l1,c1⟩:=QN.fld op25 (n:=1) (off:=5) (by kernel_rfl) (by omega) (hf _ (List.mem_of_getElem? (i:=1) rfl))
 obtain⟨x2,k2,l2,c2⟩:=QN.fld op26 (n:=1) (off:=6) (by kernel_rfl) (by omega) (hf _ (List.mem_of_getElem? (i:=2) rfl))
 obtain⟨x3,k3,l3,c3⟩:=QN.fld op27 (n:=1) (off:=7) (by kernel_rfl) (by omega) (hf _ (List.mem_of_getElem? (i:=3) rfl))
 obtain⟨x4,k4,l4,c4⟩:=QN.fld op28 (n:=1) (off:=8) (by kernel_rfl) (by omega) (hf _ (List.mem_of_getElem? (i:=4) rfl))
 have hc:Cov w cells 0 (Q9 ⟨x0,x1,x2,x3,x4⟩):=(c0.app (c1.app (c2.app (c3.app (c4.app Cov.nil)))))
 exact⟨⟨x0,x1,x2,x3,x4⟩,⟨k0,k1,k2,k3,k4⟩,by rw [hl];rfl,fun j A v hA hv=>hc j A v hA (by simpa using hv)⟩
theorem op48:QN Tryz.prog 48 Q4 Q0k:=fun enc w held fuel cells d ps ht=>by
 obtain⟨fuel',hl,hf⟩:=QN.st (N:=2) Tryz.underlying48 (by kernel_rfl) ht
 obtain⟨x0,k0,l0,c0⟩:=QN.fld op3 (n:=1) (off:=0) (by kernel_rfl) (by omega) (hf _ (List.mem_of_getElem? (i:=0) rfl))
 obtain⟨x1,k1,l1,c1⟩:=QN.fld op3 (n:=1) (off:=1) (by kernel_rfl) (by omega) (hf _ (List.mem_of_getElem? (i:=1) rfl))
 have hc:Cov w cells 0 (Q4 ⟨x0,x1⟩):=(c0.app (c1.app Cov.nil))
 exact⟨⟨x0,x1⟩,⟨k0,k1⟩,by rw [hl];rfl,fun j A v hA hv=>hc j A v hA (by simpa using hv)⟩
theorem op31:QN Tryz.prog 31 Q2T (OkL Q0k):=QN.slice Tryz.underlying31 (n:=2) (by kernel_rfl) (by decide) op48
end Go.Proofs.YtpckofngkabgbaaGreat
