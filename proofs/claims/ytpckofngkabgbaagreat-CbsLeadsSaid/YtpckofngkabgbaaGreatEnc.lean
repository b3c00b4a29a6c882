/- The encodings of the data, and the types' table (written by a program of the prover). -/
import Derived.Test.YtpckofngkabgbaaGreatM3
import Derived.Test.YtpckofngkabgbaaGreatChecked
import Derived.RangeFuncLeaves
import Derived.WalkKit
import Derived.OwnWalkIn
import Derived.TacticsInMore
import Derived.LoopNIn
import Derived.LoopIn
import Derived.Lib.Walk
import Derived.Laws.Externs
import Derived.Laws.IdiomCopy
import Derived.Deep.RegionLaw
import Derived.IntWalk
import Derived.KernelRfl
set_option maxRecDepth 100000
set_option maxHeartbeats 8000000
set_option linter.unusedVariables false
set_option linter.unusedSimpArgs false
namespace Go.Proofs.YtpckofngkabgbaaGreat
open Go Go.Taq Tryz
@[reducible] def eI(x:Int):List AVal:=[.i x]
@[reducible] def Gj(x:Kf):List AVal:=[.i x.Aa,.i x.To]
@[reducible] def Q8(x:K7):List AVal:=[.v (.string x.Ag),.sl 1 eI x.A5,.i x.Ap,.i x.Ab,.sl 2 Gj x.Am]
@[reducible] def Q3(x:Qp):List AVal:=[.v (.string x.A),.v (.string x.B)]
@[reducible] def Q6(x:K4):List AVal:=[.i x.A4,.v (.string x.A7)]
@[reducible] def Q4(x:QV):List AVal:=[.i x.A4,.i x.A6]
@[reducible] def Q9(x:Qu):List AVal:=[.i x.Aa,.i x.To]
@[reducible] def eLeI(x:List Int):List AVal:=[.sl 1 eI x]
def kI(x:Int):Value:=.int .i64 x
def veB(x:Bool):AVal:=.b x
@[reducible] def Qa(x:Q5):List AVal:=[.i x.A9.W,.i x.A9.H,.i x.A9.D,.sl 1 eI x.A9.Ac,.sl 1 eI x.A9.Ah,.sl 5 Q8 x.Au,.sl 2 Q3 x.A3,.sl 2 Q6 x.Al,.sl 2 Q4 x.Ak]
@[reducible] def Qt(x:Q1):List AVal:=[.i x.cell,.i x.Ba,.b x.B4]
def Q2A(x:Q1):List Value:=[.int .i64 x.cell,.int .i64 x.Ba,.bool x.B4]
def Xa(x:Q1):Value:=.agg (Q2A x).toArray
def Q1m(x:Q0):List Value:=[.int .i64 x.e0.cell,.int .i64 x.e0.Ba,.bool x.e0.B4,.int .i64 x.e1.cell,.int .i64 x.e1.Ba,.bool x.e1.B4,.int .i64 x.e2.cell,.int .i64 x.e2.Ba,.bool x.e2.B4,.int .i64 x.e3.cell,.int .i64 x.e3.Ba,.bool x.e3.B4]
def Qn(x:Q0):Value:=.agg (Q1m x).toArray
def Kc(x:Qb):AVal:=.v (.agg #[.int .i64 x.Az,.int .i64 x.B5.e0.cell,.int .i64 x.B5.e0.Ba,.bool x.B5.e0.B4,.int .i64 x.B5.e1.cell,.int .i64 x.B5.e1.Ba,.bool x.B5.e1.B4,.int .i64 x.B5.e2.cell,.int .i64 x.B5.e2.Ba,.bool x.B5.e2.B4,.int .i64 x.B5.e3.cell,.int .i64 x.B5.e3.Ba,.bool x.B5.e3.B4,.int .i64 x.Aw.e0,.int .i64 x.Aw.e1,.int .i64 x.Aw.e2,.int .i64 x.Aw.e3])
@[reducible] def Qx(x:List (Q0×Qb)):List AVal:=[.om Qn Kc x]
@[reducible] def Xi(x:Q0):List AVal:=[.i x.e0.cell,.i x.e0.Ba,.b x.e0.B4,.i x.e1.cell,.i x.e1.Ba,.b x.e1.B4,.i x.e2.cell,.i x.e2.Ba,.b x.e2.B4,.i x.e3.cell,.i x.e3.Ba,.b x.e3.B4]
@[reducible] def KM(x:Qb):List AVal:=[.i x.Az,.i x.B5.e0.cell,.i x.B5.e0.Ba,.b x.B5.e0.B4,.i x.B5.e1.cell,.i x.B5.e1.Ba,.b x.B5.e1.B4,.i x.B5.e2.cell,.i x.B5.e2.Ba,.b x.B5.e2.B4,.i x.B5.e3.cell,.i x.B5.e3.Ba,.b x.B5.e3.B4,.i x.Aw.e0,.i x.Aw.e1,.i x.Aw.e2,.i x.Aw.e3]
@[reducible] def KA(x:KV):List AVal:=[.i x.Av,.i x.Bi.cell,.i x.Bi.Ba,.b x.Bi.B4]
@[reducible] def QX(x:Qe):List AVal:=[.i x.W,.i x.H,.i x.D,.sl 1 eI x.Ac,.sl 1 eI x.Ah]
@[reducible] def Q82(x:KX):List AVal:=[.i x.x,.i x.y,.i x.z]
@[reducible] def eOeI(x:List Int):List AVal:=[.os 1 eI x]
def Q7w(x:X5):List Value:=[.int .i64 x.Bb,.int .i64 x.cell,.int .i64 x.Bh]
def Qy(x:X5):Value:=.agg (Q7w x).toArray
@[reducible] def KB(x:X5):List AVal:=[.i x.Bb,.i x.cell,.i x.Bh]
def KQ(x:Qw):AVal:=.v (.agg #[.int .i64 x.B5.cell,.int .i64 x.B5.Ba,.bool x.B5.B4,.int .i64 x.Av])
@[reducible] def QG(x:List (Q1×Qw)):List AVal:=[.om Xa KQ x]
@[reducible] def KZ(x:K6):List AVal:=[.rm Qy veB x.Ay,.sl 1 eLeI x.B9]
@[reducible] def Gf(x:Zt):List AVal:=[.i x.a,.i x.b,.i x.Bh,.i x.cell]
def veI(x:Int):AVal:=.i x
def kS(x:ByteArray):Value:=.string x
@[reducible] def Q0v(x:G9):List AVal:=[.i x.A4,.i x.Ao.Aa,.i x.Ao.To]
def WY(x:List Kf):AVal:=.os 2 Gj x
@[reducible] def Q8f(x:List Kf):List AVal:=[.sl 2 Gj x]
def Yx(x:List Kf):AVal:=.sl 2 Gj x
@[reducible] def Qj(x:Q2):List AVal:=[.i x.A4,.i x.Ae,.i x.A6,.i x.Aj,.i x.Af,.b x.A8]
@[reducible] def Qr(x:Qd):List AVal:=[.i x.A4,.i x.Ad]
@[reducible] def Qg(x:Q7):List AVal:=[.i x.Ar,.sl 1 eI x.Al,.sl 6 Qj x.Ak,.sl 1 eI x.Ai,.sl 1 eI x.A8,.sl 2 Qr x.Aq]
def Q4B(x:Qp):List Value:=[.string x.A,.string x.B]
def Q02(x:Qp):Value:=.agg (Q4B x).toArray
@[reducible] def Q0A(x:Kk):List AVal:=[.i x.Ac,.i x.A,.i x.N]
@[reducible] def eS(x:ByteArray):List AVal:=[.v (.string x)]
@[reducible] def Q8m(x:List K7):List AVal:=[.sl 5 Q8 x]
@[reducible] def Q6P(x:List Qp):List AVal:=[.sl 2 Q3 x]
@[reducible] def Q7p(x:List K4):List AVal:=[.sl 2 Q6 x]
@[reducible] def Q7a(x:List QV):List AVal:=[.sl 2 Q4 x]
@[reducible] def Q8e(x:List Qu):List AVal:=[.sl 2 Q9 x]
@[reducible] def QcD(x:List (List Int)):List AVal:=[.sl 1 eLeI x]
def te3:TE:=⟨.int .i64,1,8,[.int .i64 0]⟩
theorem teok3:TEok prog 3 te3:=.k t3 underlying3
def te4:TE:=⟨.bool,1,1,[.bool false]⟩
theorem teok4:TEok prog 4 te4:=.k t4 underlying4
def te5:TE:=⟨.int .u8,1,1,[.int .u8 0]⟩
theorem teok5:TEok prog 5 te5:=.k t5 underlying5
def te9:TE:=⟨.str,1,16,[.string ByteArray.empty]⟩
theorem teok9:TEok prog 9 te9:=.k t9 underlying9
def te22:TE:=⟨.sl 3,1,24,[.slice none 0 0]⟩
theorem QcR:TEok prog 22 te22:=.k t22 underlying22
def te24:TE:=⟨.st [(0,3),(1,3),(2,3),(3,22),(4,22)],5,72,[.int .i64 0,.int .i64 0,.int .i64 0,.slice none 0 0,.slice none 0 0]⟩
theorem QcS:TEok prog 24 te24:=.k t24 underlying24
def te25:TE:=⟨.sl 85,1,24,[.slice none 0 0]⟩
theorem QbS:TEok prog 25 te25:=.k t25 underlying25
def te26:TE:=⟨.sl 87,1,24,[.slice none 0 0]⟩
theorem Qci:TEok prog 26 te26:=.k t26 underlying26
def te27:TE:=⟨.sl 89,1,24,[.slice none 0 0]⟩
theorem Qco:TEok prog 27 te27:=.k t27 underlying27
def te28:TE:=⟨.sl 71,1,24,[.slice none 0 0]⟩
theorem QcA:TEok prog 28 te28:=.k t28 underlying28
def te30:TE:=⟨.st [(0,24),(5,25),(6,26),(7,27),(8,28)],9,168,[.int .i64 0,.int .i64 0,.int .i64 0,.slice none 0 0,.slice none 0 0,.slice none 0 0,.slice none 0 0,.slice none 0 0,.slice none 0 0]⟩
theorem QbY:TEok prog 30 te30:=.k t30 underlying30
def te31:TE:=⟨.sl 48,1,24,[.slice none 0 0]⟩
theorem QcM:TEok prog 31 te31:=.k t31 underlying31
def te34:TE:=⟨.sl 22,1,24,[.slice none 0 0]⟩
theorem Qc0:TEok prog 34 te34:=.k t34 underlying34
def te35:TE:=⟨.int .i64,1,8,[.int .i64 0]⟩
theorem Qc1:TEok prog 35 te35:=.k t35 underlying35
def te48:TE:=⟨.st [(0,3),(1,3)],2,16,[.int .i64 0,.int .i64 0]⟩
theorem Qc7:TEok prog 48 te48:=.k t48 underlying48
def te55:TE:=⟨.pt 57,1,8,[.pointer none]⟩
theorem Qcu:TEok prog 55 te55:=.k t55 underlying55
def te57:TE:=⟨.st [(0,30),(9,31),(10,3),(11,22),(12,3)],13,232,[.int .i64 0,.int .i64 0,.int .i64 0,.slice none 0 0,.slice none 0 0,.slice none 0 0,.slice none 0 0,.slice none 0 0,.slice none 0 0,.slice none 0 0,.int .i64 0,.slice none 0 0,.int .i64 0]⟩
theorem QcE:TEok prog 57 te57:=.k t57 underlying57
def te59:TE:=⟨.mp 3 4,1,8,[.map none]⟩
theorem Qcc:TEok prog 59 te59:=.k t59 underlying59
def te63:TE:=⟨.st [(0,3),(1,3),(2,3),(3,3)],4,32,[.int .i64 0,.int .i64 0,.int .i64 0,.int .i64 0]⟩
theorem Qcv:TEok prog 63 te63:=.k t63 underlying63
def te66:TE:=⟨.sl 73,1,24,[.slice none 0 0]⟩
theorem QbX:TEok prog 66 te66:=.k t66 underlying66
def te67:TE:=⟨.sl 206,1,24,[.slice none 0 0]⟩
theorem QcN:TEok prog 67 te67:=.k t67 underlying67
def te69:TE:=⟨.st [(0,3),(1,22),(2,66),(3,22),(4,22),(5,67)],6,128,[.int .i64 0,.slice none 0 0,.slice none 0 0,.slice none 0 0,.slice none 0 0,.slice none 0 0]⟩
theorem Qcj:TEok prog 69 te69:=.k t69 underlying69
def te71:TE:=⟨.st [(0,3),(1,3)],2,16,[.int .i64 0,.int .i64 0]⟩
theorem Qcr:TEok prog 71 te71:=.k t71 underlying71
def te73:TE:=⟨.st [(0,3),(1,3),(2,3),(3,3),(4,3),(5,4)],6,48,[.int .i64 0,.int .i64 0,.int .i64 0,.int .i64 0,.int .i64 0,.bool false]⟩
theorem Qd2:TEok prog 73 te73:=.k t73 underlying73
def te78:TE:=⟨.st [(0,3),(1,3),(2,3)],3,24,[.int .i64 0,.int .i64 0,.int .i64 0]⟩
theorem Qcg:TEok prog 78 te78:=.k t78 underlying78
def te83:TE:=⟨.sl 165,1,24,[.slice none 0 0]⟩
theorem QcI:TEok prog 83 te83:=.k t83 underlying83
def te85:TE:=⟨.st [(0,9),(1,22),(2,3),(3,3),(4,83)],5,80,[.string ByteArray.empty,.slice none 0 0,.int .i64 0,.int .i64 0,.slice none 0 0]⟩
theorem Qck:TEok prog 85 te85:=.k t85 underlying85
def te87:TE:=⟨.st [(0,9),(1,9)],2,32,[.string ByteArray.empty,.string ByteArray.empty]⟩
theorem QcQ:TEok prog 87 te87:=.k t87 underlying87
def te89:TE:=⟨.st [(0,3),(1,9)],2,24,[.int .i64 0,.string ByteArray.empty]⟩
theorem QcW:TEok prog 89 te89:=.k t89 underlying89
def te92:TE:=⟨.pt 163,1,8,[.pointer none]⟩
theorem Qcx:TEok prog 92 te92:=.k t92 underlying92
def te105:TE:=⟨.st [(0,3),(1,3),(2,4)],3,24,[.int .i64 0,.int .i64 0,.bool false]⟩
theorem Qbt:TEok prog 105 te105:=.k t105 underlying105
def te107:TE:=⟨.ar 4 105,12,96,[.int .i64 0,.int .i64 0,.bool false,.int .i64 0,.int .i64 0,.bool false,.int .i64 0,.int .i64 0,.bool false,.int .i64 0,.int .i64 0,.bool false]⟩
theorem Qb7:TEok prog 107 te107:=.k t107 underlying107
def te108:TE:=⟨.ar 4 3,4,32,[.int .i64 0,.int .i64 0,.int .i64 0,.int .i64 0]⟩
theorem QaW:TEok prog 108 te108:=.k t108 underlying108
def te110:TE:=⟨.st [(0,3),(1,107),(13,108)],17,136,[.int .i64 0,.int .i64 0,.int .i64 0,.bool false,.int .i64 0,.int .i64 0,.bool false,.int .i64 0,.int .i64 0,.bool false,.int .i64 0,.int .i64 0,.bool false,.int .i64 0,.int .i64 0,.int .i64 0,.int .i64 0]⟩
theorem QaZ:TEok prog 110 te110:=.k t110 underlying110
def te111:TE:=⟨.mp 107 110,1,8,[.map none]⟩
theorem QbA:TEok prog 111 te111:=.k t111 underlying111
def te112:TE:=⟨.sl 111,1,24,[.slice none 0 0]⟩
theorem Qb6:TEok prog 112 te112:=.k t112 underlying112
def te113:TE:=⟨.sl 107,1,24,[.slice none 0 0]⟩
theorem QaP:TEok prog 113 te113:=.k t113 underlying113
def te118:TE:=⟨.mp 127 4,1,8,[.map none]⟩
theorem QbE:TEok prog 118 te118:=.k t118 underlying118
def te120:TE:=⟨.st [(0,118),(1,34)],2,32,[.map none,.slice none 0 0]⟩
theorem Q9Q:TEok prog 120 te120:=.k t120 underlying120
def te123:TE:=⟨.sl 120,1,24,[.slice none 0 0]⟩
theorem QbO:TEok prog 123 te123:=.k t123 underlying123
def te127:TE:=⟨.st [(0,3),(1,3),(2,3)],3,24,[.int .i64 0,.int .i64 0,.int .i64 0]⟩
theorem Qbo:TEok prog 127 te127:=.k t127 underlying127
def te129:TE:=⟨.fn,1,8,[.nilFunc]⟩
theorem QbQ:TEok prog 129 te129:=.k t129 underlying129
def te131:TE:=⟨.sl 198,1,24,[.slice none 0 0]⟩
theorem QbJ:TEok prog 131 te131:=.k t131 underlying131
def te132:TE:=⟨.fn,1,8,[.nilFunc]⟩
theorem QbH:TEok prog 132 te132:=.k t132 underlying132
def te135:TE:=⟨.mp 3 83,1,8,[.map none]⟩
theorem QbG:TEok prog 135 te135:=.k t135 underlying135
def te137:TE:=⟨.st [(0,30),(9,3),(10,22),(11,135)],12,208,[.int .i64 0,.int .i64 0,.int .i64 0,.slice none 0 0,.slice none 0 0,.slice none 0 0,.slice none 0 0,.slice none 0 0,.slice none 0 0,.int .i64 0,.slice none 0 0,.map none]⟩
theorem Qb1:TEok prog 137 te137:=.k t137 underlying137
def te140:TE:=⟨.st [(0,3),(1,3)],2,16,[.int .i64 0,.int .i64 0]⟩
theorem Qb4:TEok prog 140 te140:=.k t140 underlying140
def te160:TE:=⟨.mp 3 3,1,8,[.map none]⟩
theorem Qbi:TEok prog 160 te160:=.k t160 underlying160
def te161:TE:=⟨.mp 9 3,1,8,[.map none]⟩
theorem Qbx:TEok prog 161 te161:=.k t161 underlying161
def te163:TE:=⟨.st [(0,30),(9,160),(10,59),(11,59),(12,161),(13,59),(14,22),(15,22)],16,256,[.int .i64 0,.int .i64 0,.int .i64 0,.slice none 0 0,.slice none 0 0,.slice none 0 0,.slice none 0 0,.slice none 0 0,.slice none 0 0,.map none,.map none,.map none,.map none,.map none,.slice none 0 0,.slice none 0 0]⟩
theorem Qbq:TEok prog 163 te163:=.k t163 underlying163
def te165:TE:=⟨.st [(0,3),(1,3)],2,16,[.int .i64 0,.int .i64 0]⟩
theorem QaL:TEok prog 165 te165:=.k t165 underlying165
def te172:TE:=⟨.fn,1,8,[.nilFunc]⟩
theorem Qb9:TEok prog 172 te172:=.k t172 underlying172
def te175:TE:=⟨.fn,1,8,[.nilFunc]⟩
theorem QaJ:TEok prog 175 te175:=.k t175 underlying175
def te178:TE:=⟨.sl 105,1,24,[.slice none 0 0]⟩
theorem QbF:TEok prog 178 te178:=.k t178 underlying178
def te179:TE:=⟨.fn,1,8,[.nilFunc]⟩
theorem Qb0:TEok prog 179 te179:=.k t179 underlying179
def te182:TE:=⟨.sl 185,1,24,[.slice none 0 0]⟩
theorem Qbr:TEok prog 182 te182:=.k t182 underlying182
def te185:TE:=⟨.st [(0,3),(1,105)],4,32,[.int .i64 0,.int .i64 0,.int .i64 0,.bool false]⟩
theorem Qbj:TEok prog 185 te185:=.k t185 underlying185
def te187:TE:=⟨.st [(0,105),(3,3)],4,32,[.int .i64 0,.int .i64 0,.bool false,.int .i64 0]⟩
theorem Qb5:TEok prog 187 te187:=.k t187 underlying187
def te188:TE:=⟨.mp 105 187,1,8,[.map none]⟩
theorem QaX:TEok prog 188 te188:=.k t188 underlying188
def te189:TE:=⟨.sl 188,1,24,[.slice none 0 0]⟩
theorem Qbb:TEok prog 189 te189:=.k t189 underlying189
def te193:TE:=⟨.int .u64,1,8,[.int .u64 0]⟩
theorem Qbg:TEok prog 193 te193:=.k t193 underlying193
def te198:TE:=⟨.st [(0,3),(1,165)],3,24,[.int .i64 0,.int .i64 0,.int .i64 0]⟩
theorem Qb8:TEok prog 198 te198:=.k t198 underlying198
def te200:TE:=⟨.fn,1,8,[.nilFunc]⟩
theorem QbK:TEok prog 200 te200:=.k t200 underlying200
def te204:TE:=⟨.ar 2 4,2,2,[.bool false,.bool false]⟩
theorem QaU:TEok prog 204 te204:=.k t204 underlying204
def te206:TE:=⟨.st [(0,3),(1,3)],2,16,[.int .i64 0,.int .i64 0]⟩
theorem Q9D:TEok prog 206 te206:=.k t206 underlying206
def te208:TE:=⟨.fn,1,8,[.nilFunc]⟩
theorem QaM:TEok prog 208 te208:=.k t208 underlying208
def te211:TE:=⟨.fn,1,8,[.nilFunc]⟩
theorem Qbk:TEok prog 211 te211:=.k t211 underlying211
def te225:TE:=⟨.fn,1,8,[.nilFunc]⟩
theorem Qbz:TEok prog 225 te225:=.k t225 underlying225
def te229:TE:=⟨.st [(0,3),(1,3),(2,3)],3,24,[.int .i64 0,.int .i64 0,.int .i64 0]⟩
theorem Qbs:TEok prog 229 te229:=.k t229 underlying229
def te230:TE:=⟨.ar 6 229,18,144,List.replicate 18 (.int .i64 0)⟩
theorem Qbd:TEok prog 230 te230:=.k t230 underlying230
def te240:TE:=⟨.fn,1,8,[.nilFunc]⟩
theorem QbI:TEok prog 240 te240:=.k t240 underlying240
def te275:TE:=⟨.mp 87 4,1,8,[.map none]⟩
theorem QaT:TEok prog 275 te275:=.k t275 underlying275
theorem QbZ:EqT prog 87 [(0,9),(1,9)]:=⟨by kernel_rfl,by kernel_rfl,by kernel_rfl,by kernel_rfl,by kernel_rfl⟩
theorem Qax:EqT prog 105 [(0,3),(1,3),(2,4)]:=⟨by kernel_rfl,by kernel_rfl,by kernel_rfl,by kernel_rfl,by kernel_rfl⟩
theorem QcX:EqT prog 127 [(0,3),(1,3),(2,3)]:=⟨by kernel_rfl,by kernel_rfl,by kernel_rfl,by kernel_rfl,by kernel_rfl⟩
def tab:Tab:=[(3,te3),(4,te4),(5,te5),(9,te9),(22,te22),(24,te24),(25,te25),(26,te26),(27,te27),(28,te28),(30,te30),(31,te31),(34,te34),(35,te35),(48,te48),(55,te55),(57,te57),(59,te59),(63,te63),(66,te66),(67,te67),(69,te69),(71,te71),(73,te73),(78,te78),(83,te83),(85,te85),(87,te87),(89,te89),(92,te92),(105,te105),(107,te107),(108,te108),(110,te110),(111,te111),(112,te112),(113,te113),(118,te118),(120,te120),(123,te123),(127,te127),(129,te129),(131,te131),(132,te132),(135,te135),(137,te137),(140,te140),(160,te160),(161,te161),(163,te163),(165,te165),(172,te172),(175,te175),(178,te178),(179,te179),(182,te182),(185,te185),(187,te187),(188,te188),(189,te189),(193,te193),(198,te198),(200,te200),(204,te204),(206,te206),(208,te208),(211,te211),(225,te225),(229,te229),(230,te230),(240,te240),(275,te275)]
instance T:TabOk prog tab:=(.cons teok3 (.cons teok4 (.cons teok5 (.cons teok9 (.cons QcR (.cons QcS (.cons QbS (.cons Qci (.cons Qco (.cons QcA (.cons QbY (.cons QcM (.cons Qc0 (.cons Qc1 (.cons Qc7 (.cons Qcu (.cons QcE (.cons Qcc (.cons Qcv (.cons QbX (.cons QcN (.cons Qcj (.cons Qcr (.cons Qd2 (.cons Qcg (.cons QcI (.cons Qck (.cons QcQ (.cons QcW (.cons Qcx (.cons Qbt (.cons Qb7 (.cons QaW (.cons QaZ (.cons QbA (.cons Qb6 (.cons QaP (.cons QbE (.cons Q9Q (.cons QbO (.cons Qbo (.cons QbQ (.cons QbJ (.cons QbH (.cons QbG (.cons Qb1 (.cons Qb4 (.cons Qbi (.cons Qbx (.cons Qbq (.cons QaL (.cons Qb9 (.cons QaJ (.cons QbF (.cons Qb0 (.cons Qbr (.cons Qbj (.cons Qb5 (.cons QaX (.cons Qbb (.cons Qbg (.cons Qb8 (.cons QbK (.cons QaU (.cons Q9D (.cons QaM (.cons Qbk (.cons Qbz (.cons Qbs (.cons Qbd (.cons QbI (.cons QaT TabOk.nil))))))))))))))))))))))))))))))))))))))))))))))))))))))))))))))))))))))))
theorem kt3:KeyT prog 3 kI:=KeyT.int underlying3
theorem kt9:KeyT prog 9 kS:=KeyT.str underlying9
theorem kt87:KeyT prog 87 Q02:=KeyT.st (kc:=Q4B) QbZ (λx y=>by
 obtain⟨x0,x1⟩:=x;obtain⟨y0,y1⟩:=y;show some ((seq x0 y0&&(seq x1 y1&&true)))=some (decide _);congr 1;rw [Bool.eq_iff_iff];simp only [gP,beq_iff_eq,Q37,decide_eq_true_eq,Qp.mk.injEq,and_true];constructor <;> intro h <;> simp_all) rfl (λ_=>rfl) (λ_=>rfl)
theorem Qa5:KeyT prog 105 Xa:=KeyT.st (kc:=Q2A) Qax (λx y=>by
 obtain⟨x0,x1,x2⟩:=x;obtain⟨y0,y1,y2⟩:=y;show some (((x0 == y0)&&((x1 == y1)&&((x2 == y2)&&true))))=some (decide _);congr 1;rw [Bool.eq_iff_iff];simp only [gP,beq_iff_eq,Q37,decide_eq_true_eq,Q1.mk.injEq,and_true];constructor <;> intro h <;> simp_all) rfl (λ_=>rfl) (λ_=>rfl)
theorem Q8x:KeyT prog 107 Qn:=KeyT.ar (kc:=Q1m) (rows:=λx=>[x.e0,x.e1,x.e2,x.e3]) (KeyD.st (kc:=Q2A) Qax (λx y=>by
 obtain⟨x0,x1,x2⟩:=x;obtain⟨y0,y1,y2⟩:=y;show some (((x0 == y0)&&((x1 == y1)&&((x2 == y2)&&true))))=some (decide _);congr 1;rw [Bool.eq_iff_iff];simp only [gP,beq_iff_eq,Q37,decide_eq_true_eq,Q1.mk.injEq,and_true];constructor <;> intro h <;> simp_all) rfl (λ_=>rfl) (λ_=>rfl)) rfl rfl rfl (λ_=>rfl) (λ_=>rfl) (λ_=>rfl) (λx y h=>by cases x;cases y;simpa using h)
theorem Q6O:KeyT prog 127 Qy:=KeyT.st (kc:=Q7w) QcX (λx y=>by
 obtain⟨x0,x1,x2⟩:=x;obtain⟨y0,y1,y2⟩:=y;show some (((x0 == y0)&&((x1 == y1)&&((x2 == y2)&&true))))=some (decide _);congr 1;rw [Bool.eq_iff_iff];simp only [gP,beq_iff_eq,Q37,decide_eq_true_eq,X5.mk.injEq,and_true];constructor <;> intro h <;> simp_all) rfl (λ_=>rfl) (λ_=>rfl)
theorem zt3:Q6d prog 3 veI 0:=⟨(.int .i64 0),λw=>by kernel_rfl,λ_ _=>(.v _)⟩
theorem zt4:Q6d prog 4 veB false:=⟨(.bool false),λw=>by kernel_rfl,λ_ _=>(.v _)⟩
theorem zt83:Q6d prog 83 Yx []:=⟨(.slice none 0 0),λw=>by kernel_rfl,λ_ _=>(.slNil _ _ _)⟩
theorem zt110:Q6d prog 110 Kc (⟨0,(⟨(⟨0,0,false⟩:Q1),(⟨0,0,false⟩:Q1),(⟨0,0,false⟩:Q1),(⟨0,0,false⟩:Q1)⟩:Q0),(⟨0,0,0,0⟩:Qm)⟩:Qb):=⟨.agg #[.int .i64 0,.int .i64 0,.int .i64 0,.bool false,.int .i64 0,.int .i64 0,.bool false,.int .i64 0,.int .i64 0,.bool false,.int .i64 0,.int .i64 0,.bool false,.int .i64 0,.int .i64 0,.int .i64 0,.int .i64 0],λw=>by kernel_rfl,λ_ _=>(.v _)⟩
theorem zt187:Q6d prog 187 KQ (⟨(⟨0,0,false⟩:Q1),0⟩:Qw):=⟨.agg #[.int .i64 0,.int .i64 0,.bool false,.int .i64 0],λw=>by kernel_rfl,λ_ _=>(.v _)⟩
theorem mix:prog.follows .mixedOrders=true:=by kernel_rfl
theorem op3:Kw prog 3 eI I64:=Kw.i64 underlying3
theorem op22:Kw prog 22 eLeI (OkL I64):=Kw.slice underlying22 (n:=1) (by kernel_rfl) (by decide) op3
theorem op24:Kw prog 24 QX Q4E:=λenc w held fuel cells d ps ht=>by
 obtain⟨fuel',hl,hf⟩:=Kw.st (N:=5) underlying24 (by kernel_rfl) ht;obtain⟨x0,k0,l0,c0⟩:=Kw.fld op3 (n:=1) (off:=0) (by kernel_rfl) (by omega) (hf _ (gM (i:=0) rfl));obtain⟨x1,k1,l1,c1⟩:=Kw.fld op3 (n:=1) (off:=1) (by kernel_rfl) (by omega) (hf _ (gM (i:=1) rfl));obtain⟨x2,k2,l2,c2⟩:=Kw.fld op3 (n:=1) (off:=2) (by kernel_rfl) (by omega) (hf _ (gM (i:=2) rfl));obtain⟨x3,k3,l3,c3⟩:=Kw.fld op22 (n:=1) (off:=3) (by kernel_rfl) (by omega) (hf _ (gM (i:=3) rfl));obtain⟨x4,k4,l4,c4⟩:=Kw.fld op22 (n:=1) (off:=4) (by kernel_rfl) (by omega) (hf _ (gM (i:=4) rfl));have hc:Cov w cells 0 (QX ⟨x0,x1,x2,x3,x4⟩):=(c0.app (c1.app (c2.app (c3.app (c4.app Cov.nil)))));exact⟨⟨x0,x1,x2,x3,x4⟩,⟨k0,k1,k2,k3,k4⟩,by rw [hl];rfl,λj A v hA hv=>hc j A v hA (by simpa using hv)⟩
theorem op9:Kw prog 9 eS OkS:=Kw.str underlying9
theorem Qdr:Kw prog 165 Gj Q40:=λenc w held fuel cells d ps ht=>by
 obtain⟨fuel',hl,hf⟩:=Kw.st (N:=2) underlying165 (by kernel_rfl) ht;obtain⟨x0,k0,l0,c0⟩:=Kw.fld op3 (n:=1) (off:=0) (by kernel_rfl) (by omega) (hf _ (gM (i:=0) rfl));obtain⟨x1,k1,l1,c1⟩:=Kw.fld op3 (n:=1) (off:=1) (by kernel_rfl) (by omega) (hf _ (gM (i:=1) rfl));have hc:Cov w cells 0 (Gj ⟨x0,x1⟩):=(c0.app (c1.app Cov.nil));exact⟨⟨x0,x1⟩,⟨k0,k1⟩,by rw [hl];rfl,λj A v hA hv=>hc j A v hA (by simpa using hv)⟩
theorem op83:Kw prog 83 Q8f (OkL Q40):=Kw.slice underlying83 (n:=2) (by kernel_rfl) (by decide) Qdr
theorem op85:Kw prog 85 Q8 Q3s:=λenc w held fuel cells d ps ht=>by
 obtain⟨fuel',hl,hf⟩:=Kw.st (N:=5) underlying85 (by kernel_rfl) ht;obtain⟨x0,k0,l0,c0⟩:=Kw.fld op9 (n:=1) (off:=0) (by kernel_rfl) (by omega) (hf _ (gM (i:=0) rfl));obtain⟨x1,k1,l1,c1⟩:=Kw.fld op22 (n:=1) (off:=1) (by kernel_rfl) (by omega) (hf _ (gM (i:=1) rfl));obtain⟨x2,k2,l2,c2⟩:=Kw.fld op3 (n:=1) (off:=2) (by kernel_rfl) (by omega) (hf _ (gM (i:=2) rfl));obtain⟨x3,k3,l3,c3⟩:=Kw.fld op3 (n:=1) (off:=3) (by kernel_rfl) (by omega) (hf _ (gM (i:=3) rfl));obtain⟨x4,k4,l4,c4⟩:=Kw.fld op83 (n:=1) (off:=4) (by kernel_rfl) (by omega) (hf _ (gM (i:=4) rfl));have hc:Cov w cells 0 (Q8 ⟨x0,x1,x2,x3,x4⟩):=(c0.app (c1.app (c2.app (c3.app (c4.app Cov.nil)))));exact⟨⟨x0,x1,x2,x3,x4⟩,⟨k0,k1,k2,k3,k4⟩,by rw [hl];rfl,λj A v hA hv=>hc j A v hA (by simpa using hv)⟩
theorem op25:Kw prog 25 Q8m (OkL Q3s):=Kw.slice underlying25 (n:=5) (by kernel_rfl) (by decide) op85
theorem op87:Kw prog 87 Q3 Q2L:=λenc w held fuel cells d ps ht=>by
 obtain⟨fuel',hl,hf⟩:=Kw.st (N:=2) underlying87 (by kernel_rfl) ht;obtain⟨x0,k0,l0,c0⟩:=Kw.fld op9 (n:=1) (off:=0) (by kernel_rfl) (by omega) (hf _ (gM (i:=0) rfl));obtain⟨x1,k1,l1,c1⟩:=Kw.fld op9 (n:=1) (off:=1) (by kernel_rfl) (by omega) (hf _ (gM (i:=1) rfl));have hc:Cov w cells 0 (Q3 ⟨x0,x1⟩):=(c0.app (c1.app Cov.nil));exact⟨⟨x0,x1⟩,⟨k0,k1⟩,by rw [hl];rfl,λj A v hA hv=>hc j A v hA (by simpa using hv)⟩
theorem op26:Kw prog 26 Q6P (OkL Q2L):=Kw.slice underlying26 (n:=2) (by kernel_rfl) (by decide) op87
theorem op89:Kw prog 89 Q6 Q2h:=λenc w held fuel cells d ps ht=>by
 obtain⟨fuel',hl,hf⟩:=Kw.st (N:=2) underlying89 (by kernel_rfl) ht;obtain⟨x0,k0,l0,c0⟩:=Kw.fld op3 (n:=1) (off:=0) (by kernel_rfl) (by omega) (hf _ (gM (i:=0) rfl));obtain⟨x1,k1,l1,c1⟩:=Kw.fld op9 (n:=1) (off:=1) (by kernel_rfl) (by omega) (hf _ (gM (i:=1) rfl));have hc:Cov w cells 0 (Q6 ⟨x0,x1⟩):=(c0.app (c1.app Cov.nil));exact⟨⟨x0,x1⟩,⟨k0,k1⟩,by rw [hl];rfl,λj A v hA hv=>hc j A v hA (by simpa using hv)⟩
theorem op27:Kw prog 27 Q7p (OkL Q2h):=Kw.slice underlying27 (n:=2) (by kernel_rfl) (by decide) op89
theorem op71:Kw prog 71 Q4 Q2D:=λenc w held fuel cells d ps ht=>by
 obtain⟨fuel',hl,hf⟩:=Kw.st (N:=2) underlying71 (by kernel_rfl) ht;obtain⟨x0,k0,l0,c0⟩:=Kw.fld op3 (n:=1) (off:=0) (by kernel_rfl) (by omega) (hf _ (gM (i:=0) rfl));obtain⟨x1,k1,l1,c1⟩:=Kw.fld op3 (n:=1) (off:=1) (by kernel_rfl) (by omega) (hf _ (gM (i:=1) rfl));have hc:Cov w cells 0 (Q4 ⟨x0,x1⟩):=(c0.app (c1.app Cov.nil));exact⟨⟨x0,x1⟩,⟨k0,k1⟩,by rw [hl];rfl,λj A v hA hv=>hc j A v hA (by simpa using hv)⟩
theorem op28:Kw prog 28 Q7a (OkL Q2D):=Kw.slice underlying28 (n:=2) (by kernel_rfl) (by decide) op71
theorem op30:Kw prog 30 Qa QF:=λenc w held fuel cells d ps ht=>by
 obtain⟨fuel',hl,hf⟩:=Kw.st (N:=9) underlying30 (by kernel_rfl) ht;obtain⟨x0,k0,l0,c0⟩:=Kw.fld op24 (n:=5) (off:=0) (by kernel_rfl) (by omega) (hf _ (gM (i:=0) rfl));obtain⟨x1,k1,l1,c1⟩:=Kw.fld op25 (n:=1) (off:=5) (by kernel_rfl) (by omega) (hf _ (gM (i:=1) rfl));obtain⟨x2,k2,l2,c2⟩:=Kw.fld op26 (n:=1) (off:=6) (by kernel_rfl) (by omega) (hf _ (gM (i:=2) rfl));obtain⟨x3,k3,l3,c3⟩:=Kw.fld op27 (n:=1) (off:=7) (by kernel_rfl) (by omega) (hf _ (gM (i:=3) rfl));obtain⟨x4,k4,l4,c4⟩:=Kw.fld op28 (n:=1) (off:=8) (by kernel_rfl) (by omega) (hf _ (gM (i:=4) rfl));have hc:Cov w cells 0 (Qa ⟨x0,x1,x2,x3,x4⟩):=(c0.app (c1.app (c2.app (c3.app (c4.app Cov.nil)))));exact⟨⟨x0,x1,x2,x3,x4⟩,⟨k0,k1,k2,k3,k4⟩,by rw [hl];rfl,λj A v hA hv=>hc j A v hA (by simpa using hv)⟩
theorem op48:Kw prog 48 Q9 Q3M:=λenc w held fuel cells d ps ht=>by
 obtain⟨fuel',hl,hf⟩:=Kw.st (N:=2) underlying48 (by kernel_rfl) ht;obtain⟨x0,k0,l0,c0⟩:=Kw.fld op3 (n:=1) (off:=0) (by kernel_rfl) (by omega) (hf _ (gM (i:=0) rfl));obtain⟨x1,k1,l1,c1⟩:=Kw.fld op3 (n:=1) (off:=1) (by kernel_rfl) (by omega) (hf _ (gM (i:=1) rfl));have hc:Cov w cells 0 (Q9 ⟨x0,x1⟩):=(c0.app (c1.app Cov.nil));exact⟨⟨x0,x1⟩,⟨k0,k1⟩,by rw [hl];rfl,λj A v hA hv=>hc j A v hA (by simpa using hv)⟩
theorem op31:Kw prog 31 Q8e (OkL Q3M):=Kw.slice underlying31 (n:=2) (by kernel_rfl) (by decide) op48
theorem op34:Kw prog 34 QcD (OkL (OkL I64)):=Kw.slice underlying34 (n:=1) (by kernel_rfl) (by decide) op22
theorem Qcq(xs:List Int)(l:Nat)(J:Nat->World->Prop)(Jx:World->Prop)(S:Nat->Prop)(w W:World)(b off cap:Nat)(p0:Option Addr)(hlen:xs.length≤1099511627776)(hS:S b)
  (hY:∀m x W1,xs[m]?=some x->J m W1->YieldAt Fence.wide 1 prog l #[.int .i64 x] W1 λe W'=>(e=.returned (.bool true)∧J (m+1) W'∧KS S W1 W')∨(e=.returned (.bool false)∧Jx W'))
  (hc:W.cell? ⟨b,off,none⟩=some (.slice p0 xs.length cap)) (hL:Q6t S W p0 xs) (h0:J 0 W):
  CallsIn Fence.wide 2 prog 155 #[.func (.yield l) #[] #[],.pointer (some ⟨b,off,none⟩)] W λe W'=>(∃v,e=.returned v)∧(J xs.length W'∨Jx W'):=by
 refine callsIn_of_wp func155 rfl trivial ?_ rfl;simp only [ntmps155,List.size_toArray,List.length_cons,List.length_nil,Nat.reduceAdd,Nat.reduceSub,Array.replicate_succ,Array.replicate_zero,List.push_toArray,List.append_toArray,List.nil_append,List.cons_append]
 gi_wp2
 gi_loopw [7] (λp wr=>∃(m:Nat),m≤xs.length∧p=.int .i64 (m:Int)∧Q6t S wr p0 xs∧J m wr)
  (λp wr=>match p with | .int _ i=>xs.length-i.toNat | _=>0)
 case atStart=>exact⟨0,Nat.zero_le _,rfl,hL,h0⟩
 case round=>
  obtain⟨m,hm,rfl,hl,hJs⟩:=hrel;by_cases hlt:m<xs.length
  ·have hx:xs[m]?=some (xs.getD m 0):=by rw [gD,gE hlt];rfl
   obtain⟨b',off',rfl,hb,hv⟩:=hl m _ hx;obtain⟨fn,tmps,assign,body,hy,hR⟩:=hY m (xs.getD m 0) wr hx hJs;generalize xs.getD m 0=x0 at *
   gi_wp2
   refine hR.mono ?_;rintro e W3 (⟨rfl,hJ3,hk3⟩ | ⟨rfl,hJx3⟩)
   ·gi_wp2
    go_roundw
    case rel=>exact⟨m+1,by omega,rfl,hl.keep hk3,hJ3⟩
    case measure=>simp;omega
   ·gi_wp2
    refine bodyPost_ret (results_none rfl _ _ _) rfl ?_;exact⟨⟨_,rfl⟩,.inr hJx3⟩
  ·obtain rfl:m=xs.length:=by omega
   gi_wp2
   go_end0
   exact⟨⟨_,rfl⟩,.inl hJs⟩
theorem Qdq(xs:List Int)(hlen:xs.length≤1099511627776):Iter prog 155 [.rp [.sl 1 eI xs]] (λx:Int=>[.int .i64 x]) xs:=λw ok β lb hlb l J Jx W hW hY h0=>by
 obtain⟨b,off,p,cap,rfl,hb,hc,hr⟩:=Qaq hlb;exact Qcq xs l J Jx ok w W b off cap p hlen hb hY ((hW.cell hb).trans hc) (hr.keep hW) h0
theorem QcZ(xs:List Int)(l:Nat)(J:Nat->World->Prop)(Jx:World->Prop)(S:Nat->Prop)(w W:World)(b off cap:Nat)(p0:Option Addr)(hlen:xs.length≤1099511627776)(hS:S b)
  (hY:∀m x W1,(bkw xs)[m]?=some x->J m W1->YieldAt Fence.wide 1 prog l #[.int .i64 x.1,.int .i64 x.2] W1 λe W'=>(e=.returned (.bool true)∧J (m+1) W'∧KS S W1 W')∨(e=.returned (.bool false)∧Jx W'))
  (hc:W.cell? ⟨b,off,none⟩=some (.slice p0 xs.length cap)) (hL:Q6t S W p0 xs) (h0:J 0 W):
  CallsIn Fence.wide 2 prog 223 #[.func (.yield l) #[] #[],.pointer (some ⟨b,off,none⟩)] W λe W'=>(∃v,e=.returned v)∧(J (bkw xs).length W'∨Jx W'):=by
 refine callsIn_of_wp func223 rfl trivial ?_ rfl;simp only [ntmps223,List.size_toArray,List.length_cons,List.length_nil,Nat.reduceAdd,Nat.reduceSub,Array.replicate_succ,Array.replicate_zero,List.push_toArray,List.append_toArray,List.nil_append,List.cons_append]
 gi_wp2
 gi_loopw [3] (λp wr=>∃(m:Nat),m≤xs.length∧p=.int .i64 ((m:Int)-1)∧Q6t S wr p0 xs∧wr.cell? ⟨b,off,none⟩=some (.slice p0 xs.length cap)∧J (xs.length-m) wr)
  (λp wr=>match p with | .int _ i=>(i+1).toNat | _=>0)
 case atStart=>exact⟨xs.length,Nat.le_refl _,rfl,hL,hc,by simpa using h0⟩
 case round=>
  obtain⟨m,hm,rfl,hl,hc,hJs⟩:=hrel;cases m with
  | zero=>
   gi_wp2
   go_end0
   exact⟨⟨_,rfl⟩,.inl (by rw [Q6Y];exact hJs)⟩
  | succ m=>
   have hx:xs[m]?=some (xs.getD m 0):=by rw [gD,gE (by omega)];rfl
   obtain⟨b',off',rfl,hb,hv⟩:=hl m _ hx;obtain⟨fn,tmps,assign,body,hy,hR⟩:=hY (xs.length-(m+1)) ((m:Int),xs.getD m 0) wr (Q8v (by omega)) hJs;have e1:((m+1:Nat):Int)-1=(m:Int):=by omega
   rw [e1];generalize xs.getD m 0=x0 at *
   gi_wp2
   refine hR.mono ?_;rintro e W3 (⟨rfl,hJ3,hk3⟩ | ⟨rfl,hJx3⟩)
   ·gi_wp2
    go_roundw
    case rel=>exact⟨m,by omega,rfl,hl.keep hk3,(hk3.cell hS).trans hc,by rw [show xs.length-m=xs.length-(m+1)+1 by omega];exact hJ3⟩
    case measure=>simp
   ·gi_wp2
    refine bodyPost_ret (results_none rfl _ _ _) rfl ?_;exact⟨⟨_,rfl⟩,.inr hJx3⟩
theorem Qdi(xs:List Int)(hlen:xs.length≤1099511627776):Iter prog 223 [.rp [.sl 1 eI xs]] (λx:Int×Int=>[.int .i64 x.1,.int .i64 x.2]) (bkw xs):=λw ok β lb hlb l J Jx W hW hY h0=>by
 obtain⟨b,off,p,cap,rfl,hb,hc,hr⟩:=Qaq hlb;exact QcZ xs l J Jx ok w W b off cap p hlen hb hY ((hW.cell hb).trans hc) (hr.keep hW) h0
end Go.Proofs.YtpckofngkabgbaaGreat
