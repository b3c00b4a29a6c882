/- The encodings of the data, and the types' table (written by a program of the prover). -/
import Derived.Test.YtdcfcldpjfepiaaLibZN
import Derived.Test.YtdcfcldpjfepiaaLibZX
import Derived.Test.YtdcfcldpjfepiaaVc
import Derived.Test.YtdcfcldpjfepiaaChecked
import Derived.Test.YtdcfcldpjfepiaaLibZC
import Derived.Test.YtdcfcldpjfepiaaLibZS
import Derived.KernelRfl
set_option maxRecDepth 100000
set_option maxHeartbeats 8000000
set_option linter.unusedVariables false
set_option linter.unusedSimpArgs false
namespace Go.Proofs.Ytdcfcldpjfepiaa
open Go Go.Taq
@[reducible] def eI (x : Int) : List AVal := [.i x]
@[reducible] def eApiSpan (x : ApiSpan) : List AVal := [.i x.From, .i x.To]
@[reducible] def eApiZone (x : ApiZone) : List AVal := [.v (.string x.Name), .sl 1 eI x.Cells, .i x.Speed, .i x.Keep, .sl 2 eApiSpan x.Shut]
@[reducible] def eApiApart (x : ApiApart) : List AVal := [.v (.string x.A), .v (.string x.B)]
@[reducible] def eApiShelf (x : ApiShelf) : List AVal := [.i x.Cell, .v (.string x.Class)]
@[reducible] def eApiStart (x : ApiStart) : List AVal := [.i x.Cell, .i x.Charge]
@[reducible] def eApiSite (x : ApiSite) : List AVal := [.i x.Floor.W, .i x.Floor.H, .i x.Floor.D, .sl 1 eI x.Floor.Kind, .sl 1 eI x.Floor.Out, .sl 5 eApiZone x.Zones, .sl 2 eApiApart x.Aparts, .sl 2 eApiShelf x.Shelves, .sl 2 eApiStart x.Robots]
@[reducible] def eReachStep (x : ReachStep) : List AVal := [.i x.to_, .i x.price]
@[reducible] def eOeReachStep (x : List ReachStep) : List AVal := [.os 2 eReachStep x]
@[reducible] def eOeI (x : List Int) : List AVal := [.os 1 eI x]
@[reducible] def eB (x : Bool) : List AVal := [.b x]
@[reducible] def eApiFloor (x : ApiFloor) : List AVal := [.i x.W, .i x.H, .i x.D, .sl 1 eI x.Kind, .sl 1 eI x.Out]
@[reducible] def eFloorStep (x : FloorStep) : List AVal := [.i x.x, .i x.y, .i x.z]
@[reducible] def eLeReachStep (x : List ReachStep) : List AVal := [.sl 2 eReachStep x]
@[reducible] def eLeI (x : List Int) : List AVal := [.sl 1 eI x]
def kI (x : Int) : Value := .int .i64 x
def veI (x : Int) : AVal := .i x
def veB (x : Bool) : AVal := .b x
def kS (x : ByteArray) : Value := .string x
@[reducible] def eS (x : ByteArray) : List AVal := [.v (.string x)]
@[reducible] def eLeApiSpan (x : List ApiSpan) : List AVal := [.sl 2 eApiSpan x]
@[reducible] def eLeApiZone (x : List ApiZone) : List AVal := [.sl 5 eApiZone x]
@[reducible] def eLeApiApart (x : List ApiApart) : List AVal := [.sl 2 eApiApart x]
@[reducible] def eLeApiShelf (x : List ApiShelf) : List AVal := [.sl 2 eApiShelf x]
@[reducible] def eLeApiStart (x : List ApiStart) : List AVal := [.sl 2 eApiStart x]
def te3 : TE := ⟨.int .i64, 1, 8, [.int .i64 0]⟩
theorem teok3 : TEok Try.prog 3 te3 := ⟨⟨_, Try.underlying3, rfl⟩, Try.t3, _, (by kernel_rfl : Try.prog.info? 3 = some Try.t3), rfl, rfl, rfl, rfl, (fun h => by cases h), rfl, by decide⟩
def te4 : TE := ⟨.bool, 1, 1, [.bool false]⟩
theorem teok4 : TEok Try.prog 4 te4 := ⟨⟨_, Try.underlying4, rfl⟩, Try.t4, _, (by kernel_rfl : Try.prog.info? 4 = some Try.t4), rfl, rfl, rfl, rfl, (fun h => by cases h), rfl, by decide⟩
def te5 : TE := ⟨.int .u8, 1, 1, [.int .u8 0]⟩
theorem teok5 : TEok Try.prog 5 te5 := ⟨⟨_, Try.underlying5, rfl⟩, Try.t5, _, (by kernel_rfl : Try.prog.info? 5 = some Try.t5), rfl, rfl, rfl, rfl, (fun h => by cases h), rfl, by decide⟩
def te9 : TE := ⟨.str, 1, 16, [.string ByteArray.empty]⟩
theorem teok9 : TEok Try.prog 9 te9 := ⟨⟨_, Try.underlying9, rfl⟩, Try.t9, _, (by kernel_rfl : Try.prog.info? 9 = some Try.t9), rfl, rfl, rfl, rfl, (fun h => by cases h), rfl, by decide⟩
def te22 : TE := ⟨.sl 3, 1, 24, [.slice none 0 0]⟩
theorem teok22 : TEok Try.prog 22 te22 := ⟨⟨_, Try.underlying22, rfl⟩, Try.t22, _, (by kernel_rfl : Try.prog.info? 22 = some Try.t22), rfl, rfl, rfl, rfl, (fun h => by cases h), rfl, by decide⟩
def te24 : TE := ⟨.st [(0, 3), (1, 3), (2, 3), (3, 22), (4, 22)], 5, 72, [.int .i64 0, .int .i64 0, .int .i64 0, .slice none 0 0, .slice none 0 0]⟩
theorem teok24 : TEok Try.prog 24 te24 := ⟨⟨_, Try.underlying24, ⟨_, rfl, rfl⟩⟩, Try.t24, _, (by kernel_rfl : Try.prog.info? 24 = some Try.t24), rfl, rfl, rfl, rfl, (fun _ => ⟨_, rfl⟩), rfl, by decide⟩
def te25 : TE := ⟨.sl 65, 1, 24, [.slice none 0 0]⟩
theorem teok25 : TEok Try.prog 25 te25 := ⟨⟨_, Try.underlying25, rfl⟩, Try.t25, _, (by kernel_rfl : Try.prog.info? 25 = some Try.t25), rfl, rfl, rfl, rfl, (fun h => by cases h), rfl, by decide⟩
def te26 : TE := ⟨.sl 67, 1, 24, [.slice none 0 0]⟩
theorem teok26 : TEok Try.prog 26 te26 := ⟨⟨_, Try.underlying26, rfl⟩, Try.t26, _, (by kernel_rfl : Try.prog.info? 26 = some Try.t26), rfl, rfl, rfl, rfl, (fun h => by cases h), rfl, by decide⟩
def te27 : TE := ⟨.sl 69, 1, 24, [.slice none 0 0]⟩
theorem teok27 : TEok Try.prog 27 te27 := ⟨⟨_, Try.underlying27, rfl⟩, Try.t27, _, (by kernel_rfl : Try.prog.info? 27 = some Try.t27), rfl, rfl, rfl, rfl, (fun h => by cases h), rfl, by decide⟩
def te28 : TE := ⟨.sl 83, 1, 24, [.slice none 0 0]⟩
theorem teok28 : TEok Try.prog 28 te28 := ⟨⟨_, Try.underlying28, rfl⟩, Try.t28, _, (by kernel_rfl : Try.prog.info? 28 = some Try.t28), rfl, rfl, rfl, rfl, (fun h => by cases h), rfl, by decide⟩
def te30 : TE := ⟨.st [(0, 24), (5, 25), (6, 26), (7, 27), (8, 28)], 9, 168, [.int .i64 0, .int .i64 0, .int .i64 0, .slice none 0 0, .slice none 0 0, .slice none 0 0, .slice none 0 0, .slice none 0 0, .slice none 0 0]⟩
theorem teok30 : TEok Try.prog 30 te30 := ⟨⟨_, Try.underlying30, ⟨_, rfl, rfl⟩⟩, Try.t30, _, (by kernel_rfl : Try.prog.info? 30 = some Try.t30), rfl, rfl, rfl, rfl, (fun _ => ⟨_, rfl⟩), rfl, by decide⟩
def te47 : TE := ⟨.pt 60, 1, 8, [.pointer none]⟩
theorem teok47 : TEok Try.prog 47 te47 := ⟨⟨_, Try.underlying47, rfl⟩, Try.t47, _, (by kernel_rfl : Try.prog.info? 47 = some Try.t47), rfl, rfl, rfl, rfl, (fun h => by cases h), rfl, by decide⟩
def te54 : TE := ⟨.sl 22, 1, 24, [.slice none 0 0]⟩
theorem teok54 : TEok Try.prog 54 te54 := ⟨⟨_, Try.underlying54, rfl⟩, Try.t54, _, (by kernel_rfl : Try.prog.info? 54 = some Try.t54), rfl, rfl, rfl, rfl, (fun h => by cases h), rfl, by decide⟩
def te57 : TE := ⟨.sl 85, 1, 24, [.slice none 0 0]⟩
theorem teok57 : TEok Try.prog 57 te57 := ⟨⟨_, Try.underlying57, rfl⟩, Try.t57, _, (by kernel_rfl : Try.prog.info? 57 = some Try.t57), rfl, rfl, rfl, rfl, (fun h => by cases h), rfl, by decide⟩
def te58 : TE := ⟨.sl 4, 1, 24, [.slice none 0 0]⟩
theorem teok58 : TEok Try.prog 58 te58 := ⟨⟨_, Try.underlying58, rfl⟩, Try.t58, _, (by kernel_rfl : Try.prog.info? 58 = some Try.t58), rfl, rfl, rfl, rfl, (fun h => by cases h), rfl, by decide⟩
def te60 : TE := ⟨.st [(0, 57), (1, 54), (2, 58)], 3, 72, [.slice none 0 0, .slice none 0 0, .slice none 0 0]⟩
theorem teok60 : TEok Try.prog 60 te60 := ⟨⟨_, Try.underlying60, ⟨_, rfl, rfl⟩⟩, Try.t60, _, (by kernel_rfl : Try.prog.info? 60 = some Try.t60), rfl, rfl, rfl, rfl, (fun _ => ⟨_, rfl⟩), rfl, by decide⟩
def te61 : TE := ⟨.mp 3 3, 1, 8, [.map none]⟩
theorem teok61 : TEok Try.prog 61 te61 := ⟨⟨_, Try.underlying61, rfl⟩, Try.t61, _, (by kernel_rfl : Try.prog.info? 61 = some Try.t61), rfl, rfl, rfl, rfl, (fun h => by cases h), rfl, by decide⟩
def te63 : TE := ⟨.sl 105, 1, 24, [.slice none 0 0]⟩
theorem teok63 : TEok Try.prog 63 te63 := ⟨⟨_, Try.underlying63, rfl⟩, Try.t63, _, (by kernel_rfl : Try.prog.info? 63 = some Try.t63), rfl, rfl, rfl, rfl, (fun h => by cases h), rfl, by decide⟩
def te65 : TE := ⟨.st [(0, 9), (1, 22), (2, 3), (3, 3), (4, 63)], 5, 80, [.string ByteArray.empty, .slice none 0 0, .int .i64 0, .int .i64 0, .slice none 0 0]⟩
theorem teok65 : TEok Try.prog 65 te65 := ⟨⟨_, Try.underlying65, ⟨_, rfl, rfl⟩⟩, Try.t65, _, (by kernel_rfl : Try.prog.info? 65 = some Try.t65), rfl, rfl, rfl, rfl, (fun _ => ⟨_, rfl⟩), rfl, by decide⟩
def te67 : TE := ⟨.st [(0, 9), (1, 9)], 2, 32, [.string ByteArray.empty, .string ByteArray.empty]⟩
theorem teok67 : TEok Try.prog 67 te67 := ⟨⟨_, Try.underlying67, ⟨_, rfl, rfl⟩⟩, Try.t67, _, (by kernel_rfl : Try.prog.info? 67 = some Try.t67), rfl, rfl, rfl, rfl, (fun _ => ⟨_, rfl⟩), rfl, by decide⟩
def te69 : TE := ⟨.st [(0, 3), (1, 9)], 2, 24, [.int .i64 0, .string ByteArray.empty]⟩
theorem teok69 : TEok Try.prog 69 te69 := ⟨⟨_, Try.underlying69, ⟨_, rfl, rfl⟩⟩, Try.t69, _, (by kernel_rfl : Try.prog.info? 69 = some Try.t69), rfl, rfl, rfl, rfl, (fun _ => ⟨_, rfl⟩), rfl, by decide⟩
def te72 : TE := ⟨.pt 102, 1, 8, [.pointer none]⟩
theorem teok72 : TEok Try.prog 72 te72 := ⟨⟨_, Try.underlying72, rfl⟩, Try.t72, _, (by kernel_rfl : Try.prog.info? 72 = some Try.t72), rfl, rfl, rfl, rfl, (fun h => by cases h), rfl, by decide⟩
def te78 : TE := ⟨.int .i64, 1, 8, [.int .i64 0]⟩
theorem teok78 : TEok Try.prog 78 te78 := ⟨⟨_, Try.underlying78, rfl⟩, Try.t78, _, (by kernel_rfl : Try.prog.info? 78 = some Try.t78), rfl, rfl, rfl, rfl, (fun h => by cases h), rfl, by decide⟩
def te83 : TE := ⟨.st [(0, 3), (1, 3)], 2, 16, [.int .i64 0, .int .i64 0]⟩
theorem teok83 : TEok Try.prog 83 te83 := ⟨⟨_, Try.underlying83, ⟨_, rfl, rfl⟩⟩, Try.t83, _, (by kernel_rfl : Try.prog.info? 83 = some Try.t83), rfl, rfl, rfl, rfl, (fun _ => ⟨_, rfl⟩), rfl, by decide⟩
def te85 : TE := ⟨.sl 87, 1, 24, [.slice none 0 0]⟩
theorem teok85 : TEok Try.prog 85 te85 := ⟨⟨_, Try.underlying85, rfl⟩, Try.t85, _, (by kernel_rfl : Try.prog.info? 85 = some Try.t85), rfl, rfl, rfl, rfl, (fun h => by cases h), rfl, by decide⟩
def te87 : TE := ⟨.st [(0, 3), (1, 3)], 2, 16, [.int .i64 0, .int .i64 0]⟩
theorem teok87 : TEok Try.prog 87 te87 := ⟨⟨_, Try.underlying87, ⟨_, rfl, rfl⟩⟩, Try.t87, _, (by kernel_rfl : Try.prog.info? 87 = some Try.t87), rfl, rfl, rfl, rfl, (fun _ => ⟨_, rfl⟩), rfl, by decide⟩
def te89 : TE := ⟨.fn, 1, 8, [.nilFunc]⟩
theorem teok89 : TEok Try.prog 89 te89 := ⟨⟨_, Try.underlying89, ⟨_, _, _, rfl⟩⟩, Try.t89, _, (by kernel_rfl : Try.prog.info? 89 = some Try.t89), rfl, rfl, rfl, rfl, (fun h => by cases h), rfl, by decide⟩
def te93 : TE := ⟨.st [(0, 3), (1, 3), (2, 3)], 3, 24, [.int .i64 0, .int .i64 0, .int .i64 0]⟩
theorem teok93 : TEok Try.prog 93 te93 := ⟨⟨_, Try.underlying93, ⟨_, rfl, rfl⟩⟩, Try.t93, _, (by kernel_rfl : Try.prog.info? 93 = some Try.t93), rfl, rfl, rfl, rfl, (fun _ => ⟨_, rfl⟩), rfl, by decide⟩
def te94 : TE := ⟨.ar 6 93, 18, 144, List.replicate 18 (.int .i64 0)⟩
theorem teok94 : TEok Try.prog 94 te94 := ⟨⟨_, Try.underlying94, rfl⟩, Try.t94, _, (by kernel_rfl : Try.prog.info? 94 = some Try.t94), rfl, rfl, rfl, rfl, (fun _ => ⟨_, rfl⟩), rfl, by decide⟩
def te99 : TE := ⟨.mp 3 4, 1, 8, [.map none]⟩
theorem teok99 : TEok Try.prog 99 te99 := ⟨⟨_, Try.underlying99, rfl⟩, Try.t99, _, (by kernel_rfl : Try.prog.info? 99 = some Try.t99), rfl, rfl, rfl, rfl, (fun h => by cases h), rfl, by decide⟩
def te100 : TE := ⟨.mp 9 3, 1, 8, [.map none]⟩
theorem teok100 : TEok Try.prog 100 te100 := ⟨⟨_, Try.underlying100, rfl⟩, Try.t100, _, (by kernel_rfl : Try.prog.info? 100 = some Try.t100), rfl, rfl, rfl, rfl, (fun h => by cases h), rfl, by decide⟩
def te102 : TE := ⟨.st [(0, 30), (9, 61), (10, 99), (11, 99), (12, 100), (13, 99), (14, 22), (15, 22)], 16, 256, [.int .i64 0, .int .i64 0, .int .i64 0, .slice none 0 0, .slice none 0 0, .slice none 0 0, .slice none 0 0, .slice none 0 0, .slice none 0 0, .map none, .map none, .map none, .map none, .map none, .slice none 0 0, .slice none 0 0]⟩
theorem teok102 : TEok Try.prog 102 te102 := ⟨⟨_, Try.underlying102, ⟨_, rfl, rfl⟩⟩, Try.t102, _, (by kernel_rfl : Try.prog.info? 102 = some Try.t102), rfl, rfl, rfl, rfl, (fun _ => ⟨_, rfl⟩), rfl, by decide⟩
def te105 : TE := ⟨.st [(0, 3), (1, 3)], 2, 16, [.int .i64 0, .int .i64 0]⟩
theorem teok105 : TEok Try.prog 105 te105 := ⟨⟨_, Try.underlying105, ⟨_, rfl, rfl⟩⟩, Try.t105, _, (by kernel_rfl : Try.prog.info? 105 = some Try.t105), rfl, rfl, rfl, rfl, (fun _ => ⟨_, rfl⟩), rfl, by decide⟩
def te109 : TE := ⟨.fn, 1, 8, [.nilFunc]⟩
theorem teok109 : TEok Try.prog 109 te109 := ⟨⟨_, Try.underlying109, ⟨_, _, _, rfl⟩⟩, Try.t109, _, (by kernel_rfl : Try.prog.info? 109 = some Try.t109), rfl, rfl, rfl, rfl, (fun h => by cases h), rfl, by decide⟩
def te113 : TE := ⟨.int .u64, 1, 8, [.int .u64 0]⟩
theorem teok113 : TEok Try.prog 113 te113 := ⟨⟨_, Try.underlying113, rfl⟩, Try.t113, _, (by kernel_rfl : Try.prog.info? 113 = some Try.t113), rfl, rfl, rfl, rfl, (fun h => by cases h), rfl, by decide⟩
theorem eqt67 : EqT Try.prog 67 [(0, 9), (1, 9)] := ⟨by kernel_rfl, by kernel_rfl, by kernel_rfl, by kernel_rfl, by kernel_rfl⟩
def tab : Tab := [(3, te3), (4, te4), (5, te5), (9, te9), (22, te22), (24, te24), (25, te25), (26, te26), (27, te27), (28, te28), (30, te30), (47, te47), (54, te54), (57, te57), (58, te58), (60, te60), (61, te61), (63, te63), (65, te65), (67, te67), (69, te69), (72, te72), (78, te78), (83, te83), (85, te85), (87, te87), (89, te89), (93, te93), (94, te94), (99, te99), (100, te100), (102, te102), (105, te105), (109, te109), (113, te113)]
theorem T : TabOk Try.prog tab := (.cons teok3 (.cons teok4 (.cons teok5 (.cons teok9 (.cons teok22 (.cons teok24 (.cons teok25 (.cons teok26 (.cons teok27 (.cons teok28 (.cons teok30 (.cons teok47 (.cons teok54 (.cons teok57 (.cons teok58 (.cons teok60 (.cons teok61 (.cons teok63 (.cons teok65 (.cons teok67 (.cons teok69 (.cons teok72 (.cons teok78 (.cons teok83 (.cons teok85 (.cons teok87 (.cons teok89 (.cons teok93 (.cons teok94 (.cons teok99 (.cons teok100 (.cons teok102 (.cons teok105 (.cons teok109 (.cons teok113 TabOk.nil)))))))))))))))))))))))))))))))))))
theorem kt3 : KeyT Try.prog 3 kI := KeyT.int Try.underlying3
theorem kt9 : KeyT Try.prog 9 kS := KeyT.str Try.underlying9
theorem zt3 : ZeroT Try.prog 3 veI 0 := ⟨(.int .i64 0), fun w => by kernel_rfl, fun _ _ => (.v _)⟩
theorem zt4 : ZeroT Try.prog 4 veB false := ⟨(.bool false), fun w => by kernel_rfl, fun _ _ => (.v _)⟩
theorem mix : Try.prog.follows .mixedOrders = true := by kernel_rfl
theorem en5 : Entered Try.prog 5 := fun args w => Try.call5 args w
theorem en6 : Entered Try.prog 6 := fun args w => Try.call6 args w
theorem en7 : Entered Try.prog 7 := fun args w => Try.call7 args w
theorem en8 : Entered Try.prog 8 := fun args w => Try.call8 args w
theorem en9 : Entered Try.prog 9 := fun args w => Try.call9 args w
theorem en10 : Entered Try.prog 10 := fun args w => Try.call10 args w
theorem en11 : Entered Try.prog 11 := fun args w => Try.call11 args w
theorem en12 : Entered Try.prog 12 := fun args w => Try.call12 args w
theorem en13 : Entered Try.prog 13 := fun args w => Try.call13 args w
theorem en14 : Entered Try.prog 14 := fun args w => Try.call14 args w
theorem en15 : Entered Try.prog 15 := fun args w => Try.call15 args w
theorem en16 : Entered Try.prog 16 := fun args w => Try.call16 args w
theorem en17 : Entered Try.prog 17 := fun args w => Try.call17 args w
theorem en18 : Entered Try.prog 18 := fun args w => Try.call18 args w
theorem en19 : Entered Try.prog 19 := fun args w => Try.call19 args w
theorem en20 : Entered Try.prog 20 := fun args w => Try.call20 args w
theorem en21 : Entered Try.prog 21 := fun args w => Try.call21 args w
theorem en22 : Entered Try.prog 22 := fun args w => Try.call22 args w
theorem en23 : Entered Try.prog 23 := fun args w => Try.call23 args w
theorem en24 : Entered Try.prog 24 := fun args w => Try.call24 args w
theorem en25 : Entered Try.prog 25 := fun args w => Try.call25 args w
theorem en26 : Entered Try.prog 26 := fun args w => Try.call26 args w
theorem en27 : Entered Try.prog 27 := fun args w => Try.call27 args w
theorem en28 : Entered Try.prog 28 := fun args w => Try.call28 args w
theorem en29 : Entered Try.prog 29 := fun args w => Try.call29 args w
theorem en30 : Entered Try.prog 30 := fun args w => Try.call30 args w
theorem en31 : Entered Try.prog 31 := fun args w => Try.call31 args w
theorem en32 : Entered Try.prog 32 := fun args w => Try.call32 args w
theorem en33 : Entered Try.prog 33 := fun args w => Try.call33 args w
theorem en34 : Entered Try.prog 34 := fun args w => Try.call34 args w
theorem en35 : Entered Try.prog 35 := fun args w => Try.call35 args w
theorem en36 : Entered Try.prog 36 := fun args w => Try.call36 args w
theorem en37 : Entered Try.prog 37 := fun args w => Try.call37 args w
theorem en38 : Entered Try.prog 38 := fun args w => Try.call38 args w
theorem en39 : Entered Try.prog 39 := fun args w => Try.call39 args w
theorem en40 : Entered Try.prog 40 := fun args w => Try.call40 args w
theorem en41 : Entered Try.prog 41 := fun args w => Try.call41 args w
theorem en42 : Entered Try.prog 42 := fun args w => Try.call42 args w
theorem en43 : Entered Try.prog 43 := fun args w => Try.call43 args w
theorem en44 : Entered Try.prog 44 := fun args w => Try.call44 args w
theorem en45 : Entered Try.prog 45 := fun args w => Try.call45 args w
theorem en46 : Entered Try.prog 46 := fun args w => Try.call46 args w
theorem en47 : Entered Try.prog 47 := fun args w => Try.call47 args w
theorem en48 : Entered Try.prog 48 := fun args w => Try.call48 args w
theorem en49 : Entered Try.prog 49 := fun args w => Try.call49 args w
theorem en50 : Entered Try.prog 50 := fun args w => Try.call50 args w
theorem en51 : Entered Try.prog 51 := fun args w => Try.call51 args w
theorem en52 : Entered Try.prog 52 := fun args w => Try.call52 args w
theorem en53 : Entered Try.prog 53 := fun args w => Try.call53 args w
theorem en54 : Entered Try.prog 54 := fun args w => Try.call54 args w
theorem en55 : Entered Try.prog 55 := fun args w => Try.call55 args w
theorem en56 : Entered Try.prog 56 := fun args w => Try.call56 args w
theorem en57 : Entered Try.prog 57 := fun args w => Try.call57 args w
theorem en58 : Entered Try.prog 58 := fun args w => Try.call58 args w
theorem en59 : Entered Try.prog 59 := fun args w => Try.call59 args w
theorem en60 : Entered Try.prog 60 := fun args w => Try.call60 args w
theorem en61 : Entered Try.prog 61 := fun args w => Try.call61 args w
theorem en62 : Entered Try.prog 62 := fun args w => Try.call62 args w
theorem en64 : Entered Try.prog 64 := fun args w => Try.call64 args w
theorem en65 : Entered Try.prog 65 := fun args w => Try.call65 args w
theorem en66 : Entered Try.prog 66 := fun args w => Try.call66 args w
theorem en68 : Entered Try.prog 68 := fun args w => Try.call68 args w
theorem en69 : Entered Try.prog 69 := fun args w => Try.call69 args w
theorem op3 : Opens Try.prog 3 eI I64 := Opens.i64 Try.underlying3
theorem op22 : Opens Try.prog 22 eLeI (OkL I64) := Opens.slice Try.underlying22 (n := 1) (by kernel_rfl) (by decide) op3
theorem op24 : Opens Try.prog 24 eApiFloor OkApiFloor := fun enc w held fuel cells d ps ht => by
  obtain ⟨fuel', hl, hf⟩ := Opens.st (N := 5) Try.underlying24 (by kernel_rfl) ht
  obtain ⟨x0, k0, l0, c0⟩ := Opens.fld op3 (n := 1) (off := 0) (by kernel_rfl) (by omega) (hf _ (List.mem_of_getElem? (i := 0) rfl))
  obtain ⟨x1, k1, l1, c1⟩ := Opens.fld op3 (n := 1) (off := 1) (by kernel_rfl) (by omega) (hf _ (List.mem_of_getElem? (i := 1) rfl))
  obtain ⟨x2, k2, l2, c2⟩ := Opens.fld op3 (n := 1) (off := 2) (by kernel_rfl) (by omega) (hf _ (List.mem_of_getElem? (i := 2) rfl))
  obtain ⟨x3, k3, l3, c3⟩ := Opens.fld op22 (n := 1) (off := 3) (by kernel_rfl) (by omega) (hf _ (List.mem_of_getElem? (i := 3) rfl))
  obtain ⟨x4, k4, l4, c4⟩ := Opens.fld op22 (n := 1) (off := 4) (by kernel_rfl) (by omega) (hf _ (List.mem_of_getElem? (i := 4) rfl))
  have hc : Cov w cells 0 (eApiFloor ⟨x0, x1, x2, x3, x4⟩) := (c0.app (c1.app (c2.app (c3.app (c4.app Cov.nil)))))
  exact ⟨⟨x0, x1, x2, x3, x4⟩, ⟨k0, k1, k2, k3, k4⟩, by rw [hl]; rfl, fun j A v hA hv => hc j A v hA (by simpa using hv)⟩
theorem op9 : Opens Try.prog 9 eS OkS := Opens.str Try.underlying9
theorem op105 : Opens Try.prog 105 eApiSpan OkApiSpan := fun enc w held fuel cells d ps ht => by
  obtain ⟨fuel', hl, hf⟩ := Opens.st (N := 2) Try.underlying105 (by kernel_rfl) ht
  obtain ⟨x0, k0, l0, c0⟩ := Opens.fld op3 (n := 1) (off := 0) (by kernel_rfl) (by omega) (hf _ (List.mem_of_getElem? (i := 0) rfl))
  obtain ⟨x1, k1, l1, c1⟩ := Opens.fld op3 (n := 1) (off := 1) (by kernel_rfl) (by omega) (hf _ (List.mem_of_getElem? (i := 1) rfl))
  have hc : Cov w cells 0 (eApiSpan ⟨x0, x1⟩) := (c0.app (c1.app Cov.nil))
  exact ⟨⟨x0, x1⟩, ⟨k0, k1⟩, by rw [hl]; rfl, fun j A v hA hv => hc j A v hA (by simpa using hv)⟩
theorem op63 : Opens Try.prog 63 eLeApiSpan (OkL OkApiSpan) := Opens.slice Try.underlying63 (n := 2) (by kernel_rfl) (by decide) op105
theorem op65 : Opens Try.prog 65 eApiZone OkApiZone := fun enc w held fuel cells d ps ht => by
  obtain ⟨fuel', hl, hf⟩ := Opens.st (N := 5) Try.underlying65 (by kernel_rfl) ht
  obtain ⟨x0, k0, l0, c0⟩ := Opens.fld op9 (n := 1) (off := 0) (by kernel_rfl) (by omega) (hf _ (List.mem_of_getElem? (i := 0) rfl))
  obtain ⟨x1, k1, l1, c1⟩ := Opens.fld op22 (n := 1) (off := 1) (by kernel_rfl) (by omega) (hf _ (List.mem_of_getElem? (i := 1) rfl))
  obtain ⟨x2, k2, l2, c2⟩ := Opens.fld op3 (n := 1) (off := 2) (by kernel_rfl) (by omega) (hf _ (List.mem_of_getElem? (i := 2) rfl))
  obtain ⟨x3, k3, l3, c3⟩ := Opens.fld op3 (n := 1) (off := 3) (by kernel_rfl) (by omega) (hf _ (List.mem_of_getElem? (i := 3) rfl))
  obtain ⟨x4, k4, l4, c4⟩ := Opens.fld op63 (n := 1) (off := 4) (by kernel_rfl) (by omega) (hf _ (List.mem_of_getElem? (i := 4) rfl))
  have hc : Cov w cells 0 (eApiZone ⟨x0, x1, x2, x3, x4⟩) := (c0.app (c1.app (c2.app (c3.app (c4.app Cov.nil)))))
  exact ⟨⟨x0, x1, x2, x3, x4⟩, ⟨k0, k1, k2, k3, k4⟩, by rw [hl]; rfl, fun j A v hA hv => hc j A v hA (by simpa using hv)⟩
theorem op25 : Opens Try.prog 25 eLeApiZone (OkL OkApiZone) := Opens.slice Try.underlying25 (n := 5) (by kernel_rfl) (by decide) op65
theorem op67 : Opens Try.prog 67 eApiApart OkApiApart := fun enc w held fuel cells d ps ht => by
  obtain ⟨fuel', hl, hf⟩ := Opens.st (N := 2) Try.underlying67 (by kernel_rfl) ht
  obtain ⟨x0, k0, l0, c0⟩ := Opens.fld op9 (n := 1) (off := 0) (by kernel_rfl) (by omega) (hf _ (List.mem_of_getElem? (i := 0) rfl))
  obtain ⟨x1, k1, l1, c1⟩ := Opens.fld op9 (n := 1) (off := 1) (by kernel_rfl) (by omega) (hf _ (List.mem_of_getElem? (i := 1) rfl))
  have hc : Cov w cells 0 (eApiApart ⟨x0, x1⟩) := (c0.app (c1.app Cov.nil))
  exact ⟨⟨x0, x1⟩, ⟨k0, k1⟩, by rw [hl]; rfl, fun j A v hA hv => hc j A v hA (by simpa using hv)⟩
theorem op26 : Opens Try.prog 26 eLeApiApart (OkL OkApiApart) := Opens.slice Try.underlying26 (n := 2) (by kernel_rfl) (by decide) op67
theorem op69 : Opens Try.prog 69 eApiShelf OkApiShelf := fun enc w held fuel cells d ps ht => by
  obtain ⟨fuel', hl, hf⟩ := Opens.st (N := 2) Try.underlying69 (by kernel_rfl) ht
  obtain ⟨x0, k0, l0, c0⟩ := Opens.fld op3 (n := 1) (off := 0) (by kernel_rfl) (by omega) (hf _ (List.mem_of_getElem? (i := 0) rfl))
  obtain ⟨x1, k1, l1, c1⟩ := Opens.fld op9 (n := 1) (off := 1) (by kernel_rfl) (by omega) (hf _ (List.mem_of_getElem? (i := 1) rfl))
  have hc : Cov w cells 0 (eApiShelf ⟨x0, x1⟩) := (c0.app (c1.app Cov.nil))
  exact ⟨⟨x0, x1⟩, ⟨k0, k1⟩, by rw [hl]; rfl, fun j A v hA hv => hc j A v hA (by simpa using hv)⟩
theorem op27 : Opens Try.prog 27 eLeApiShelf (OkL OkApiShelf) := Opens.slice Try.underlying27 (n := 2) (by kernel_rfl) (by decide) op69
theorem op83 : Opens Try.prog 83 eApiStart OkApiStart := fun enc w held fuel cells d ps ht => by
  obtain ⟨fuel', hl, hf⟩ := Opens.st (N := 2) Try.underlying83 (by kernel_rfl) ht
  obtain ⟨x0, k0, l0, c0⟩ := Opens.fld op3 (n := 1) (off := 0) (by kernel_rfl) (by omega) (hf _ (List.mem_of_getElem? (i := 0) rfl))
  obtain ⟨x1, k1, l1, c1⟩ := Opens.fld op3 (n := 1) (off := 1) (by kernel_rfl) (by omega) (hf _ (List.mem_of_getElem? (i := 1) rfl))
  have hc : Cov w cells 0 (eApiStart ⟨x0, x1⟩) := (c0.app (c1.app Cov.nil))
  exact ⟨⟨x0, x1⟩, ⟨k0, k1⟩, by rw [hl]; rfl, fun j A v hA hv => hc j A v hA (by simpa using hv)⟩
theorem op28 : Opens Try.prog 28 eLeApiStart (OkL OkApiStart) := Opens.slice Try.underlying28 (n := 2) (by kernel_rfl) (by decide) op83
theorem op30 : Opens Try.prog 30 eApiSite OkApiSite := fun enc w held fuel cells d ps ht => by
  obtain ⟨fuel', hl, hf⟩ := Opens.st (N := 9) Try.underlying30 (by kernel_rfl) ht
  obtain ⟨x0, k0, l0, c0⟩ := Opens.fld op24 (n := 5) (off := 0) (by kernel_rfl) (by omega) (hf _ (List.mem_of_getElem? (i := 0) rfl))
  obtain ⟨x1, k1, l1, c1⟩ := Opens.fld op25 (n := 1) (off := 5) (by kernel_rfl) (by omega) (hf _ (List.mem_of_getElem? (i := 1) rfl))
  obtain ⟨x2, k2, l2, c2⟩ := Opens.fld op26 (n := 1) (off := 6) (by kernel_rfl) (by omega) (hf _ (List.mem_of_getElem? (i := 2) rfl))
  obtain ⟨x3, k3, l3, c3⟩ := Opens.fld op27 (n := 1) (off := 7) (by kernel_rfl) (by omega) (hf _ (List.mem_of_getElem? (i := 3) rfl))
  obtain ⟨x4, k4, l4, c4⟩ := Opens.fld op28 (n := 1) (off := 8) (by kernel_rfl) (by omega) (hf _ (List.mem_of_getElem? (i := 4) rfl))
  have hc : Cov w cells 0 (eApiSite ⟨x0, x1, x2, x3, x4⟩) := (c0.app (c1.app (c2.app (c3.app (c4.app Cov.nil)))))
  exact ⟨⟨x0, x1, x2, x3, x4⟩, ⟨k0, k1, k2, k3, k4⟩, by rw [hl]; rfl, fun j A v hA hv => hc j A v hA (by simpa using hv)⟩
end Go.Proofs.Ytdcfcldpjfepiaa
