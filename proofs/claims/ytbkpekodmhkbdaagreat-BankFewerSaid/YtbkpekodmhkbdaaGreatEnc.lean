/- The encodings of the data, and the types' table (written by a program of the prover). -/
import Derived.Test.YtbkpekodmhkbdaaGreatVc
import Derived.Test.YtbkpekodmhkbdaaGreatChecked
import Derived.Test.YtbkpekodmhkbdaaGreatLibZC
import Derived.Test.YtbkpekodmhkbdaaGreatLibZR
import Derived.Test.YtbkpekodmhkbdaaGreatLibZS
import Derived.Test.YtbkpekodmhkbdaaGreatLibZI
import Derived.Test.YtbkpekodmhkbdaaGreatLibZG
import Derived.RangeFuncLeaves
import Derived.WalkKit
import Derived.OwnWalkIn
import Derived.TacticsInMore
import Derived.LoopNIn
import Derived.LoopIn
import Derived.WalkKit
import Derived.Lib.Walk
import Derived.Laws.Externs
import Derived.Laws.IdiomCopy
import Derived.Deep.RegionLaw
import Derived.IntWalk
import Derived.KernelRfl
set_option maxRecDepth 100000
set_option maxHeartbeats 8000000
set_option linter.unusedVariables false
set_option linter.unusedSimpArgs false
namespace Go.Proofs.YtbkpekodmhkbdaaGreat
open Go Go.Taq
@[reducible] def eI (x : Int) : List AVal := [.i x]
@[reducible] def eApiSpan (x : ApiSpan) : List AVal := [.i x.From, .i x.To]
@[reducible] def eApiZone (x : ApiZone) : List AVal := [.v (.string x.Name), .sl 1 eI x.Cells, .i x.Speed, .i x.Keep, .sl 2 eApiSpan x.Shut]
@[reducible] def eApiApart (x : ApiApart) : List AVal := [.v (.string x.A), .v (.string x.B)]
@[reducible] def eApiShelf (x : ApiShelf) : List AVal := [.i x.Cell, .v (.string x.Class)]
@[reducible] def eApiStart (x : ApiStart) : List AVal := [.i x.Cell, .i x.Charge]
@[reducible] def eApiRobot (x : ApiRobot) : List AVal := [.i x.Cell, .i x.Load, .i x.Charge, .i x.Rest, .i x.Mute, .b x.Dead]
@[reducible] def eApiStuck (x : ApiStuck) : List AVal := [.i x.Cell, .i x.Left]
def kI (x : Int) : Value := .int .i64 x
@[reducible] def eB (x : Bool) : List AVal := [.b x]
def veB (x : Bool) : AVal := .b x
@[reducible] def eApiSite (x : ApiSite) : List AVal := [.i x.Floor.W, .i x.Floor.H, .i x.Floor.D, .sl 1 eI x.Floor.Kind, .sl 1 eI x.Floor.Out, .sl 5 eApiZone x.Zones, .sl 2 eApiApart x.Aparts, .sl 2 eApiShelf x.Shelves, .sl 2 eApiStart x.Robots]
@[reducible] def eApiState (x : ApiState) : List AVal := [.i x.Tick, .sl 1 eI x.Shelves, .sl 6 eApiRobot x.Robots, .sl 1 eI x.People, .sl 1 eI x.Dead, .sl 2 eApiStuck x.Stuck]
@[reducible] def eLeI (x : List Int) : List AVal := [.sl 1 eI x]
@[reducible] def eApiFloor (x : ApiFloor) : List AVal := [.i x.W, .i x.H, .i x.D, .sl 1 eI x.Kind, .sl 1 eI x.Out]
@[reducible] def eFloorStep (x : FloorStep) : List AVal := [.i x.x, .i x.y, .i x.z]
def veI (x : Int) : AVal := .i x
def kS (x : ByteArray) : Value := .string x
@[reducible] def eS (x : ByteArray) : List AVal := [.v (.string x)]
@[reducible] def eLeApiSpan (x : List ApiSpan) : List AVal := [.sl 2 eApiSpan x]
@[reducible] def eLeApiZone (x : List ApiZone) : List AVal := [.sl 5 eApiZone x]
@[reducible] def eLeApiApart (x : List ApiApart) : List AVal := [.sl 2 eApiApart x]
@[reducible] def eLeApiShelf (x : List ApiShelf) : List AVal := [.sl 2 eApiShelf x]
@[reducible] def eLeApiStart (x : List ApiStart) : List AVal := [.sl 2 eApiStart x]
@[reducible] def eLeApiRobot (x : List ApiRobot) : List AVal := [.sl 6 eApiRobot x]
@[reducible] def eLeApiStuck (x : List ApiStuck) : List AVal := [.sl 2 eApiStuck x]
def te3 : TE := ⟨.int .i64, 1, 8, [.int .i64 0]⟩
theorem teok3 : TEok Tryz.prog 3 te3 := ⟨⟨_, Tryz.underlying3, rfl⟩, Tryz.t3, _, (by kernel_rfl : Tryz.prog.info? 3 = some Tryz.t3), rfl, rfl, rfl, rfl, (fun h => by cases h), rfl, by decide⟩
def te4 : TE := ⟨.bool, 1, 1, [.bool false]⟩
theorem teok4 : TEok Tryz.prog 4 te4 := ⟨⟨_, Tryz.underlying4, rfl⟩, Tryz.t4, _, (by kernel_rfl : Tryz.prog.info? 4 = some Tryz.t4), rfl, rfl, rfl, rfl, (fun h => by cases h), rfl, by decide⟩
def te5 : TE := ⟨.int .u8, 1, 1, [.int .u8 0]⟩
theorem teok5 : TEok Tryz.prog 5 te5 := ⟨⟨_, Tryz.underlying5, rfl⟩, Tryz.t5, _, (by kernel_rfl : Tryz.prog.info? 5 = some Tryz.t5), rfl, rfl, rfl, rfl, (fun h => by cases h), rfl, by decide⟩
def te9 : TE := ⟨.str, 1, 16, [.string ByteArray.empty]⟩
theorem teok9 : TEok Tryz.prog 9 te9 := ⟨⟨_, Tryz.underlying9, rfl⟩, Tryz.t9, _, (by kernel_rfl : Tryz.prog.info? 9 = some Tryz.t9), rfl, rfl, rfl, rfl, (fun h => by cases h), rfl, by decide⟩
def te22 : TE := ⟨.sl 3, 1, 24, [.slice none 0 0]⟩
theorem teok22 : TEok Tryz.prog 22 te22 := ⟨⟨_, Tryz.underlying22, rfl⟩, Tryz.t22, _, (by kernel_rfl : Tryz.prog.info? 22 = some Tryz.t22), rfl, rfl, rfl, rfl, (fun h => by cases h), rfl, by decide⟩
def te24 : TE := ⟨.st [(0, 3), (1, 3), (2, 3), (3, 22), (4, 22)], 5, 72, [.int .i64 0, .int .i64 0, .int .i64 0, .slice none 0 0, .slice none 0 0]⟩
theorem teok24 : TEok Tryz.prog 24 te24 := ⟨⟨_, Tryz.underlying24, ⟨_, rfl, rfl⟩⟩, Tryz.t24, _, (by kernel_rfl : Tryz.prog.info? 24 = some Tryz.t24), rfl, rfl, rfl, rfl, (fun _ => ⟨_, rfl⟩), rfl, by decide⟩
def te25 : TE := ⟨.sl 59, 1, 24, [.slice none 0 0]⟩
theorem teok25 : TEok Tryz.prog 25 te25 := ⟨⟨_, Tryz.underlying25, rfl⟩, Tryz.t25, _, (by kernel_rfl : Tryz.prog.info? 25 = some Tryz.t25), rfl, rfl, rfl, rfl, (fun h => by cases h), rfl, by decide⟩
def te26 : TE := ⟨.sl 69, 1, 24, [.slice none 0 0]⟩
theorem teok26 : TEok Tryz.prog 26 te26 := ⟨⟨_, Tryz.underlying26, rfl⟩, Tryz.t26, _, (by kernel_rfl : Tryz.prog.info? 26 = some Tryz.t26), rfl, rfl, rfl, rfl, (fun h => by cases h), rfl, by decide⟩
def te27 : TE := ⟨.sl 71, 1, 24, [.slice none 0 0]⟩
theorem teok27 : TEok Tryz.prog 27 te27 := ⟨⟨_, Tryz.underlying27, rfl⟩, Tryz.t27, _, (by kernel_rfl : Tryz.prog.info? 27 = some Tryz.t27), rfl, rfl, rfl, rfl, (fun h => by cases h), rfl, by decide⟩
def te28 : TE := ⟨.sl 84, 1, 24, [.slice none 0 0]⟩
theorem teok28 : TEok Tryz.prog 28 te28 := ⟨⟨_, Tryz.underlying28, rfl⟩, Tryz.t28, _, (by kernel_rfl : Tryz.prog.info? 28 = some Tryz.t28), rfl, rfl, rfl, rfl, (fun h => by cases h), rfl, by decide⟩
def te30 : TE := ⟨.st [(0, 24), (5, 25), (6, 26), (7, 27), (8, 28)], 9, 168, [.int .i64 0, .int .i64 0, .int .i64 0, .slice none 0 0, .slice none 0 0, .slice none 0 0, .slice none 0 0, .slice none 0 0, .slice none 0 0]⟩
theorem teok30 : TEok Tryz.prog 30 te30 := ⟨⟨_, Tryz.underlying30, ⟨_, rfl, rfl⟩⟩, Tryz.t30, _, (by kernel_rfl : Tryz.prog.info? 30 = some Tryz.t30), rfl, rfl, rfl, rfl, (fun _ => ⟨_, rfl⟩), rfl, by decide⟩
def te31 : TE := ⟨.sl 53, 1, 24, [.slice none 0 0]⟩
theorem teok31 : TEok Tryz.prog 31 te31 := ⟨⟨_, Tryz.underlying31, rfl⟩, Tryz.t31, _, (by kernel_rfl : Tryz.prog.info? 31 = some Tryz.t31), rfl, rfl, rfl, rfl, (fun h => by cases h), rfl, by decide⟩
def te32 : TE := ⟨.sl 129, 1, 24, [.slice none 0 0]⟩
theorem teok32 : TEok Tryz.prog 32 te32 := ⟨⟨_, Tryz.underlying32, rfl⟩, Tryz.t32, _, (by kernel_rfl : Tryz.prog.info? 32 = some Tryz.t32), rfl, rfl, rfl, rfl, (fun h => by cases h), rfl, by decide⟩
def te34 : TE := ⟨.st [(0, 3), (1, 22), (2, 31), (3, 22), (4, 22), (5, 32)], 6, 128, [.int .i64 0, .slice none 0 0, .slice none 0 0, .slice none 0 0, .slice none 0 0, .slice none 0 0]⟩
theorem teok34 : TEok Tryz.prog 34 te34 := ⟨⟨_, Tryz.underlying34, ⟨_, rfl, rfl⟩⟩, Tryz.t34, _, (by kernel_rfl : Tryz.prog.info? 34 = some Tryz.t34), rfl, rfl, rfl, rfl, (fun _ => ⟨_, rfl⟩), rfl, by decide⟩
def te43 : TE := ⟨.int .i64, 1, 8, [.int .i64 0]⟩
theorem teok43 : TEok Tryz.prog 43 te43 := ⟨⟨_, Tryz.underlying43, rfl⟩, Tryz.t43, _, (by kernel_rfl : Tryz.prog.info? 43 = some Tryz.t43), rfl, rfl, rfl, rfl, (fun h => by cases h), rfl, by decide⟩
def te53 : TE := ⟨.st [(0, 3), (1, 3), (2, 3), (3, 3), (4, 3), (5, 4)], 6, 48, [.int .i64 0, .int .i64 0, .int .i64 0, .int .i64 0, .int .i64 0, .bool false]⟩
theorem teok53 : TEok Tryz.prog 53 te53 := ⟨⟨_, Tryz.underlying53, ⟨_, rfl, rfl⟩⟩, Tryz.t53, _, (by kernel_rfl : Tryz.prog.info? 53 = some Tryz.t53), rfl, rfl, rfl, rfl, (fun _ => ⟨_, rfl⟩), rfl, by decide⟩
def te55 : TE := ⟨.fn, 1, 8, [.nilFunc]⟩
theorem teok55 : TEok Tryz.prog 55 te55 := ⟨⟨_, Tryz.underlying55, ⟨_, _, _, rfl⟩⟩, Tryz.t55, _, (by kernel_rfl : Tryz.prog.info? 55 = some Tryz.t55), rfl, rfl, rfl, rfl, (fun h => by cases h), rfl, by decide⟩
def te57 : TE := ⟨.sl 120, 1, 24, [.slice none 0 0]⟩
theorem teok57 : TEok Tryz.prog 57 te57 := ⟨⟨_, Tryz.underlying57, rfl⟩, Tryz.t57, _, (by kernel_rfl : Tryz.prog.info? 57 = some Tryz.t57), rfl, rfl, rfl, rfl, (fun h => by cases h), rfl, by decide⟩
def te59 : TE := ⟨.st [(0, 9), (1, 22), (2, 3), (3, 3), (4, 57)], 5, 80, [.string ByteArray.empty, .slice none 0 0, .int .i64 0, .int .i64 0, .slice none 0 0]⟩
theorem teok59 : TEok Tryz.prog 59 te59 := ⟨⟨_, Tryz.underlying59, ⟨_, rfl, rfl⟩⟩, Tryz.t59, _, (by kernel_rfl : Tryz.prog.info? 59 = some Tryz.t59), rfl, rfl, rfl, rfl, (fun _ => ⟨_, rfl⟩), rfl, by decide⟩
def te69 : TE := ⟨.st [(0, 9), (1, 9)], 2, 32, [.string ByteArray.empty, .string ByteArray.empty]⟩
theorem teok69 : TEok Tryz.prog 69 te69 := ⟨⟨_, Tryz.underlying69, ⟨_, rfl, rfl⟩⟩, Tryz.t69, _, (by kernel_rfl : Tryz.prog.info? 69 = some Tryz.t69), rfl, rfl, rfl, rfl, (fun _ => ⟨_, rfl⟩), rfl, by decide⟩
def te71 : TE := ⟨.st [(0, 3), (1, 9)], 2, 24, [.int .i64 0, .string ByteArray.empty]⟩
theorem teok71 : TEok Tryz.prog 71 te71 := ⟨⟨_, Tryz.underlying71, ⟨_, rfl, rfl⟩⟩, Tryz.t71, _, (by kernel_rfl : Tryz.prog.info? 71 = some Tryz.t71), rfl, rfl, rfl, rfl, (fun _ => ⟨_, rfl⟩), rfl, by decide⟩
def te74 : TE := ⟨.pt 117, 1, 8, [.pointer none]⟩
theorem teok74 : TEok Tryz.prog 74 te74 := ⟨⟨_, Tryz.underlying74, rfl⟩, Tryz.t74, _, (by kernel_rfl : Tryz.prog.info? 74 = some Tryz.t74), rfl, rfl, rfl, rfl, (fun h => by cases h), rfl, by decide⟩
def te84 : TE := ⟨.st [(0, 3), (1, 3)], 2, 16, [.int .i64 0, .int .i64 0]⟩
theorem teok84 : TEok Tryz.prog 84 te84 := ⟨⟨_, Tryz.underlying84, ⟨_, rfl, rfl⟩⟩, Tryz.t84, _, (by kernel_rfl : Tryz.prog.info? 84 = some Tryz.t84), rfl, rfl, rfl, rfl, (fun _ => ⟨_, rfl⟩), rfl, by decide⟩
def te94 : TE := ⟨.fn, 1, 8, [.nilFunc]⟩
theorem teok94 : TEok Tryz.prog 94 te94 := ⟨⟨_, Tryz.underlying94, ⟨_, _, _, rfl⟩⟩, Tryz.t94, _, (by kernel_rfl : Tryz.prog.info? 94 = some Tryz.t94), rfl, rfl, rfl, rfl, (fun h => by cases h), rfl, by decide⟩
def te95 : TE := ⟨.pt 100, 1, 8, [.pointer none]⟩
theorem teok95 : TEok Tryz.prog 95 te95 := ⟨⟨_, Tryz.underlying95, rfl⟩, Tryz.t95, _, (by kernel_rfl : Tryz.prog.info? 95 = some Tryz.t95), rfl, rfl, rfl, rfl, (fun h => by cases h), rfl, by decide⟩
def te98 : TE := ⟨.mp 3 4, 1, 8, [.map none]⟩
theorem teok98 : TEok Tryz.prog 98 te98 := ⟨⟨_, Tryz.underlying98, rfl⟩, Tryz.t98, _, (by kernel_rfl : Tryz.prog.info? 98 = some Tryz.t98), rfl, rfl, rfl, rfl, (fun h => by cases h), rfl, by decide⟩
def te100 : TE := ⟨.st [(0, 30), (9, 34), (15, 22), (16, 98)], 17, 328, [.int .i64 0, .int .i64 0, .int .i64 0, .slice none 0 0, .slice none 0 0, .slice none 0 0, .slice none 0 0, .slice none 0 0, .slice none 0 0, .int .i64 0, .slice none 0 0, .slice none 0 0, .slice none 0 0, .slice none 0 0, .slice none 0 0, .slice none 0 0, .map none]⟩
theorem teok100 : TEok Tryz.prog 100 te100 := ⟨⟨_, Tryz.underlying100, ⟨_, rfl, rfl⟩⟩, Tryz.t100, _, (by kernel_rfl : Tryz.prog.info? 100 = some Tryz.t100), rfl, rfl, rfl, rfl, (fun _ => ⟨_, rfl⟩), rfl, by decide⟩
def te114 : TE := ⟨.mp 3 3, 1, 8, [.map none]⟩
theorem teok114 : TEok Tryz.prog 114 te114 := ⟨⟨_, Tryz.underlying114, rfl⟩, Tryz.t114, _, (by kernel_rfl : Tryz.prog.info? 114 = some Tryz.t114), rfl, rfl, rfl, rfl, (fun h => by cases h), rfl, by decide⟩
def te115 : TE := ⟨.mp 9 3, 1, 8, [.map none]⟩
theorem teok115 : TEok Tryz.prog 115 te115 := ⟨⟨_, Tryz.underlying115, rfl⟩, Tryz.t115, _, (by kernel_rfl : Tryz.prog.info? 115 = some Tryz.t115), rfl, rfl, rfl, rfl, (fun h => by cases h), rfl, by decide⟩
def te117 : TE := ⟨.st [(0, 30), (9, 114), (10, 98), (11, 98), (12, 115), (13, 98), (14, 22), (15, 22)], 16, 256, [.int .i64 0, .int .i64 0, .int .i64 0, .slice none 0 0, .slice none 0 0, .slice none 0 0, .slice none 0 0, .slice none 0 0, .slice none 0 0, .map none, .map none, .map none, .map none, .map none, .slice none 0 0, .slice none 0 0]⟩
theorem teok117 : TEok Tryz.prog 117 te117 := ⟨⟨_, Tryz.underlying117, ⟨_, rfl, rfl⟩⟩, Tryz.t117, _, (by kernel_rfl : Tryz.prog.info? 117 = some Tryz.t117), rfl, rfl, rfl, rfl, (fun _ => ⟨_, rfl⟩), rfl, by decide⟩
def te120 : TE := ⟨.st [(0, 3), (1, 3)], 2, 16, [.int .i64 0, .int .i64 0]⟩
theorem teok120 : TEok Tryz.prog 120 te120 := ⟨⟨_, Tryz.underlying120, ⟨_, rfl, rfl⟩⟩, Tryz.t120, _, (by kernel_rfl : Tryz.prog.info? 120 = some Tryz.t120), rfl, rfl, rfl, rfl, (fun _ => ⟨_, rfl⟩), rfl, by decide⟩
def te127 : TE := ⟨.fn, 1, 8, [.nilFunc]⟩
theorem teok127 : TEok Tryz.prog 127 te127 := ⟨⟨_, Tryz.underlying127, ⟨_, _, _, rfl⟩⟩, Tryz.t127, _, (by kernel_rfl : Tryz.prog.info? 127 = some Tryz.t127), rfl, rfl, rfl, rfl, (fun h => by cases h), rfl, by decide⟩
def te129 : TE := ⟨.st [(0, 3), (1, 3)], 2, 16, [.int .i64 0, .int .i64 0]⟩
theorem teok129 : TEok Tryz.prog 129 te129 := ⟨⟨_, Tryz.underlying129, ⟨_, rfl, rfl⟩⟩, Tryz.t129, _, (by kernel_rfl : Tryz.prog.info? 129 = some Tryz.t129), rfl, rfl, rfl, rfl, (fun _ => ⟨_, rfl⟩), rfl, by decide⟩
def te131 : TE := ⟨.fn, 1, 8, [.nilFunc]⟩
theorem teok131 : TEok Tryz.prog 131 te131 := ⟨⟨_, Tryz.underlying131, ⟨_, _, _, rfl⟩⟩, Tryz.t131, _, (by kernel_rfl : Tryz.prog.info? 131 = some Tryz.t131), rfl, rfl, rfl, rfl, (fun h => by cases h), rfl, by decide⟩
def te134 : TE := ⟨.fn, 1, 8, [.nilFunc]⟩
theorem teok134 : TEok Tryz.prog 134 te134 := ⟨⟨_, Tryz.underlying134, ⟨_, _, _, rfl⟩⟩, Tryz.t134, _, (by kernel_rfl : Tryz.prog.info? 134 = some Tryz.t134), rfl, rfl, rfl, rfl, (fun h => by cases h), rfl, by decide⟩
def te142 : TE := ⟨.sl 4, 1, 24, [.slice none 0 0]⟩
theorem teok142 : TEok Tryz.prog 142 te142 := ⟨⟨_, Tryz.underlying142, rfl⟩, Tryz.t142, _, (by kernel_rfl : Tryz.prog.info? 142 = some Tryz.t142), rfl, rfl, rfl, rfl, (fun h => by cases h), rfl, by decide⟩
def te145 : TE := ⟨.st [(0, 3), (1, 3), (2, 3)], 3, 24, [.int .i64 0, .int .i64 0, .int .i64 0]⟩
theorem teok145 : TEok Tryz.prog 145 te145 := ⟨⟨_, Tryz.underlying145, ⟨_, rfl, rfl⟩⟩, Tryz.t145, _, (by kernel_rfl : Tryz.prog.info? 145 = some Tryz.t145), rfl, rfl, rfl, rfl, (fun _ => ⟨_, rfl⟩), rfl, by decide⟩
def te146 : TE := ⟨.ar 6 145, 18, 144, List.replicate 18 (.int .i64 0)⟩
theorem teok146 : TEok Tryz.prog 146 te146 := ⟨⟨_, Tryz.underlying146, rfl⟩, Tryz.t146, _, (by kernel_rfl : Tryz.prog.info? 146 = some Tryz.t146), rfl, rfl, rfl, rfl, (fun _ => ⟨_, rfl⟩), rfl, by decide⟩
def te168 : TE := ⟨.sl 22, 1, 24, [.slice none 0 0]⟩
theorem teok168 : TEok Tryz.prog 168 te168 := ⟨⟨_, Tryz.underlying168, rfl⟩, Tryz.t168, _, (by kernel_rfl : Tryz.prog.info? 168 = some Tryz.t168), rfl, rfl, rfl, rfl, (fun h => by cases h), rfl, by decide⟩
def te214 : TE := ⟨.ar 6 3, 6, 48, [.int .i64 0, .int .i64 0, .int .i64 0, .int .i64 0, .int .i64 0, .int .i64 0]⟩
theorem teok214 : TEok Tryz.prog 214 te214 := ⟨⟨_, Tryz.underlying214, rfl⟩, Tryz.t214, _, (by kernel_rfl : Tryz.prog.info? 214 = some Tryz.t214), rfl, rfl, rfl, rfl, (fun _ => ⟨_, rfl⟩), rfl, by decide⟩
theorem eqt69 : EqT Tryz.prog 69 [(0, 9), (1, 9)] := ⟨by kernel_rfl, by kernel_rfl, by kernel_rfl, by kernel_rfl, by kernel_rfl⟩
def tab : Tab := [(3, te3), (4, te4), (5, te5), (9, te9), (22, te22), (24, te24), (25, te25), (26, te26), (27, te27), (28, te28), (30, te30), (31, te31), (32, te32), (34, te34), (43, te43), (53, te53), (55, te55), (57, te57), (59, te59), (69, te69), (71, te71), (74, te74), (84, te84), (94, te94), (95, te95), (98, te98), (100, te100), (114, te114), (115, te115), (117, te117), (120, te120), (127, te127), (129, te129), (131, te131), (134, te134), (142, te142), (145, te145), (146, te146), (168, te168), (214, te214)]
theorem T : TabOk Tryz.prog tab := (.cons teok3 (.cons teok4 (.cons teok5 (.cons teok9 (.cons teok22 (.cons teok24 (.cons teok25 (.cons teok26 (.cons teok27 (.cons teok28 (.cons teok30 (.cons teok31 (.cons teok32 (.cons teok34 (.cons teok43 (.cons teok53 (.cons teok55 (.cons teok57 (.cons teok59 (.cons teok69 (.cons teok71 (.cons teok74 (.cons teok84 (.cons teok94 (.cons teok95 (.cons teok98 (.cons teok100 (.cons teok114 (.cons teok115 (.cons teok117 (.cons teok120 (.cons teok127 (.cons teok129 (.cons teok131 (.cons teok134 (.cons teok142 (.cons teok145 (.cons teok146 (.cons teok168 (.cons teok214 TabOk.nil))))))))))))))))))))))))))))))))))))))))
theorem kt3 : KeyT Tryz.prog 3 kI := KeyT.int Tryz.underlying3
theorem kt9 : KeyT Tryz.prog 9 kS := KeyT.str Tryz.underlying9
theorem zt3 : ZeroT Tryz.prog 3 veI 0 := ⟨(.int .i64 0), fun w => by kernel_rfl, fun _ _ => (.v _)⟩
theorem zt4 : ZeroT Tryz.prog 4 veB false := ⟨(.bool false), fun w => by kernel_rfl, fun _ _ => (.v _)⟩
theorem mix : Tryz.prog.follows .mixedOrders = true := by kernel_rfl
theorem en8 : Entered Tryz.prog 8 := fun args w => Tryz.call8 args w
theorem en9 : Entered Tryz.prog 9 := fun args w => Tryz.call9 args w
theorem en10 : Entered Tryz.prog 10 := fun args w => Tryz.call10 args w
theorem en11 : Entered Tryz.prog 11 := fun args w => Tryz.call11 args w
theorem en12 : Entered Tryz.prog 12 := fun args w => Tryz.call12 args w
theorem en13 : Entered Tryz.prog 13 := fun args w => Tryz.call13 args w
theorem en15 : Entered Tryz.prog 15 := fun args w => Tryz.call15 args w
theorem en17 : Entered Tryz.prog 17 := fun args w => Tryz.call17 args w
theorem en19 : Entered Tryz.prog 19 := fun args w => Tryz.call19 args w
theorem en20 : Entered Tryz.prog 20 := fun args w => Tryz.call20 args w
theorem en22 : Entered Tryz.prog 22 := fun args w => Tryz.call22 args w
theorem en23 : Entered Tryz.prog 23 := fun args w => Tryz.call23 args w
theorem en24 : Entered Tryz.prog 24 := fun args w => Tryz.call24 args w
theorem en28 : Entered Tryz.prog 28 := fun args w => Tryz.call28 args w
theorem en29 : Entered Tryz.prog 29 := fun args w => Tryz.call29 args w
theorem en30 : Entered Tryz.prog 30 := fun args w => Tryz.call30 args w
theorem en31 : Entered Tryz.prog 31 := fun args w => Tryz.call31 args w
theorem en32 : Entered Tryz.prog 32 := fun args w => Tryz.call32 args w
theorem en33 : Entered Tryz.prog 33 := fun args w => Tryz.call33 args w
theorem en34 : Entered Tryz.prog 34 := fun args w => Tryz.call34 args w
theorem en35 : Entered Tryz.prog 35 := fun args w => Tryz.call35 args w
theorem en36 : Entered Tryz.prog 36 := fun args w => Tryz.call36 args w
theorem en37 : Entered Tryz.prog 37 := fun args w => Tryz.call37 args w
theorem en38 : Entered Tryz.prog 38 := fun args w => Tryz.call38 args w
theorem en39 : Entered Tryz.prog 39 := fun args w => Tryz.call39 args w
theorem en40 : Entered Tryz.prog 40 := fun args w => Tryz.call40 args w
theorem en41 : Entered Tryz.prog 41 := fun args w => Tryz.call41 args w
theorem en42 : Entered Tryz.prog 42 := fun args w => Tryz.call42 args w
theorem en43 : Entered Tryz.prog 43 := fun args w => Tryz.call43 args w
theorem en44 : Entered Tryz.prog 44 := fun args w => Tryz.call44 args w
theorem en45 : Entered Tryz.prog 45 := fun args w => Tryz.call45 args w
theorem en46 : Entered Tryz.prog 46 := fun args w => Tryz.call46 args w
theorem en47 : Entered Tryz.prog 47 := fun args w => Tryz.call47 args w
theorem en48 : Entered Tryz.prog 48 := fun args w => Tryz.call48 args w
theorem en49 : Entered Tryz.prog 49 := fun args w => Tryz.call49 args w
theorem en50 : Entered Tryz.prog 50 := fun args w => Tryz.call50 args w
theorem en51 : Entered Tryz.prog 51 := fun args w => Tryz.call51 args w
theorem en52 : Entered Tryz.prog 52 := fun args w => Tryz.call52 args w
theorem en53 : Entered Tryz.prog 53 := fun args w => Tryz.call53 args w
theorem en54 : Entered Tryz.prog 54 := fun args w => Tryz.call54 args w
theorem en56 : Entered Tryz.prog 56 := fun args w => Tryz.call56 args w
theorem en57 : Entered Tryz.prog 57 := fun args w => Tryz.call57 args w
theorem en58 : Entered Tryz.prog 58 := fun args w => Tryz.call58 args w
theorem en60 : Entered Tryz.prog 60 := fun args w => Tryz.call60 args w
theorem en64 : Entered Tryz.prog 64 := fun args w => Tryz.call64 args w
theorem en72 : Entered Tryz.prog 72 := fun args w => Tryz.call72 args w
theorem en73 : Entered Tryz.prog 73 := fun args w => Tryz.call73 args w
theorem en74 : Entered Tryz.prog 74 := fun args w => Tryz.call74 args w
theorem en75 : Entered Tryz.prog 75 := fun args w => Tryz.call75 args w
theorem en76 : Entered Tryz.prog 76 := fun args w => Tryz.call76 args w
theorem en77 : Entered Tryz.prog 77 := fun args w => Tryz.call77 args w
theorem en78 : Entered Tryz.prog 78 := fun args w => Tryz.call78 args w
theorem en79 : Entered Tryz.prog 79 := fun args w => Tryz.call79 args w
theorem en80 : Entered Tryz.prog 80 := fun args w => Tryz.call80 args w
theorem en81 : Entered Tryz.prog 81 := fun args w => Tryz.call81 args w
theorem en82 : Entered Tryz.prog 82 := fun args w => Tryz.call82 args w
theorem en83 : Entered Tryz.prog 83 := fun args w => Tryz.call83 args w
theorem en84 : Entered Tryz.prog 84 := fun args w => Tryz.call84 args w
theorem en85 : Entered Tryz.prog 85 := fun args w => Tryz.call85 args w
theorem en86 : Entered Tryz.prog 86 := fun args w => Tryz.call86 args w
theorem en87 : Entered Tryz.prog 87 := fun args w => Tryz.call87 args w
theorem en88 : Entered Tryz.prog 88 := fun args w => Tryz.call88 args w
theorem en89 : Entered Tryz.prog 89 := fun args w => Tryz.call89 args w
theorem en90 : Entered Tryz.prog 90 := fun args w => Tryz.call90 args w
theorem en91 : Entered Tryz.prog 91 := fun args w => Tryz.call91 args w
theorem en92 : Entered Tryz.prog 92 := fun args w => Tryz.call92 args w
theorem en93 : Entered Tryz.prog 93 := fun args w => Tryz.call93 args w
theorem en94 : Entered Tryz.prog 94 := fun args w => Tryz.call94 args w
theorem en95 : Entered Tryz.prog 95 := fun args w => Tryz.call95 args w
theorem en97 : Entered Tryz.prog 97 := fun args w => Tryz.call97 args w
theorem en98 : Entered Tryz.prog 98 := fun args w => Tryz.call98 args w
theorem en99 : Entered Tryz.prog 99 := fun args w => Tryz.call99 args w
theorem en100 : Entered Tryz.prog 100 := fun args w => Tryz.call100 args w
theorem en103 : Entered Tryz.prog 103 := fun args w => Tryz.call103 args w
theorem en104 : Entered Tryz.prog 104 := fun args w => Tryz.call104 args w
theorem en122 : Entered Tryz.prog 122 := fun args w => Tryz.call122 args w
theorem en123 : Entered Tryz.prog 123 := fun args w => Tryz.call123 args w
theorem en124 : Entered Tryz.prog 124 := fun args w => Tryz.call124 args w
theorem en125 : Entered Tryz.prog 125 := fun args w => Tryz.call125 args w
theorem en126 : Entered Tryz.prog 126 := fun args w => Tryz.call126 args w
theorem en127 : Entered Tryz.prog 127 := fun args w => Tryz.call127 args w
theorem en130 : Entered Tryz.prog 130 := fun args w => Tryz.call130 args w
theorem en131 : Entered Tryz.prog 131 := fun args w => Tryz.call131 args w
theorem en132 : Entered Tryz.prog 132 := fun args w => Tryz.call132 args w
theorem en133 : Entered Tryz.prog 133 := fun args w => Tryz.call133 args w
theorem en153 : Entered Tryz.prog 153 := fun args w => Tryz.call153 args w
theorem en154 : Entered Tryz.prog 154 := fun args w => Tryz.call154 args w
theorem en166 : Entered Tryz.prog 166 := fun args w => Tryz.call166 args w
theorem en167 : Entered Tryz.prog 167 := fun args w => Tryz.call167 args w
theorem op3 : Opens Tryz.prog 3 eI I64 := Opens.i64 Tryz.underlying3
theorem op22 : Opens Tryz.prog 22 eLeI (OkL I64) := Opens.slice Tryz.underlying22 (n := 1) (by kernel_rfl) (by decide) op3
theorem op24 : Opens Tryz.prog 24 eApiFloor OkApiFloor := fun enc w held fuel cells d ps ht => by
  obtain ⟨fuel', hl, hf⟩ := Opens.st (N := 5) Tryz.underlying24 (by kernel_rfl) ht
  obtain ⟨x0, k0, l0, c0⟩ := Opens.fld op3 (n := 1) (off := 0) (by kernel_rfl) (by omega) (hf _ (List.mem_of_getElem? (i := 0) rfl))
  obtain ⟨x1, k1, l1, c1⟩ := Opens.fld op3 (n := 1) (off := 1) (by kernel_rfl) (by omega) (hf _ (List.mem_of_getElem? (i := 1) rfl))
  obtain ⟨x2, k2, l2, c2⟩ := Opens.fld op3 (n := 1) (off := 2) (by kernel_rfl) (by omega) (hf _ (List.mem_of_getElem? (i := 2) rfl))
  obtain ⟨x3, k3, l3, c3⟩ := Opens.fld op22 (n := 1) (off := 3) (by kernel_rfl) (by omega) (hf _ (List.mem_of_getElem? (i := 3) rfl))
  obtain ⟨x4, k4, l4, c4⟩ := Opens.fld op22 (n := 1) (off := 4) (by kernel_rfl) (by omega) (hf _ (List.mem_of_getElem? (i := 4) rfl))
  have hc : Cov w cells 0 (eApiFloor ⟨x0, x1, x2, x3, x4⟩) := (c0.app (c1.app (c2.app (c3.app (c4.app Cov.nil)))))
  exact ⟨⟨x0, x1, x2, x3, x4⟩, ⟨k0, k1, k2, k3, k4⟩, by rw [hl]; rfl, fun j A v hA hv => hc j A v hA (by simpa using hv)⟩
theorem op9 : Opens Tryz.prog 9 eS OkS := Opens.str Tryz.underlying9
theorem op120 : Opens Tryz.prog 120 eApiSpan OkApiSpan := fun enc w held fuel cells d ps ht => by
  obtain ⟨fuel', hl, hf⟩ := Opens.st (N := 2) Tryz.underlying120 (by kernel_rfl) ht
  obtain ⟨x0, k0, l0, c0⟩ := Opens.fld op3 (n := 1) (off := 0) (by kernel_rfl) (by omega) (hf _ (List.mem_of_getElem? (i := 0) rfl))
  obtain ⟨x1, k1, l1, c1⟩ := Opens.fld op3 (n := 1) (off := 1) (by kernel_rfl) (by omega) (hf _ (List.mem_of_getElem? (i := 1) rfl))
  have hc : Cov w cells 0 (eApiSpan ⟨x0, x1⟩) := (c0.app (c1.app Cov.nil))
  exact ⟨⟨x0, x1⟩, ⟨k0, k1⟩, by rw [hl]; rfl, fun j A v hA hv => hc j A v hA (by simpa using hv)⟩
theorem op57 : Opens Tryz.prog 57 eLeApiSpan (OkL OkApiSpan) := Opens.slice Tryz.underlying57 (n := 2) (by kernel_rfl) (by decide) op120
theorem op59 : Opens Tryz.prog 59 eApiZone OkApiZone := fun enc w held fuel cells d ps ht => by
  obtain ⟨fuel', hl, hf⟩ := Opens.st (N := 5) Tryz.underlying59 (by kernel_rfl) ht
  obtain ⟨x0, k0, l0, c0⟩ := Opens.fld op9 (n := 1) (off := 0) (by kernel_rfl) (by omega) (hf _ (List.mem_of_getElem? (i := 0) rfl))
  obtain ⟨x1, k1, l1, c1⟩ := Opens.fld op22 (n := 1) (off := 1) (by kernel_rfl) (by omega) (hf _ (List.mem_of_getElem? (i := 1) rfl))
  obtain ⟨x2, k2, l2, c2⟩ := Opens.fld op3 (n := 1) (off := 2) (by kernel_rfl) (by omega) (hf _ (List.mem_of_getElem? (i := 2) rfl))
  obtain ⟨x3, k3, l3, c3⟩ := Opens.fld op3 (n := 1) (off := 3) (by kernel_rfl) (by omega) (hf _ (List.mem_of_getElem? (i := 3) rfl))
  obtain ⟨x4, k4, l4, c4⟩ := Opens.fld op57 (n := 1) (off := 4) (by kernel_rfl) (by omega) (hf _ (List.mem_of_getElem? (i := 4) rfl))
  have hc : Cov w cells 0 (eApiZone ⟨x0, x1, x2, x3, x4⟩) := (c0.app (c1.app (c2.app (c3.app (c4.app Cov.nil)))))
  exact ⟨⟨x0, x1, x2, x3, x4⟩, ⟨k0, k1, k2, k3, k4⟩, by rw [hl]; rfl, fun j A v hA hv => hc j A v hA (by simpa using hv)⟩
theorem op25 : Opens Tryz.prog 25 eLeApiZone (OkL OkApiZone) := Opens.slice Tryz.underlying25 (n := 5) (by kernel_rfl) (by decide) op59
theorem op69 : Opens Tryz.prog 69 eApiApart OkApiApart := fun enc w held fuel cells d ps ht => by
  obtain ⟨fuel', hl, hf⟩ := Opens.st (N := 2) Tryz.underlying69 (by kernel_rfl) ht
  obtain ⟨x0, k0, l0, c0⟩ := Opens.fld op9 (n := 1) (off := 0) (by kernel_rfl) (by omega) (hf _ (List.mem_of_getElem? (i := 0) rfl))
  obtain ⟨x1, k1, l1, c1⟩ := Opens.fld op9 (n := 1) (off := 1) (by kernel_rfl) (by omega) (hf _ (List.mem_of_getElem? (i := 1) rfl))
  have hc : Cov w cells 0 (eApiApart ⟨x0, x1⟩) := (c0.app (c1.app Cov.nil))
  exact ⟨⟨x0, x1⟩, ⟨k0, k1⟩, by rw [hl]; rfl, fun j A v hA hv => hc j A v hA (by simpa using hv)⟩
theorem op26 : Opens Tryz.prog 26 eLeApiApart (OkL OkApiApart) := Opens.slice Tryz.underlying26 (n := 2) (by kernel_rfl) (by decide) op69
theorem op71 : Opens Tryz.prog 71 eApiShelf OkApiShelf := fun enc w held fuel cells d ps ht => by
  obtain ⟨fuel', hl, hf⟩ := Opens.st (N := 2) Tryz.underlying71 (by kernel_rfl) ht
  obtain ⟨x0, k0, l0, c0⟩ := Opens.fld op3 (n := 1) (off := 0) (by kernel_rfl) (by omega) (hf _ (List.mem_of_getElem? (i := 0) rfl))
  obtain ⟨x1, k1, l1, c1⟩ := Opens.fld op9 (n := 1) (off := 1) (by kernel_rfl) (by omega) (hf _ (List.mem_of_getElem? (i := 1) rfl))
  have hc : Cov w cells 0 (eApiShelf ⟨x0, x1⟩) := (c0.app (c1.app Cov.nil))
  exact ⟨⟨x0, x1⟩, ⟨k0, k1⟩, by rw [hl]; rfl, fun j A v hA hv => hc j A v hA (by simpa using hv)⟩
theorem op27 : Opens Tryz.prog 27 eLeApiShelf (OkL OkApiShelf) := Opens.slice Tryz.underlying27 (n := 2) (by kernel_rfl) (by decide) op71
theorem op84 : Opens Tryz.prog 84 eApiStart OkApiStart := fun enc w held fuel cells d ps ht => by
  obtain ⟨fuel', hl, hf⟩ := Opens.st (N := 2) Tryz.underlying84 (by kernel_rfl) ht
  obtain ⟨x0, k0, l0, c0⟩ := Opens.fld op3 (n := 1) (off := 0) (by kernel_rfl) (by omega) (hf _ (List.mem_of_getElem? (i := 0) rfl))
  obtain ⟨x1, k1, l1, c1⟩ := Opens.fld op3 (n := 1) (off := 1) (by kernel_rfl) (by omega) (hf _ (List.mem_of_getElem? (i := 1) rfl))
  have hc : Cov w cells 0 (eApiStart ⟨x0, x1⟩) := (c0.app (c1.app Cov.nil))
  exact ⟨⟨x0, x1⟩, ⟨k0, k1⟩, by rw [hl]; rfl, fun j A v hA hv => hc j A v hA (by simpa using hv)⟩
theorem op28 : Opens Tryz.prog 28 eLeApiStart (OkL OkApiStart) := Opens.slice Tryz.underlying28 (n := 2) (by kernel_rfl) (by decide) op84
theorem op30 : Opens Tryz.prog 30 eApiSite OkApiSite := fun enc w held fuel cells d ps ht => by
  obtain ⟨fuel', hl, hf⟩ := Opens.st (N := 9) Tryz.underlying30 (by kernel_rfl) ht
  obtain ⟨x0, k0, l0, c0⟩ := Opens.fld op24 (n := 5) (off := 0) (by kernel_rfl) (by omega) (hf _ (List.mem_of_getElem? (i := 0) rfl))
  obtain ⟨x1, k1, l1, c1⟩ := Opens.fld op25 (n := 1) (off := 5) (by kernel_rfl) (by omega) (hf _ (List.mem_of_getElem? (i := 1) rfl))
  obtain ⟨x2, k2, l2, c2⟩ := Opens.fld op26 (n := 1) (off := 6) (by kernel_rfl) (by omega) (hf _ (List.mem_of_getElem? (i := 2) rfl))
  obtain ⟨x3, k3, l3, c3⟩ := Opens.fld op27 (n := 1) (off := 7) (by kernel_rfl) (by omega) (hf _ (List.mem_of_getElem? (i := 3) rfl))
  obtain ⟨x4, k4, l4, c4⟩ := Opens.fld op28 (n := 1) (off := 8) (by kernel_rfl) (by omega) (hf _ (List.mem_of_getElem? (i := 4) rfl))
  have hc : Cov w cells 0 (eApiSite ⟨x0, x1, x2, x3, x4⟩) := (c0.app (c1.app (c2.app (c3.app (c4.app Cov.nil)))))
  exact ⟨⟨x0, x1, x2, x3, x4⟩, ⟨k0, k1, k2, k3, k4⟩, by rw [hl]; rfl, fun j A v hA hv => hc j A v hA (by simpa using hv)⟩
theorem op4 : Opens Tryz.prog 4 eB (fun (_ : Bool) => True) := Opens.bool Tryz.underlying4
theorem op53 : Opens Tryz.prog 53 eApiRobot OkApiRobot := fun enc w held fuel cells d ps ht => by
  obtain ⟨fuel', hl, hf⟩ := Opens.st (N := 6) Tryz.underlying53 (by kernel_rfl) ht
  obtain ⟨x0, k0, l0, c0⟩ := Opens.fld op3 (n := 1) (off := 0) (by kernel_rfl) (by omega) (hf _ (List.mem_of_getElem? (i := 0) rfl))
  obtain ⟨x1, k1, l1, c1⟩ := Opens.fld op3 (n := 1) (off := 1) (by kernel_rfl) (by omega) (hf _ (List.mem_of_getElem? (i := 1) rfl))
  obtain ⟨x2, k2, l2, c2⟩ := Opens.fld op3 (n := 1) (off := 2) (by kernel_rfl) (by omega) (hf _ (List.mem_of_getElem? (i := 2) rfl))
  obtain ⟨x3, k3, l3, c3⟩ := Opens.fld op3 (n := 1) (off := 3) (by kernel_rfl) (by omega) (hf _ (List.mem_of_getElem? (i := 3) rfl))
  obtain ⟨x4, k4, l4, c4⟩ := Opens.fld op3 (n := 1) (off := 4) (by kernel_rfl) (by omega) (hf _ (List.mem_of_getElem? (i := 4) rfl))
  obtain ⟨x5, k5, l5, c5⟩ := Opens.fld op4 (n := 1) (off := 5) (by kernel_rfl) (by omega) (hf _ (List.mem_of_getElem? (i := 5) rfl))
  have hc : Cov w cells 0 (eApiRobot ⟨x0, x1, x2, x3, x4, x5⟩) := (c0.app (c1.app (c2.app (c3.app (c4.app (c5.app Cov.nil))))))
  exact ⟨⟨x0, x1, x2, x3, x4, x5⟩, ⟨k0, k1, k2, k3, k4, k5⟩, by rw [hl]; rfl, fun j A v hA hv => hc j A v hA (by simpa using hv)⟩
theorem op31 : Opens Tryz.prog 31 eLeApiRobot (OkL OkApiRobot) := Opens.slice Tryz.underlying31 (n := 6) (by kernel_rfl) (by decide) op53
theorem op129 : Opens Tryz.prog 129 eApiStuck OkApiStuck := fun enc w held fuel cells d ps ht => by
  obtain ⟨fuel', hl, hf⟩ := Opens.st (N := 2) Tryz.underlying129 (by kernel_rfl) ht
  obtain ⟨x0, k0, l0, c0⟩ := Opens.fld op3 (n := 1) (off := 0) (by kernel_rfl) (by omega) (hf _ (List.mem_of_getElem? (i := 0) rfl))
  obtain ⟨x1, k1, l1, c1⟩ := Opens.fld op3 (n := 1) (off := 1) (by kernel_rfl) (by omega) (hf _ (List.mem_of_getElem? (i := 1) rfl))
  have hc : Cov w cells 0 (eApiStuck ⟨x0, x1⟩) := (c0.app (c1.app Cov.nil))
  exact ⟨⟨x0, x1⟩, ⟨k0, k1⟩, by rw [hl]; rfl, fun j A v hA hv => hc j A v hA (by simpa using hv)⟩
theorem op32 : Opens Tryz.prog 32 eLeApiStuck (OkL OkApiStuck) := Opens.slice Tryz.underlying32 (n := 2) (by kernel_rfl) (by decide) op129
theorem op34 : Opens Tryz.prog 34 eApiState OkApiState := fun enc w held fuel cells d ps ht => by
  obtain ⟨fuel', hl, hf⟩ := Opens.st (N := 6) Tryz.underlying34 (by kernel_rfl) ht
  obtain ⟨x0, k0, l0, c0⟩ := Opens.fld op3 (n := 1) (off := 0) (by kernel_rfl) (by omega) (hf _ (List.mem_of_getElem? (i := 0) rfl))
  obtain ⟨x1, k1, l1, c1⟩ := Opens.fld op22 (n := 1) (off := 1) (by kernel_rfl) (by omega) (hf _ (List.mem_of_getElem? (i := 1) rfl))
  obtain ⟨x2, k2, l2, c2⟩ := Opens.fld op31 (n := 1) (off := 2) (by kernel_rfl) (by omega) (hf _ (List.mem_of_getElem? (i := 2) rfl))
  obtain ⟨x3, k3, l3, c3⟩ := Opens.fld op22 (n := 1) (off := 3) (by kernel_rfl) (by omega) (hf _ (List.mem_of_getElem? (i := 3) rfl))
  obtain ⟨x4, k4, l4, c4⟩ := Opens.fld op22 (n := 1) (off := 4) (by kernel_rfl) (by omega) (hf _ (List.mem_of_getElem? (i := 4) rfl))
  obtain ⟨x5, k5, l5, c5⟩ := Opens.fld op32 (n := 1) (off := 5) (by kernel_rfl) (by omega) (hf _ (List.mem_of_getElem? (i := 5) rfl))
  have hc : Cov w cells 0 (eApiState ⟨x0, x1, x2, x3, x4, x5⟩) := (c0.app (c1.app (c2.app (c3.app (c4.app (c5.app Cov.nil))))))
  exact ⟨⟨x0, x1, x2, x3, x4, x5⟩, ⟨k0, k1, k2, k3, k4, k5⟩, by rw [hl]; rfl, fun j A v hA hv => hc j A v hA (by simpa using hv)⟩
theorem itb124 (xs : List Int) (l : Nat) (J : Nat → World → Prop) (Jx : World → Prop) (S : Nat → Prop) (w W : World) (b off cap : Nat) (p0 : Option Addr) (hlen : xs.length ≤ 1099511627776) (hS : S b)
    (hY : ∀ m x W1, xs[m]? = some x → J m W1 → YieldAt Fence.wide 1 Tryz.prog l #[.int .i64 x] W1 fun e W' => (e = .returned (.bool true) ∧ J (m + 1) W' ∧ KS S W1 W') ∨ (e = .returned (.bool false) ∧ Jx W'))
    (hc : W.cell? ⟨b, off, none⟩ = some (.slice p0 xs.length cap)) (hL : RowAt S W p0 xs) (h0 : J 0 W) :
    CallsIn Fence.wide 2 Tryz.prog 124 #[.func (.yield l) #[] #[], .pointer (some ⟨b, off, none⟩)] W fun e W' => (∃ v, e = .returned v) ∧ (J xs.length W' ∨ Jx W') := by
  refine callsIn_of_wp Tryz.func124 rfl trivial ?_ rfl
  simp only [Tryz.ntmps124, List.size_toArray, List.length_cons, List.length_nil, Nat.reduceAdd, Nat.reduceSub, Array.replicate_succ, Array.replicate_zero, List.push_toArray, List.append_toArray, List.nil_append, List.cons_append]
  gi_wp2
  gi_loopw [7] (fun p wr => ∃ (m : Nat), m ≤ xs.length ∧ p = .int .i64 (m : Int) ∧ RowAt S wr p0 xs ∧ J m wr)
    (fun p wr => match p with | .int _ i => xs.length - i.toNat | _ => 0)
  case atStart => exact ⟨0, Nat.zero_le _, rfl, hL, h0⟩
  case round =>
    obtain ⟨m, hm, rfl, hl, hJs⟩ := hrel
    by_cases hlt : m < xs.length
    · have hx : xs[m]? = some (xs.getD m 0) := by rw [List.getD_eq_getElem?_getD, List.getElem?_eq_getElem hlt]; rfl
      obtain ⟨b', off', rfl, hb, hv⟩ := hl m _ hx
      obtain ⟨fn, tmps, assign, body, hy, hR⟩ := hY m (xs.getD m 0) wr hx hJs
      generalize xs.getD m 0 = x0 at *
      gi_wp2
      refine hR.mono ?_
      rintro e W3 (⟨rfl, hJ3, hk3⟩ | ⟨rfl, hJx3⟩)
      · gi_wp2
        go_roundw
        case rel => exact ⟨m + 1, by omega, rfl, hl.keep hk3, hJ3⟩
        case measure => simp; omega
      · gi_wp2
        refine bodyPost_ret (results_none rfl _ _ _) rfl ?_
        exact ⟨⟨_, rfl⟩, .inr hJx3⟩
    · obtain rfl : m = xs.length := by omega
      gi_wp2
      go_end0
      exact ⟨⟨_, rfl⟩, .inl hJs⟩
theorem it124 (xs : List Int) (hlen : xs.length ≤ 1099511627776) : Iter Tryz.prog 124 [.rp [.sl 1 eI xs]] (fun x : Int => [.int .i64 x]) xs := fun w ok β lb hlb l J Jx W hW hY h0 => by
  obtain ⟨b, off, p, cap, rfl, hb, hc, hr⟩ := capRow hlb
  exact itb124 xs l J Jx ok w W b off cap p hlen hb hY ((hW.cell hb).trans hc) (hr.keep hW) h0

end Go.Proofs.YtbkpekodmhkbdaaGreat
