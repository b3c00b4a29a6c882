/- The encodings of the data, and the types' table (written by a program of the prover). -/
import Derived.Test.YtbpbennpgnjbkaaGreatVc
import Derived.Test.YtbpbennpgnjbkaaGreatChecked
import Derived.Test.YtbpbennpgnjbkaaGreatLibZC
import Derived.Test.YtbpbennpgnjbkaaGreatLibZR
import Derived.Test.YtbpbennpgnjbkaaGreatLibZS
import Derived.Test.YtbpbennpgnjbkaaGreatLibZT
import Derived.Test.YtbpbennpgnjbkaaGreatLibZI
import Derived.RangeFuncLeaves
import Derived.WalkKit
import Derived.OwnWalkIn
import Derived.TacticsInMore
import Derived.LoopNIn
import Derived.LoopIn
import Derived.WalkKit
import Derived.Lib.Walk
import Derived.Laws.Externs
import Derived.Laws.IdiomCopy
import Derived.Deep.RegionLaw
import Derived.IntWalk
import Derived.KernelRfl
set_option maxRecDepth 100000
set_option maxHeartbeats 8000000
set_option linter.unusedVariables false
set_option linter.unusedSimpArgs false
namespace Go.Proofs.YtbpbennpgnjbkaaGreat
open Go Go.Taq
@[reducible] def eI (x : Int) : List AVal := [.i x]
@[reducible] def eApiSpan (x : ApiSpan) : List AVal := [.i x.From, .i x.To]
@[reducible] def eApiZone (x : ApiZone) : List AVal := [.v (.string x.Name), .sl 1 eI x.Cells, .i x.Speed, .i x.Keep, .sl 2 eApiSpan x.Shut]
@[reducible] def eApiApart (x : ApiApart) : List AVal := [.v (.string x.A), .v (.string x.B)]
@[reducible] def eApiShelf (x : ApiShelf) : List AVal := [.i x.Cell, .v (.string x.Class)]
@[reducible] def eApiStart (x : ApiStart) : List AVal := [.i x.Cell, .i x.Charge]
@[reducible] def eApiRobot (x : ApiRobot) : List AVal := [.i x.Cell, .i x.Load, .i x.Charge, .i x.Rest, .i x.Mute, .b x.Dead]
@[reducible] def eApiStuck (x : ApiStuck) : List AVal := [.i x.Cell, .i x.Left]
@[reducible] def eTaquinref16Act (x : Taquinref16Act) : List AVal := [.sl 1 eI x.Acts, .i x.Fault.Kind, .i x.Fault.A, .i x.Fault.N]
@[reducible] def eApiSite (x : ApiSite) : List AVal := [.i x.Floor.W, .i x.Floor.H, .i x.Floor.D, .sl 1 eI x.Floor.Kind, .sl 1 eI x.Floor.Out, .sl 5 eApiZone x.Zones, .sl 2 eApiApart x.Aparts, .sl 2 eApiShelf x.Shelves, .sl 2 eApiStart x.Robots]
@[reducible] def eApiFloor (x : ApiFloor) : List AVal := [.i x.W, .i x.H, .i x.D, .sl 1 eI x.Kind, .sl 1 eI x.Out]
@[reducible] def eFloorStep (x : FloorStep) : List AVal := [.i x.x, .i x.y, .i x.z]
@[reducible] def eApiState (x : ApiState) : List AVal := [.i x.Tick, .sl 1 eI x.Shelves, .sl 6 eApiRobot x.Robots, .sl 1 eI x.People, .sl 1 eI x.Dead, .sl 2 eApiStuck x.Stuck]
def kI (x : Int) : Value := .int .i64 x
@[reducible] def eB (x : Bool) : List AVal := [.b x]
def veB (x : Bool) : AVal := .b x
def veI (x : Int) : AVal := .i x
def kApiApartc (x : ApiApart) : List Value := [.string x.A, .string x.B]
def kApiApart (x : ApiApart) : Value := .agg (kApiApartc x).toArray
@[reducible] def eApiFault (x : ApiFault) : List AVal := [.i x.Kind, .i x.A, .i x.N]
def kS (x : ByteArray) : Value := .string x
@[reducible] def eLeI (x : List Int) : List AVal := [.sl 1 eI x]
@[reducible] def eS (x : ByteArray) : List AVal := [.v (.string x)]
@[reducible] def eLeApiSpan (x : List ApiSpan) : List AVal := [.sl 2 eApiSpan x]
@[reducible] def eLeApiZone (x : List ApiZone) : List AVal := [.sl 5 eApiZone x]
@[reducible] def eLeApiApart (x : List ApiApart) : List AVal := [.sl 2 eApiApart x]
@[reducible] def eLeApiShelf (x : List ApiShelf) : List AVal := [.sl 2 eApiShelf x]
@[reducible] def eLeApiStart (x : List ApiStart) : List AVal := [.sl 2 eApiStart x]
@[reducible] def eLeApiRobot (x : List ApiRobot) : List AVal := [.sl 6 eApiRobot x]
@[reducible] def eLeApiStuck (x : List ApiStuck) : List AVal := [.sl 2 eApiStuck x]
@[reducible] def eLeTaquinref16Act (x : List Taquinref16Act) : List AVal := [.sl 4 eTaquinref16Act x]
def te3 : TE := ⟨.int .i64, 1, 8, [.int .i64 0]⟩
theorem teok3 : TEok Tryz.prog 3 te3 := ⟨⟨_, Tryz.underlying3, rfl⟩, Tryz.t3, _, (by kernel_rfl : Tryz.prog.info? 3 = some Tryz.t3), rfl, rfl, rfl, rfl, (fun h => by cases h), rfl, by decide⟩
def te4 : TE := ⟨.bool, 1, 1, [.bool false]⟩
theorem teok4 : TEok Tryz.prog 4 te4 := ⟨⟨_, Tryz.underlying4, rfl⟩, Tryz.t4, _, (by kernel_rfl : Tryz.prog.info? 4 = some Tryz.t4), rfl, rfl, rfl, rfl, (fun h => by cases h), rfl, by decide⟩
def te5 : TE := ⟨.int .u8, 1, 1, [.int .u8 0]⟩
theorem teok5 : TEok Tryz.prog 5 te5 := ⟨⟨_, Tryz.underlying5, rfl⟩, Tryz.t5, _, (by kernel_rfl : Tryz.prog.info? 5 = some Tryz.t5), rfl, rfl, rfl, rfl, (fun h => by cases h), rfl, by decide⟩
def te9 : TE := ⟨.str, 1, 16, [.string ByteArray.empty]⟩
theorem teok9 : TEok Tryz.prog 9 te9 := ⟨⟨_, Tryz.underlying9, rfl⟩, Tryz.t9, _, (by kernel_rfl : Tryz.prog.info? 9 = some Tryz.t9), rfl, rfl, rfl, rfl, (fun h => by cases h), rfl, by decide⟩
def te22 : TE := ⟨.sl 3, 1, 24, [.slice none 0 0]⟩
theorem teok22 : TEok Tryz.prog 22 te22 := ⟨⟨_, Tryz.underlying22, rfl⟩, Tryz.t22, _, (by kernel_rfl : Tryz.prog.info? 22 = some Tryz.t22), rfl, rfl, rfl, rfl, (fun h => by cases h), rfl, by decide⟩
def te24 : TE := ⟨.st [(0, 3), (1, 3), (2, 3), (3, 22), (4, 22)], 5, 72, [.int .i64 0, .int .i64 0, .int .i64 0, .slice none 0 0, .slice none 0 0]⟩
theorem teok24 : TEok Tryz.prog 24 te24 := ⟨⟨_, Tryz.underlying24, ⟨_, rfl, rfl⟩⟩, Tryz.t24, _, (by kernel_rfl : Tryz.prog.info? 24 = some Tryz.t24), rfl, rfl, rfl, rfl, (fun _ => ⟨_, rfl⟩), rfl, by decide⟩
def te25 : TE := ⟨.sl 86, 1, 24, [.slice none 0 0]⟩
theorem teok25 : TEok Tryz.prog 25 te25 := ⟨⟨_, Tryz.underlying25, rfl⟩, Tryz.t25, _, (by kernel_rfl : Tryz.prog.info? 25 = some Tryz.t25), rfl, rfl, rfl, rfl, (fun h => by cases h), rfl, by decide⟩
def te26 : TE := ⟨.sl 88, 1, 24, [.slice none 0 0]⟩
theorem teok26 : TEok Tryz.prog 26 te26 := ⟨⟨_, Tryz.underlying26, rfl⟩, Tryz.t26, _, (by kernel_rfl : Tryz.prog.info? 26 = some Tryz.t26), rfl, rfl, rfl, rfl, (fun h => by cases h), rfl, by decide⟩
def te27 : TE := ⟨.sl 90, 1, 24, [.slice none 0 0]⟩
theorem teok27 : TEok Tryz.prog 27 te27 := ⟨⟨_, Tryz.underlying27, rfl⟩, Tryz.t27, _, (by kernel_rfl : Tryz.prog.info? 27 = some Tryz.t27), rfl, rfl, rfl, rfl, (fun h => by cases h), rfl, by decide⟩
def te28 : TE := ⟨.sl 103, 1, 24, [.slice none 0 0]⟩
theorem teok28 : TEok Tryz.prog 28 te28 := ⟨⟨_, Tryz.underlying28, rfl⟩, Tryz.t28, _, (by kernel_rfl : Tryz.prog.info? 28 = some Tryz.t28), rfl, rfl, rfl, rfl, (fun h => by cases h), rfl, by decide⟩
def te30 : TE := ⟨.st [(0, 24), (5, 25), (6, 26), (7, 27), (8, 28)], 9, 168, [.int .i64 0, .int .i64 0, .int .i64 0, .slice none 0 0, .slice none 0 0, .slice none 0 0, .slice none 0 0, .slice none 0 0, .slice none 0 0]⟩
theorem teok30 : TEok Tryz.prog 30 te30 := ⟨⟨_, Tryz.underlying30, ⟨_, rfl, rfl⟩⟩, Tryz.t30, _, (by kernel_rfl : Tryz.prog.info? 30 = some Tryz.t30), rfl, rfl, rfl, rfl, (fun _ => ⟨_, rfl⟩), rfl, by decide⟩
def te31 : TE := ⟨.sl 56, 1, 24, [.slice none 0 0]⟩
theorem teok31 : TEok Tryz.prog 31 te31 := ⟨⟨_, Tryz.underlying31, rfl⟩, Tryz.t31, _, (by kernel_rfl : Tryz.prog.info? 31 = some Tryz.t31), rfl, rfl, rfl, rfl, (fun h => by cases h), rfl, by decide⟩
def te32 : TE := ⟨.sl 77, 1, 24, [.slice none 0 0]⟩
theorem teok32 : TEok Tryz.prog 32 te32 := ⟨⟨_, Tryz.underlying32, rfl⟩, Tryz.t32, _, (by kernel_rfl : Tryz.prog.info? 32 = some Tryz.t32), rfl, rfl, rfl, rfl, (fun h => by cases h), rfl, by decide⟩
def te34 : TE := ⟨.st [(0, 3), (1, 22), (2, 31), (3, 22), (4, 22), (5, 32)], 6, 128, [.int .i64 0, .slice none 0 0, .slice none 0 0, .slice none 0 0, .slice none 0 0, .slice none 0 0]⟩
theorem teok34 : TEok Tryz.prog 34 te34 := ⟨⟨_, Tryz.underlying34, ⟨_, rfl, rfl⟩⟩, Tryz.t34, _, (by kernel_rfl : Tryz.prog.info? 34 = some Tryz.t34), rfl, rfl, rfl, rfl, (fun _ => ⟨_, rfl⟩), rfl, by decide⟩
def te35 : TE := ⟨.sl 41, 1, 24, [.slice none 0 0]⟩
theorem teok35 : TEok Tryz.prog 35 te35 := ⟨⟨_, Tryz.underlying35, rfl⟩, Tryz.t35, _, (by kernel_rfl : Tryz.prog.info? 35 = some Tryz.t35), rfl, rfl, rfl, rfl, (fun h => by cases h), rfl, by decide⟩
def te39 : TE := ⟨.st [(0, 3), (1, 3), (2, 3)], 3, 24, [.int .i64 0, .int .i64 0, .int .i64 0]⟩
theorem teok39 : TEok Tryz.prog 39 te39 := ⟨⟨_, Tryz.underlying39, ⟨_, rfl, rfl⟩⟩, Tryz.t39, _, (by kernel_rfl : Tryz.prog.info? 39 = some Tryz.t39), rfl, rfl, rfl, rfl, (fun _ => ⟨_, rfl⟩), rfl, by decide⟩
def te41 : TE := ⟨.st [(0, 22), (1, 39)], 4, 48, [.slice none 0 0, .int .i64 0, .int .i64 0, .int .i64 0]⟩
theorem teok41 : TEok Tryz.prog 41 te41 := ⟨⟨_, Tryz.underlying41, ⟨_, rfl, rfl⟩⟩, Tryz.t41, _, (by kernel_rfl : Tryz.prog.info? 41 = some Tryz.t41), rfl, rfl, rfl, rfl, (fun _ => ⟨_, rfl⟩), rfl, by decide⟩
def te42 : TE := ⟨.int .i64, 1, 8, [.int .i64 0]⟩
theorem teok42 : TEok Tryz.prog 42 te42 := ⟨⟨_, Tryz.underlying42, rfl⟩, Tryz.t42, _, (by kernel_rfl : Tryz.prog.info? 42 = some Tryz.t42), rfl, rfl, rfl, rfl, (fun h => by cases h), rfl, by decide⟩
def te56 : TE := ⟨.st [(0, 3), (1, 3), (2, 3), (3, 3), (4, 3), (5, 4)], 6, 48, [.int .i64 0, .int .i64 0, .int .i64 0, .int .i64 0, .int .i64 0, .bool false]⟩
theorem teok56 : TEok Tryz.prog 56 te56 := ⟨⟨_, Tryz.underlying56, ⟨_, rfl, rfl⟩⟩, Tryz.t56, _, (by kernel_rfl : Tryz.prog.info? 56 = some Tryz.t56), rfl, rfl, rfl, rfl, (fun _ => ⟨_, rfl⟩), rfl, by decide⟩
def te77 : TE := ⟨.st [(0, 3), (1, 3)], 2, 16, [.int .i64 0, .int .i64 0]⟩
theorem teok77 : TEok Tryz.prog 77 te77 := ⟨⟨_, Tryz.underlying77, ⟨_, rfl, rfl⟩⟩, Tryz.t77, _, (by kernel_rfl : Tryz.prog.info? 77 = some Tryz.t77), rfl, rfl, rfl, rfl, (fun _ => ⟨_, rfl⟩), rfl, by decide⟩
def te84 : TE := ⟨.sl 154, 1, 24, [.slice none 0 0]⟩
theorem teok84 : TEok Tryz.prog 84 te84 := ⟨⟨_, Tryz.underlying84, rfl⟩, Tryz.t84, _, (by kernel_rfl : Tryz.prog.info? 84 = some Tryz.t84), rfl, rfl, rfl, rfl, (fun h => by cases h), rfl, by decide⟩
def te86 : TE := ⟨.st [(0, 9), (1, 22), (2, 3), (3, 3), (4, 84)], 5, 80, [.string ByteArray.empty, .slice none 0 0, .int .i64 0, .int .i64 0, .slice none 0 0]⟩
theorem teok86 : TEok Tryz.prog 86 te86 := ⟨⟨_, Tryz.underlying86, ⟨_, rfl, rfl⟩⟩, Tryz.t86, _, (by kernel_rfl : Tryz.prog.info? 86 = some Tryz.t86), rfl, rfl, rfl, rfl, (fun _ => ⟨_, rfl⟩), rfl, by decide⟩
def te88 : TE := ⟨.st [(0, 9), (1, 9)], 2, 32, [.string ByteArray.empty, .string ByteArray.empty]⟩
theorem teok88 : TEok Tryz.prog 88 te88 := ⟨⟨_, Tryz.underlying88, ⟨_, rfl, rfl⟩⟩, Tryz.t88, _, (by kernel_rfl : Tryz.prog.info? 88 = some Tryz.t88), rfl, rfl, rfl, rfl, (fun _ => ⟨_, rfl⟩), rfl, by decide⟩
def te90 : TE := ⟨.st [(0, 3), (1, 9)], 2, 24, [.int .i64 0, .string ByteArray.empty]⟩
theorem teok90 : TEok Tryz.prog 90 te90 := ⟨⟨_, Tryz.underlying90, ⟨_, rfl, rfl⟩⟩, Tryz.t90, _, (by kernel_rfl : Tryz.prog.info? 90 = some Tryz.t90), rfl, rfl, rfl, rfl, (fun _ => ⟨_, rfl⟩), rfl, by decide⟩
def te93 : TE := ⟨.pt 151, 1, 8, [.pointer none]⟩
theorem teok93 : TEok Tryz.prog 93 te93 := ⟨⟨_, Tryz.underlying93, rfl⟩, Tryz.t93, _, (by kernel_rfl : Tryz.prog.info? 93 = some Tryz.t93), rfl, rfl, rfl, rfl, (fun h => by cases h), rfl, by decide⟩
def te103 : TE := ⟨.st [(0, 3), (1, 3)], 2, 16, [.int .i64 0, .int .i64 0]⟩
theorem teok103 : TEok Tryz.prog 103 te103 := ⟨⟨_, Tryz.underlying103, ⟨_, rfl, rfl⟩⟩, Tryz.t103, _, (by kernel_rfl : Tryz.prog.info? 103 = some Tryz.t103), rfl, rfl, rfl, rfl, (fun _ => ⟨_, rfl⟩), rfl, by decide⟩
def te112 : TE := ⟨.fn, 1, 8, [.nilFunc]⟩
theorem teok112 : TEok Tryz.prog 112 te112 := ⟨⟨_, Tryz.underlying112, ⟨_, _, _, rfl⟩⟩, Tryz.t112, _, (by kernel_rfl : Tryz.prog.info? 112 = some Tryz.t112), rfl, rfl, rfl, rfl, (fun h => by cases h), rfl, by decide⟩
def te116 : TE := ⟨.fn, 1, 8, [.nilFunc]⟩
theorem teok116 : TEok Tryz.prog 116 te116 := ⟨⟨_, Tryz.underlying116, ⟨_, _, _, rfl⟩⟩, Tryz.t116, _, (by kernel_rfl : Tryz.prog.info? 116 = some Tryz.t116), rfl, rfl, rfl, rfl, (fun h => by cases h), rfl, by decide⟩
def te139 : TE := ⟨.int .u64, 1, 8, [.int .u64 0]⟩
theorem teok139 : TEok Tryz.prog 139 te139 := ⟨⟨_, Tryz.underlying139, rfl⟩, Tryz.t139, _, (by kernel_rfl : Tryz.prog.info? 139 = some Tryz.t139), rfl, rfl, rfl, rfl, (fun h => by cases h), rfl, by decide⟩
def te141 : TE := ⟨.fn, 1, 8, [.nilFunc]⟩
theorem teok141 : TEok Tryz.prog 141 te141 := ⟨⟨_, Tryz.underlying141, ⟨_, _, _, rfl⟩⟩, Tryz.t141, _, (by kernel_rfl : Tryz.prog.info? 141 = some Tryz.t141), rfl, rfl, rfl, rfl, (fun h => by cases h), rfl, by decide⟩
def te147 : TE := ⟨.mp 3 3, 1, 8, [.map none]⟩
theorem teok147 : TEok Tryz.prog 147 te147 := ⟨⟨_, Tryz.underlying147, rfl⟩, Tryz.t147, _, (by kernel_rfl : Tryz.prog.info? 147 = some Tryz.t147), rfl, rfl, rfl, rfl, (fun h => by cases h), rfl, by decide⟩
def te148 : TE := ⟨.mp 3 4, 1, 8, [.map none]⟩
theorem teok148 : TEok Tryz.prog 148 te148 := ⟨⟨_, Tryz.underlying148, rfl⟩, Tryz.t148, _, (by kernel_rfl : Tryz.prog.info? 148 = some Tryz.t148), rfl, rfl, rfl, rfl, (fun h => by cases h), rfl, by decide⟩
def te149 : TE := ⟨.mp 9 3, 1, 8, [.map none]⟩
theorem teok149 : TEok Tryz.prog 149 te149 := ⟨⟨_, Tryz.underlying149, rfl⟩, Tryz.t149, _, (by kernel_rfl : Tryz.prog.info? 149 = some Tryz.t149), rfl, rfl, rfl, rfl, (fun h => by cases h), rfl, by decide⟩
def te151 : TE := ⟨.st [(0, 30), (9, 147), (10, 148), (11, 148), (12, 149), (13, 148), (14, 22), (15, 22)], 16, 256, [.int .i64 0, .int .i64 0, .int .i64 0, .slice none 0 0, .slice none 0 0, .slice none 0 0, .slice none 0 0, .slice none 0 0, .slice none 0 0, .map none, .map none, .map none, .map none, .map none, .slice none 0 0, .slice none 0 0]⟩
theorem teok151 : TEok Tryz.prog 151 te151 := ⟨⟨_, Tryz.underlying151, ⟨_, rfl, rfl⟩⟩, Tryz.t151, _, (by kernel_rfl : Tryz.prog.info? 151 = some Tryz.t151), rfl, rfl, rfl, rfl, (fun _ => ⟨_, rfl⟩), rfl, by decide⟩
def te154 : TE := ⟨.st [(0, 3), (1, 3)], 2, 16, [.int .i64 0, .int .i64 0]⟩
theorem teok154 : TEok Tryz.prog 154 te154 := ⟨⟨_, Tryz.underlying154, ⟨_, rfl, rfl⟩⟩, Tryz.t154, _, (by kernel_rfl : Tryz.prog.info? 154 = some Tryz.t154), rfl, rfl, rfl, rfl, (fun _ => ⟨_, rfl⟩), rfl, by decide⟩
def te159 : TE := ⟨.fn, 1, 8, [.nilFunc]⟩
theorem teok159 : TEok Tryz.prog 159 te159 := ⟨⟨_, Tryz.underlying159, ⟨_, _, _, rfl⟩⟩, Tryz.t159, _, (by kernel_rfl : Tryz.prog.info? 159 = some Tryz.t159), rfl, rfl, rfl, rfl, (fun h => by cases h), rfl, by decide⟩
def te161 : TE := ⟨.st [(0, 3), (1, 3), (2, 3)], 3, 24, [.int .i64 0, .int .i64 0, .int .i64 0]⟩
theorem teok161 : TEok Tryz.prog 161 te161 := ⟨⟨_, Tryz.underlying161, ⟨_, rfl, rfl⟩⟩, Tryz.t161, _, (by kernel_rfl : Tryz.prog.info? 161 = some Tryz.t161), rfl, rfl, rfl, rfl, (fun _ => ⟨_, rfl⟩), rfl, by decide⟩
def te162 : TE := ⟨.ar 6 161, 18, 144, List.replicate 18 (.int .i64 0)⟩
theorem teok162 : TEok Tryz.prog 162 te162 := ⟨⟨_, Tryz.underlying162, rfl⟩, Tryz.t162, _, (by kernel_rfl : Tryz.prog.info? 162 = some Tryz.t162), rfl, rfl, rfl, rfl, (fun _ => ⟨_, rfl⟩), rfl, by decide⟩
def te174 : TE := ⟨.ar 4 3, 4, 32, [.int .i64 0, .int .i64 0, .int .i64 0, .int .i64 0]⟩
theorem teok174 : TEok Tryz.prog 174 te174 := ⟨⟨_, Tryz.underlying174, rfl⟩, Tryz.t174, _, (by kernel_rfl : Tryz.prog.info? 174 = some Tryz.t174), rfl, rfl, rfl, rfl, (fun _ => ⟨_, rfl⟩), rfl, by decide⟩
def te186 : TE := ⟨.int .u64, 1, 8, [.int .u64 0]⟩
theorem teok186 : TEok Tryz.prog 186 te186 := ⟨⟨_, Tryz.underlying186, rfl⟩, Tryz.t186, _, (by kernel_rfl : Tryz.prog.info? 186 = some Tryz.t186), rfl, rfl, rfl, rfl, (fun h => by cases h), rfl, by decide⟩
def te196 : TE := ⟨.fn, 1, 8, [.nilFunc]⟩
theorem teok196 : TEok Tryz.prog 196 te196 := ⟨⟨_, Tryz.underlying196, ⟨_, _, _, rfl⟩⟩, Tryz.t196, _, (by kernel_rfl : Tryz.prog.info? 196 = some Tryz.t196), rfl, rfl, rfl, rfl, (fun h => by cases h), rfl, by decide⟩
def te197 : TE := ⟨.mp 88 4, 1, 8, [.map none]⟩
theorem teok197 : TEok Tryz.prog 197 te197 := ⟨⟨_, Tryz.underlying197, rfl⟩, Tryz.t197, _, (by kernel_rfl : Tryz.prog.info? 197 = some Tryz.t197), rfl, rfl, rfl, rfl, (fun h => by cases h), rfl, by decide⟩
theorem eqt88 : EqT Tryz.prog 88 [(0, 9), (1, 9)] := ⟨by kernel_rfl, by kernel_rfl, by kernel_rfl, by kernel_rfl, by kernel_rfl⟩
def tab : Tab := [(3, te3), (4, te4), (5, te5), (9, te9), (22, te22), (24, te24), (25, te25), (26, te26), (27, te27), (28, te28), (30, te30), (31, te31), (32, te32), (34, te34), (35, te35), (39, te39), (41, te41), (42, te42), (56, te56), (77, te77), (84, te84), (86, te86), (88, te88), (90, te90), (93, te93), (103, te103), (112, te112), (116, te116), (139, te139), (141, te141), (147, te147), (148, te148), (149, te149), (151, te151), (154, te154), (159, te159), (161, te161), (162, te162), (174, te174), (186, te186), (196, te196), (197, te197)]
theorem T : TabOk Tryz.prog tab := (.cons teok3 (.cons teok4 (.cons teok5 (.cons teok9 (.cons teok22 (.cons teok24 (.cons teok25 (.cons teok26 (.cons teok27 (.cons teok28 (.cons teok30 (.cons teok31 (.cons teok32 (.cons teok34 (.cons teok35 (.cons teok39 (.cons teok41 (.cons teok42 (.cons teok56 (.cons teok77 (.cons teok84 (.cons teok86 (.cons teok88 (.cons teok90 (.cons teok93 (.cons teok103 (.cons teok112 (.cons teok116 (.cons teok139 (.cons teok141 (.cons teok147 (.cons teok148 (.cons teok149 (.cons teok151 (.cons teok154 (.cons teok159 (.cons teok161 (.cons teok162 (.cons teok174 (.cons teok186 (.cons teok196 (.cons teok197 TabOk.nil))))))))))))))))))))))))))))))))))))))))))
theorem kt3 : KeyT Tryz.prog 3 kI := KeyT.int Tryz.underlying3
theorem kt9 : KeyT Tryz.prog 9 kS := KeyT.str Tryz.underlying9
theorem kt88 : KeyT Tryz.prog 88 kApiApart := KeyT.st (kc := kApiApartc) T eqt88 (fun x y => by
  obtain ⟨x0, x1⟩ := x; obtain ⟨y0, y1⟩ := y
  show some ((seq x0 y0 && (seq x1 y1 && true))) = some (decide _)
  congr 1; rw [Bool.eq_iff_iff]; simp only [Bool.and_eq_true, beq_iff_eq, seqB_iff, decide_eq_true_eq, ApiApart.mk.injEq, and_true]
  constructor <;> intro h <;> simp_all) rfl (fun _ => rfl) (fun _ => rfl)
theorem zt3 : ZeroT Tryz.prog 3 veI 0 := ⟨(.int .i64 0), fun w => by kernel_rfl, fun _ _ => (.v _)⟩
theorem zt4 : ZeroT Tryz.prog 4 veB false := ⟨(.bool false), fun w => by kernel_rfl, fun _ _ => (.v _)⟩
theorem mix : Tryz.prog.follows .mixedOrders = true := by kernel_rfl
theorem en8 : Entered Tryz.prog 8 := fun args w => Tryz.call8 args w
theorem en10 : Entered Tryz.prog 10 := fun args w => Tryz.call10 args w
theorem en12 : Entered Tryz.prog 12 := fun args w => Tryz.call12 args w
theorem en15 : Entered Tryz.prog 15 := fun args w => Tryz.call15 args w
theorem en17 : Entered Tryz.prog 17 := fun args w => Tryz.call17 args w
theorem en19 : Entered Tryz.prog 19 := fun args w => Tryz.call19 args w
theorem en20 : Entered Tryz.prog 20 := fun args w => Tryz.call20 args w
theorem en21 : Entered Tryz.prog 21 := fun args w => Tryz.call21 args w
theorem en22 : Entered Tryz.prog 22 := fun args w => Tryz.call22 args w
theorem en23 : Entered Tryz.prog 23 := fun args w => Tryz.call23 args w
theorem en24 : Entered Tryz.prog 24 := fun args w => Tryz.call24 args w
theorem en25 : Entered Tryz.prog 25 := fun args w => Tryz.call25 args w
theorem en27 : Entered Tryz.prog 27 := fun args w => Tryz.call27 args w
theorem en28 : Entered Tryz.prog 28 := fun args w => Tryz.call28 args w
theorem en30 : Entered Tryz.prog 30 := fun args w => Tryz.call30 args w
theorem en32 : Entered Tryz.prog 32 := fun args w => Tryz.call32 args w
theorem en33 : Entered Tryz.prog 33 := fun args w => Tryz.call33 args w
theorem en36 : Entered Tryz.prog 36 := fun args w => Tryz.call36 args w
theorem en37 : Entered Tryz.prog 37 := fun args w => Tryz.call37 args w
theorem en42 : Entered Tryz.prog 42 := fun args w => Tryz.call42 args w
theorem en43 : Entered Tryz.prog 43 := fun args w => Tryz.call43 args w
theorem en44 : Entered Tryz.prog 44 := fun args w => Tryz.call44 args w
theorem en45 : Entered Tryz.prog 45 := fun args w => Tryz.call45 args w
theorem en51 : Entered Tryz.prog 51 := fun args w => Tryz.call51 args w
theorem en52 : Entered Tryz.prog 52 := fun args w => Tryz.call52 args w
theorem en53 : Entered Tryz.prog 53 := fun args w => Tryz.call53 args w
theorem en56 : Entered Tryz.prog 56 := fun args w => Tryz.call56 args w
theorem en57 : Entered Tryz.prog 57 := fun args w => Tryz.call57 args w
theorem en58 : Entered Tryz.prog 58 := fun args w => Tryz.call58 args w
theorem en59 : Entered Tryz.prog 59 := fun args w => Tryz.call59 args w
theorem en60 : Entered Tryz.prog 60 := fun args w => Tryz.call60 args w
theorem en61 : Entered Tryz.prog 61 := fun args w => Tryz.call61 args w
theorem en62 : Entered Tryz.prog 62 := fun args w => Tryz.call62 args w
theorem en63 : Entered Tryz.prog 63 := fun args w => Tryz.call63 args w
theorem en64 : Entered Tryz.prog 64 := fun args w => Tryz.call64 args w
theorem en65 : Entered Tryz.prog 65 := fun args w => Tryz.call65 args w
theorem en66 : Entered Tryz.prog 66 := fun args w => Tryz.call66 args w
theorem en67 : Entered Tryz.prog 67 := fun args w => Tryz.call67 args w
theorem en68 : Entered Tryz.prog 68 := fun args w => Tryz.call68 args w
theorem en69 : Entered Tryz.prog 69 := fun args w => Tryz.call69 args w
theorem en70 : Entered Tryz.prog 70 := fun args w => Tryz.call70 args w
theorem en71 : Entered Tryz.prog 71 := fun args w => Tryz.call71 args w
theorem en72 : Entered Tryz.prog 72 := fun args w => Tryz.call72 args w
theorem en73 : Entered Tryz.prog 73 := fun args w => Tryz.call73 args w
theorem en74 : Entered Tryz.prog 74 := fun args w => Tryz.call74 args w
theorem en75 : Entered Tryz.prog 75 := fun args w => Tryz.call75 args w
theorem en76 : Entered Tryz.prog 76 := fun args w => Tryz.call76 args w
theorem en77 : Entered Tryz.prog 77 := fun args w => Tryz.call77 args w
theorem en80 : Entered Tryz.prog 80 := fun args w => Tryz.call80 args w
theorem en81 : Entered Tryz.prog 81 := fun args w => Tryz.call81 args w
theorem en82 : Entered Tryz.prog 82 := fun args w => Tryz.call82 args w
theorem en83 : Entered Tryz.prog 83 := fun args w => Tryz.call83 args w
theorem en84 : Entered Tryz.prog 84 := fun args w => Tryz.call84 args w
theorem en99 : Entered Tryz.prog 99 := fun args w => Tryz.call99 args w
theorem en100 : Entered Tryz.prog 100 := fun args w => Tryz.call100 args w
theorem en101 : Entered Tryz.prog 101 := fun args w => Tryz.call101 args w
theorem en102 : Entered Tryz.prog 102 := fun args w => Tryz.call102 args w
theorem en103 : Entered Tryz.prog 103 := fun args w => Tryz.call103 args w
theorem en104 : Entered Tryz.prog 104 := fun args w => Tryz.call104 args w
theorem en105 : Entered Tryz.prog 105 := fun args w => Tryz.call105 args w
theorem en115 : Entered Tryz.prog 115 := fun args w => Tryz.call115 args w
theorem en116 : Entered Tryz.prog 116 := fun args w => Tryz.call116 args w
theorem en117 : Entered Tryz.prog 117 := fun args w => Tryz.call117 args w
theorem en118 : Entered Tryz.prog 118 := fun args w => Tryz.call118 args w
theorem en119 : Entered Tryz.prog 119 := fun args w => Tryz.call119 args w
theorem en124 : Entered Tryz.prog 124 := fun args w => Tryz.call124 args w
theorem en125 : Entered Tryz.prog 125 := fun args w => Tryz.call125 args w
theorem en126 : Entered Tryz.prog 126 := fun args w => Tryz.call126 args w
theorem en129 : Entered Tryz.prog 129 := fun args w => Tryz.call129 args w
theorem en130 : Entered Tryz.prog 130 := fun args w => Tryz.call130 args w
theorem en131 : Entered Tryz.prog 131 := fun args w => Tryz.call131 args w
theorem en133 : Entered Tryz.prog 133 := fun args w => Tryz.call133 args w
theorem en134 : Entered Tryz.prog 134 := fun args w => Tryz.call134 args w
theorem en135 : Entered Tryz.prog 135 := fun args w => Tryz.call135 args w
theorem en136 : Entered Tryz.prog 136 := fun args w => Tryz.call136 args w
theorem en137 : Entered Tryz.prog 137 := fun args w => Tryz.call137 args w
theorem en138 : Entered Tryz.prog 138 := fun args w => Tryz.call138 args w
theorem en139 : Entered Tryz.prog 139 := fun args w => Tryz.call139 args w
theorem en140 : Entered Tryz.prog 140 := fun args w => Tryz.call140 args w
theorem en141 : Entered Tryz.prog 141 := fun args w => Tryz.call141 args w
theorem en142 : Entered Tryz.prog 142 := fun args w => Tryz.call142 args w
theorem en143 : Entered Tryz.prog 143 := fun args w => Tryz.call143 args w
theorem en144 : Entered Tryz.prog 144 := fun args w => Tryz.call144 args w
theorem en145 : Entered Tryz.prog 145 := fun args w => Tryz.call145 args w
theorem en146 : Entered Tryz.prog 146 := fun args w => Tryz.call146 args w
theorem en147 : Entered Tryz.prog 147 := fun args w => Tryz.call147 args w
theorem en148 : Entered Tryz.prog 148 := fun args w => Tryz.call148 args w
theorem en149 : Entered Tryz.prog 149 := fun args w => Tryz.call149 args w
theorem en150 : Entered Tryz.prog 150 := fun args w => Tryz.call150 args w
theorem en151 : Entered Tryz.prog 151 := fun args w => Tryz.call151 args w
theorem en152 : Entered Tryz.prog 152 := fun args w => Tryz.call152 args w
theorem en158 : Entered Tryz.prog 158 := fun args w => Tryz.call158 args w
theorem en159 : Entered Tryz.prog 159 := fun args w => Tryz.call159 args w
theorem en160 : Entered Tryz.prog 160 := fun args w => Tryz.call160 args w
theorem en161 : Entered Tryz.prog 161 := fun args w => Tryz.call161 args w
theorem en162 : Entered Tryz.prog 162 := fun args w => Tryz.call162 args w
theorem en163 : Entered Tryz.prog 163 := fun args w => Tryz.call163 args w
theorem en164 : Entered Tryz.prog 164 := fun args w => Tryz.call164 args w
theorem en165 : Entered Tryz.prog 165 := fun args w => Tryz.call165 args w
theorem en166 : Entered Tryz.prog 166 := fun args w => Tryz.call166 args w
theorem en167 : Entered Tryz.prog 167 := fun args w => Tryz.call167 args w
theorem en168 : Entered Tryz.prog 168 := fun args w => Tryz.call168 args w
theorem en169 : Entered Tryz.prog 169 := fun args w => Tryz.call169 args w
theorem en189 : Entered Tryz.prog 189 := fun args w => Tryz.call189 args w
theorem en197 : Entered Tryz.prog 197 := fun args w => Tryz.call197 args w
theorem en199 : Entered Tryz.prog 199 := fun args w => Tryz.call199 args w
theorem en200 : Entered Tryz.prog 200 := fun args w => Tryz.call200 args w
theorem en201 : Entered Tryz.prog 201 := fun args w => Tryz.call201 args w
theorem en202 : Entered Tryz.prog 202 := fun args w => Tryz.call202 args w
theorem en203 : Entered Tryz.prog 203 := fun args w => Tryz.call203 args w
theorem en204 : Entered Tryz.prog 204 := fun args w => Tryz.call204 args w
theorem en205 : Entered Tryz.prog 205 := fun args w => Tryz.call205 args w
theorem en206 : Entered Tryz.prog 206 := fun args w => Tryz.call206 args w
theorem en207 : Entered Tryz.prog 207 := fun args w => Tryz.call207 args w
theorem en208 : Entered Tryz.prog 208 := fun args w => Tryz.call208 args w
theorem en209 : Entered Tryz.prog 209 := fun args w => Tryz.call209 args w
theorem en218 : Entered Tryz.prog 218 := fun args w => Tryz.call218 args w
theorem en221 : Entered Tryz.prog 221 := fun args w => Tryz.call221 args w
theorem en222 : Entered Tryz.prog 222 := fun args w => Tryz.call222 args w
theorem en223 : Entered Tryz.prog 223 := fun args w => Tryz.call223 args w
theorem en224 : Entered Tryz.prog 224 := fun args w => Tryz.call224 args w
theorem op3 : Opens Tryz.prog 3 eI I64 := Opens.i64 Tryz.underlying3
theorem op22 : Opens Tryz.prog 22 eLeI (OkL I64) := Opens.slice Tryz.underlying22 (n := 1) (by kernel_rfl) (by decide) op3
theorem op24 : Opens Tryz.prog 24 eApiFloor OkApiFloor := fun enc w held fuel cells d ps ht => by
  obtain ⟨fuel', hl, hf⟩ := Opens.st (N := 5) Tryz.underlying24 (by kernel_rfl) ht
  obtain ⟨x0, k0, l0, c0⟩ := Opens.fld op3 (n := 1) (off := 0) (by kernel_rfl) (by omega) (hf _ (List.mem_of_getElem? (i := 0) rfl))
  obtain ⟨x1, k1, l1, c1⟩ := Opens.fld op3 (n := 1) (off := 1) (by kernel_rfl) (by omega) (hf _ (List.mem_of_getElem? (i := 1) rfl))
  obtain ⟨x2, k2, l2, c2⟩ := Opens.fld op3 (n := 1) (off := 2) (by kernel_rfl) (by omega) (hf _ (List.mem_of_getElem? (i := 2) rfl))
  obtain ⟨x3, k3, l3, c3⟩ := Opens.fld op22 (n := 1) (off := 3) (by kernel_rfl) (by omega) (hf _ (List.mem_of_getElem? (i := 3) rfl))
  obtain ⟨x4, k4, l4, c4⟩ := Opens.fld op22 (n := 1) (off := 4) (by kernel_rfl) (by omega) (hf _ (List.mem_of_getElem? (i := 4) rfl))
  have hc : Cov w cells 0 (eApiFloor ⟨x0, x1, x2, x3, x4⟩) := (c0.app (c1.app (c2.app (c3.app (c4.app Cov.nil)))))
  exact ⟨⟨x0, x1, x2, x3, x4⟩, ⟨k0, k1, k2, k3, k4⟩, by rw [hl]; rfl, fun j A v hA hv => hc j A v hA (by simpa using hv)⟩
theorem op9 : Opens Tryz.prog 9 eS OkS := Opens.str Tryz.underlying9
theorem op154 : Opens Tryz.prog 154 eApiSpan OkApiSpan := fun enc w held fuel cells d ps ht => by
  obtain ⟨fuel', hl, hf⟩ := Opens.st (N := 2) Tryz.underlying154 (by kernel_rfl) ht
  obtain ⟨x0, k0, l0, c0⟩ := Opens.fld op3 (n := 1) (off := 0) (by kernel_rfl) (by omega) (hf _ (List.mem_of_getElem? (i := 0) rfl))
  obtain ⟨x1, k1, l1, c1⟩ := Opens.fld op3 (n := 1) (off := 1) (by kernel_rfl) (by omega) (hf _ (List.mem_of_getElem? (i := 1) rfl))
  have hc : Cov w cells 0 (eApiSpan ⟨x0, x1⟩) := (c0.app (c1.app Cov.nil))
  exact ⟨⟨x0, x1⟩, ⟨k0, k1⟩, by rw [hl]; rfl, fun j A v hA hv => hc j A v hA (by simpa using hv)⟩
theorem op84 : Opens Tryz.prog 84 eLeApiSpan (OkL OkApiSpan) := Opens.slice Tryz.underlying84 (n := 2) (by kernel_rfl) (by decide) op154
theorem op86 : Opens Tryz.prog 86 eApiZone OkApiZone := fun enc w held fuel cells d ps ht => by
  obtain ⟨fuel', hl, hf⟩ := Opens.st (N := 5) Tryz.underlying86 (by kernel_rfl) ht
  obtain ⟨x0, k0, l0, c0⟩ := Opens.fld op9 (n := 1) (off := 0) (by kernel_rfl) (by omega) (hf _ (List.mem_of_getElem? (i := 0) rfl))
  obtain ⟨x1, k1, l1, c1⟩ := Opens.fld op22 (n := 1) (off := 1) (by kernel_rfl) (by omega) (hf _ (List.mem_of_getElem? (i := 1) rfl))
  obtain ⟨x2, k2, l2, c2⟩ := Opens.fld op3 (n := 1) (off := 2) (by kernel_rfl) (by omega) (hf _ (List.mem_of_getElem? (i := 2) rfl))
  obtain ⟨x3, k3, l3, c3⟩ := Opens.fld op3 (n := 1) (off := 3) (by kernel_rfl) (by omega) (hf _ (List.mem_of_getElem? (i := 3) rfl))
  obtain ⟨x4, k4, l4, c4⟩ := Opens.fld op84 (n := 1) (off := 4) (by kernel_rfl) (by omega) (hf _ (List.mem_of_getElem? (i := 4) rfl))
  have hc : Cov w cells 0 (eApiZone ⟨x0, x1, x2, x3, x4⟩) := (c0.app (c1.app (c2.app (c3.app (c4.app Cov.nil)))))
  exact ⟨⟨x0, x1, x2, x3, x4⟩, ⟨k0, k1, k2, k3, k4⟩, by rw [hl]; rfl, fun j A v hA hv => hc j A v hA (by simpa using hv)⟩
theorem op25 : Opens Tryz.prog 25 eLeApiZone (OkL OkApiZone) := Opens.slice Tryz.underlying25 (n := 5) (by kernel_rfl) (by decide) op86
theorem op88 : Opens Tryz.prog 88 eApiApart OkApiApart := fun enc w held fuel cells d ps ht => by
  obtain ⟨fuel', hl, hf⟩ := Opens.st (N := 2) Tryz.underlying88 (by kernel_rfl) ht
  obtain ⟨x0, k0, l0, c0⟩ := Opens.fld op9 (n := 1) (off := 0) (by kernel_rfl) (by omega) (hf _ (List.mem_of_getElem? (i := 0) rfl))
  obtain ⟨x1, k1, l1, c1⟩ := Opens.fld op9 (n := 1) (off := 1) (by kernel_rfl) (by omega) (hf _ (List.mem_of_getElem? (i := 1) rfl))
  have hc : Cov w cells 0 (eApiApart ⟨x0, x1⟩) := (c0.app (c1.app Cov.nil))
  exact ⟨⟨x0, x1⟩, ⟨k0, k1⟩, by rw [hl]; rfl, fun j A v hA hv => hc j A v hA (by simpa using hv)⟩
theorem op26 : Opens Tryz.prog 26 eLeApiApart (OkL OkApiApart) := Opens.slice Tryz.underlying26 (n := 2) (by kernel_rfl) (by decide) op88
theorem op90 : Opens Tryz.prog 90 eApiShelf OkApiShelf := fun enc w held fuel cells d ps ht => by
  obtain ⟨fuel', hl, hf⟩ := Opens.st (N := 2) Tryz.underlying90 (by kernel_rfl) ht
  obtain ⟨x0, k0, l0, c0⟩ := Opens.fld op3 (n := 1) (off := 0) (by kernel_rfl) (by omega) (hf _ (List.mem_of_getElem? (i := 0) rfl))
  obtain ⟨x1, k1, l1, c1⟩ := Opens.fld op9 (n := 1) (off := 1) (by kernel_rfl) (by omega) (hf _ (List.mem_of_getElem? (i := 1) rfl))
  have hc : Cov w cells 0 (eApiShelf ⟨x0, x1⟩) := (c0.app (c1.app Cov.nil))
  exact ⟨⟨x0, x1⟩, ⟨k0, k1⟩, by rw [hl]; rfl, fun j A v hA hv => hc j A v hA (by simpa using hv)⟩
theorem op27 : Opens Tryz.prog 27 eLeApiShelf (OkL OkApiShelf) := Opens.slice Tryz.underlying27 (n := 2) (by kernel_rfl) (by decide) op90
theorem op103 : Opens Tryz.prog 103 eApiStart OkApiStart := fun enc w held fuel cells d ps ht => by
  obtain ⟨fuel', hl, hf⟩ := Opens.st (N := 2) Tryz.underlying103 (by kernel_rfl) ht
  obtain ⟨x0, k0, l0, c0⟩ := Opens.fld op3 (n := 1) (off := 0) (by kernel_rfl) (by omega) (hf _ (List.mem_of_getElem? (i := 0) rfl))
  obtain ⟨x1, k1, l1, c1⟩ := Opens.fld op3 (n := 1) (off := 1) (by kernel_rfl) (by omega) (hf _ (List.mem_of_getElem? (i := 1) rfl))
  have hc : Cov w cells 0 (eApiStart ⟨x0, x1⟩) := (c0.app (c1.app Cov.nil))
  exact ⟨⟨x0, x1⟩, ⟨k0, k1⟩, by rw [hl]; rfl, fun j A v hA hv => hc j A v hA (by simpa using hv)⟩
theorem op28 : Opens Tryz.prog 28 eLeApiStart (OkL OkApiStart) := Opens.slice Tryz.underlying28 (n := 2) (by kernel_rfl) (by decide) op103
theorem op30 : Opens Tryz.prog 30 eApiSite OkApiSite := fun enc w held fuel cells d ps ht => by
  obtain ⟨fuel', hl, hf⟩ := Opens.st (N := 9) Tryz.underlying30 (by kernel_rfl) ht
  obtain ⟨x0, k0, l0, c0⟩ := Opens.fld op24 (n := 5) (off := 0) (by kernel_rfl) (by omega) (hf _ (List.mem_of_getElem? (i := 0) rfl))
  obtain ⟨x1, k1, l1, c1⟩ := Opens.fld op25 (n := 1) (off := 5) (by kernel_rfl) (by omega) (hf _ (List.mem_of_getElem? (i := 1) rfl))
  obtain ⟨x2, k2, l2, c2⟩ := Opens.fld op26 (n := 1) (off := 6) (by kernel_rfl) (by omega) (hf _ (List.mem_of_getElem? (i := 2) rfl))
  obtain ⟨x3, k3, l3, c3⟩ := Opens.fld op27 (n := 1) (off := 7) (by kernel_rfl) (by omega) (hf _ (List.mem_of_getElem? (i := 3) rfl))
  obtain ⟨x4, k4, l4, c4⟩ := Opens.fld op28 (n := 1) (off := 8) (by kernel_rfl) (by omega) (hf _ (List.mem_of_getElem? (i := 4) rfl))
  have hc : Cov w cells 0 (eApiSite ⟨x0, x1, x2, x3, x4⟩) := (c0.app (c1.app (c2.app (c3.app (c4.app Cov.nil)))))
  exact ⟨⟨x0, x1, x2, x3, x4⟩, ⟨k0, k1, k2, k3, k4⟩, by rw [hl]; rfl, fun j A v hA hv => hc j A v hA (by simpa using hv)⟩
theorem op4 : Opens Tryz.prog 4 eB (fun (_ : Bool) => True) := Opens.bool Tryz.underlying4
theorem op56 : Opens Tryz.prog 56 eApiRobot OkApiRobot := fun enc w held fuel cells d ps ht => by
  obtain ⟨fuel', hl, hf⟩ := Opens.st (N := 6) Tryz.underlying56 (by kernel_rfl) ht
  obtain ⟨x0, k0, l0, c0⟩ := Opens.fld op3 (n := 1) (off := 0) (by kernel_rfl) (by omega) (hf _ (List.mem_of_getElem? (i := 0) rfl))
  obtain ⟨x1, k1, l1, c1⟩ := Opens.fld op3 (n := 1) (off := 1) (by kernel_rfl) (by omega) (hf _ (List.mem_of_getElem? (i := 1) rfl))
  obtain ⟨x2, k2, l2, c2⟩ := Opens.fld op3 (n := 1) (off := 2) (by kernel_rfl) (by omega) (hf _ (List.mem_of_getElem? (i := 2) rfl))
  obtain ⟨x3, k3, l3, c3⟩ := Opens.fld op3 (n := 1) (off := 3) (by kernel_rfl) (by omega) (hf _ (List.mem_of_getElem? (i := 3) rfl))
  obtain ⟨x4, k4, l4, c4⟩ := Opens.fld op3 (n := 1) (off := 4) (by kernel_rfl) (by omega) (hf _ (List.mem_of_getElem? (i := 4) rfl))
  obtain ⟨x5, k5, l5, c5⟩ := Opens.fld op4 (n := 1) (off := 5) (by kernel_rfl) (by omega) (hf _ (List.mem_of_getElem? (i := 5) rfl))
  have hc : Cov w cells 0 (eApiRobot ⟨x0, x1, x2, x3, x4, x5⟩) := (c0.app (c1.app (c2.app (c3.app (c4.app (c5.app Cov.nil))))))
  exact ⟨⟨x0, x1, x2, x3, x4, x5⟩, ⟨k0, k1, k2, k3, k4, k5⟩, by rw [hl]; rfl, fun j A v hA hv => hc j A v hA (by simpa using hv)⟩
theorem op31 : Opens Tryz.prog 31 eLeApiRobot (OkL OkApiRobot) := Opens.slice Tryz.underlying31 (n := 6) (by kernel_rfl) (by decide) op56
theorem op77 : Opens Tryz.prog 77 eApiStuck OkApiStuck := fun enc w held fuel cells d ps ht => by
  obtain ⟨fuel', hl, hf⟩ := Opens.st (N := 2) Tryz.underlying77 (by kernel_rfl) ht
  obtain ⟨x0, k0, l0, c0⟩ := Opens.fld op3 (n := 1) (off := 0) (by kernel_rfl) (by omega) (hf _ (List.mem_of_getElem? (i := 0) rfl))
  obtain ⟨x1, k1, l1, c1⟩ := Opens.fld op3 (n := 1) (off := 1) (by kernel_rfl) (by omega) (hf _ (List.mem_of_getElem? (i := 1) rfl))
  have hc : Cov w cells 0 (eApiStuck ⟨x0, x1⟩) := (c0.app (c1.app Cov.nil))
  exact ⟨⟨x0, x1⟩, ⟨k0, k1⟩, by rw [hl]; rfl, fun j A v hA hv => hc j A v hA (by simpa using hv)⟩
theorem op32 : Opens Tryz.prog 32 eLeApiStuck (OkL OkApiStuck) := Opens.slice Tryz.underlying32 (n := 2) (by kernel_rfl) (by decide) op77
theorem op34 : Opens Tryz.prog 34 eApiState OkApiState := fun enc w held fuel cells d ps ht => by
  obtain ⟨fuel', hl, hf⟩ := Opens.st (N := 6) Tryz.underlying34 (by kernel_rfl) ht
  obtain ⟨x0, k0, l0, c0⟩ := Opens.fld op3 (n := 1) (off := 0) (by kernel_rfl) (by omega) (hf _ (List.mem_of_getElem? (i := 0) rfl))
  obtain ⟨x1, k1, l1, c1⟩ := Opens.fld op22 (n := 1) (off := 1) (by kernel_rfl) (by omega) (hf _ (List.mem_of_getElem? (i := 1) rfl))
  obtain ⟨x2, k2, l2, c2⟩ := Opens.fld op31 (n := 1) (off := 2) (by kernel_rfl) (by omega) (hf _ (List.mem_of_getElem? (i := 2) rfl))
  obtain ⟨x3, k3, l3, c3⟩ := Opens.fld op22 (n := 1) (off := 3) (by kernel_rfl) (by omega) (hf _ (List.mem_of_getElem? (i := 3) rfl))
  obtain ⟨x4, k4, l4, c4⟩ := Opens.fld op22 (n := 1) (off := 4) (by kernel_rfl) (by omega) (hf _ (List.mem_of_getElem? (i := 4) rfl))
  obtain ⟨x5, k5, l5, c5⟩ := Opens.fld op32 (n := 1) (off := 5) (by kernel_rfl) (by omega) (hf _ (List.mem_of_getElem? (i := 5) rfl))
  have hc : Cov w cells 0 (eApiState ⟨x0, x1, x2, x3, x4, x5⟩) := (c0.app (c1.app (c2.app (c3.app (c4.app (c5.app Cov.nil))))))
  exact ⟨⟨x0, x1, x2, x3, x4, x5⟩, ⟨k0, k1, k2, k3, k4, k5⟩, by rw [hl]; rfl, fun j A v hA hv => hc j A v hA (by simpa using hv)⟩
theorem op39 : Opens Tryz.prog 39 eApiFault OkApiFault := fun enc w held fuel cells d ps ht => by
  obtain ⟨fuel', hl, hf⟩ := Opens.st (N := 3) Tryz.underlying39 (by kernel_rfl) ht
  obtain ⟨x0, k0, l0, c0⟩ := Opens.fld op3 (n := 1) (off := 0) (by kernel_rfl) (by omega) (hf _ (List.mem_of_getElem? (i := 0) rfl))
  obtain ⟨x1, k1, l1, c1⟩ := Opens.fld op3 (n := 1) (off := 1) (by kernel_rfl) (by omega) (hf _ (List.mem_of_getElem? (i := 1) rfl))
  obtain ⟨x2, k2, l2, c2⟩ := Opens.fld op3 (n := 1) (off := 2) (by kernel_rfl) (by omega) (hf _ (List.mem_of_getElem? (i := 2) rfl))
  have hc : Cov w cells 0 (eApiFault ⟨x0, x1, x2⟩) := (c0.app (c1.app (c2.app Cov.nil)))
  exact ⟨⟨x0, x1, x2⟩, ⟨k0, k1, k2⟩, by rw [hl]; rfl, fun j A v hA hv => hc j A v hA (by simpa using hv)⟩
theorem op41 : Opens Tryz.prog 41 eTaquinref16Act OkTaquinref16Act := fun enc w held fuel cells d ps ht => by
  obtain ⟨fuel', hl, hf⟩ := Opens.st (N := 4) Tryz.underlying41 (by kernel_rfl) ht
  obtain ⟨x0, k0, l0, c0⟩ := Opens.fld op22 (n := 1) (off := 0) (by kernel_rfl) (by omega) (hf _ (List.mem_of_getElem? (i := 0) rfl))
  obtain ⟨x1, k1, l1, c1⟩ := Opens.fld op39 (n := 3) (off := 1) (by kernel_rfl) (by omega) (hf _ (List.mem_of_getElem? (i := 1) rfl))
  have hc : Cov w cells 0 (eTaquinref16Act ⟨x0, x1⟩) := (c0.app (c1.app Cov.nil))
  exact ⟨⟨x0, x1⟩, ⟨k0, k1⟩, by rw [hl]; rfl, fun j A v hA hv => hc j A v hA (by simpa using hv)⟩
theorem op35 : Opens Tryz.prog 35 eLeTaquinref16Act (OkL OkTaquinref16Act) := Opens.slice Tryz.underlying35 (n := 4) (by kernel_rfl) (by decide) op41
theorem itb152 (xs : List Int) (l : Nat) (J : Nat → World → Prop) (Jx : World → Prop) (S : Nat → Prop) (w W : World) (b off cap : Nat) (p0 : Option Addr) (hlen : xs.length ≤ 1099511627776) (hS : S b)
    (hY : ∀ m x W1, xs[m]? = some x → J m W1 → YieldAt Fence.wide 1 Tryz.prog l #[.int .i64 x] W1 fun e W' => (e = .returned (.bool true) ∧ J (m + 1) W' ∧ KS S W1 W') ∨ (e = .returned (.bool false) ∧ Jx W'))
    (hc : W.cell? ⟨b, off, none⟩ = some (.slice p0 xs.length cap)) (hL : RowAt S W p0 xs) (h0 : J 0 W) :
    CallsIn Fence.wide 2 Tryz.prog 152 #[.func (.yield l) #[] #[], .pointer (some ⟨b, off, none⟩)] W fun e W' => (∃ v, e = .returned v) ∧ (J xs.length W' ∨ Jx W') := by
  refine callsIn_of_wp Tryz.func152 rfl trivial ?_ rfl
  simp only [Tryz.ntmps152, List.size_toArray, List.length_cons, List.length_nil, Nat.reduceAdd, Nat.reduceSub, Array.replicate_succ, Array.replicate_zero, List.push_toArray, List.append_toArray, List.nil_append, List.cons_append]
  gi_wp2
  gi_loopw [7] (fun p wr => ∃ (m : Nat), m ≤ xs.length ∧ p = .int .i64 (m : Int) ∧ RowAt S wr p0 xs ∧ J m wr)
    (fun p wr => match p with | .int _ i => xs.length - i.toNat | _ => 0)
  case atStart => exact ⟨0, Nat.zero_le _, rfl, hL, h0⟩
  case round =>
    obtain ⟨m, hm, rfl, hl, hJs⟩ := hrel
    by_cases hlt : m < xs.length
    · have hx : xs[m]? = some (xs.getD m 0) := by rw [List.getD_eq_getElem?_getD, List.getElem?_eq_getElem hlt]; rfl
      obtain ⟨b', off', rfl, hb, hv⟩ := hl m _ hx
      obtain ⟨fn, tmps, assign, body, hy, hR⟩ := hY m (xs.getD m 0) wr hx hJs
      generalize xs.getD m 0 = x0 at *
      gi_wp2
      refine hR.mono ?_
      rintro e W3 (⟨rfl, hJ3, hk3⟩ | ⟨rfl, hJx3⟩)
      · gi_wp2
        go_roundw
        case rel => exact ⟨m + 1, by omega, rfl, hl.keep hk3, hJ3⟩
        case measure => simp; omega
      · gi_wp2
        refine bodyPost_ret (results_none rfl _ _ _) rfl ?_
        exact ⟨⟨_, rfl⟩, .inr hJx3⟩
    · obtain rfl : m = xs.length := by omega
      gi_wp2
      go_end0
      exact ⟨⟨_, rfl⟩, .inl hJs⟩
theorem it152 (xs : List Int) (hlen : xs.length ≤ 1099511627776) : Iter Tryz.prog 152 [.rp [.sl 1 eI xs]] (fun x : Int => [.int .i64 x]) xs := fun w ok β lb hlb l J Jx W hW hY h0 => by
  obtain ⟨b, off, p, cap, rfl, hb, hc, hr⟩ := capRow hlb
  exact itb152 xs l J Jx ok w W b off cap p hlen hb hY ((hW.cell hb).trans hc) (hr.keep hW) h0

theorem itb223 (xs : List Int) (l : Nat) (J : Nat → World → Prop) (Jx : World → Prop) (S : Nat → Prop) (w W : World) (b off cap : Nat) (p0 : Option Addr) (hlen : xs.length ≤ 1099511627776) (hS : S b)
    (hY : ∀ m x W1, (bkw xs)[m]? = some x → J m W1 → YieldAt Fence.wide 1 Tryz.prog l #[.int .i64 x.1, .int .i64 x.2] W1 fun e W' => (e = .returned (.bool true) ∧ J (m + 1) W' ∧ KS S W1 W') ∨ (e = .returned (.bool false) ∧ Jx W'))
    (hc : W.cell? ⟨b, off, none⟩ = some (.slice p0 xs.length cap)) (hL : RowAt S W p0 xs) (h0 : J 0 W) :
    CallsIn Fence.wide 2 Tryz.prog 223 #[.func (.yield l) #[] #[], .pointer (some ⟨b, off, none⟩)] W fun e W' => (∃ v, e = .returned v) ∧ (J (bkw xs).length W' ∨ Jx W') := by
  refine callsIn_of_wp Tryz.func223 rfl trivial ?_ rfl
  simp only [Tryz.ntmps223, List.size_toArray, List.length_cons, List.length_nil, Nat.reduceAdd, Nat.reduceSub, Array.replicate_succ, Array.replicate_zero, List.push_toArray, List.append_toArray, List.nil_append, List.cons_append]
  gi_wp2
  gi_loopw [3] (fun p wr => ∃ (m : Nat), m ≤ xs.length ∧ p = .int .i64 ((m : Int) - 1) ∧ RowAt S wr p0 xs ∧ wr.cell? ⟨b, off, none⟩ = some (.slice p0 xs.length cap) ∧ J (xs.length - m) wr)
    (fun p wr => match p with | .int _ i => (i + 1).toNat | _ => 0)
  case atStart => exact ⟨xs.length, Nat.le_refl _, rfl, hL, hc, by simpa using h0⟩
  case round =>
    obtain ⟨m, hm, rfl, hl, hc, hJs⟩ := hrel
    cases m with
    | zero =>
      gi_wp2
      go_end0
      exact ⟨⟨_, rfl⟩, .inl (by rw [bkw_len]; exact hJs)⟩
    | succ m =>
      have hx : xs[m]? = some (xs.getD m 0) := by rw [List.getD_eq_getElem?_getD, List.getElem?_eq_getElem (by omega)]; rfl
      obtain ⟨b', off', rfl, hb, hv⟩ := hl m _ hx
      obtain ⟨fn, tmps, assign, body, hy, hR⟩ := hY (xs.length - (m + 1)) ((m : Int), xs.getD m 0) wr (bkw_get (by omega)) hJs
      have e1 : ((m + 1 : Nat) : Int) - 1 = (m : Int) := by omega
      rw [e1]
      generalize xs.getD m 0 = x0 at *
      gi_wp2
      refine hR.mono ?_
      rintro e W3 (⟨rfl, hJ3, hk3⟩ | ⟨rfl, hJx3⟩)
      · gi_wp2
        go_roundw
        case rel => exact ⟨m, by omega, rfl, hl.keep hk3, (hk3.cell hS).trans hc, by rw [show xs.length - m = xs.length - (m + 1) + 1 by omega]; exact hJ3⟩
        case measure => simp
      · gi_wp2
        refine bodyPost_ret (results_none rfl _ _ _) rfl ?_
        exact ⟨⟨_, rfl⟩, .inr hJx3⟩
theorem it223 (xs : List Int) (hlen : xs.length ≤ 1099511627776) : Iter Tryz.prog 223 [.rp [.sl 1 eI xs]] (fun x : Int × Int => [.int .i64 x.1, .int .i64 x.2]) (bkw xs) := fun w ok β lb hlb l J Jx W hW hY h0 => by
  obtain ⟨b, off, p, cap, rfl, hb, hc, hr⟩ := capRow hlb
  exact itb223 xs l J Jx ok w W b off cap p hlen hb hY ((hW.cell hb).trans hc) (hr.keep hW) h0

end Go.Proofs.YtbpbennpgnjbkaaGreat
