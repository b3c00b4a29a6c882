/- The encodings of the data, and the types' table (written by a program of the prover). -/
import Derived.Test.YtbekicmmgohfbaaGreatVc
import Derived.Test.YtbekicmmgohfbaaGreatChecked
import Derived.Test.YtbekicmmgohfbaaGreatLibZC
import Derived.Test.YtbekicmmgohfbaaGreatLibZR
import Derived.Test.YtbekicmmgohfbaaGreatLibZS
import Derived.RangeFuncLeaves
import Derived.WalkKit
import Derived.OwnWalkIn
import Derived.TacticsInMore
import Derived.LoopNIn
import Derived.LoopIn
import Derived.KernelRfl
set_option maxRecDepth 100000
set_option maxHeartbeats 8000000
set_option linter.unusedVariables false
set_option linter.unusedSimpArgs false
namespace Go.Proofs.YtbekicmmgohfbaaGreat
open Go Go.Taq
@[reducible] def eI (x : Int) : List AVal := [.i x]
@[reducible] def eApiSpan (x : ApiSpan) : List AVal := [.i x.From, .i x.To]
@[reducible] def eApiZone (x : ApiZone) : List AVal := [.v (.string x.Name), .sl 1 eI x.Cells, .i x.Speed, .i x.Keep, .sl 2 eApiSpan x.Shut]
@[reducible] def eApiApart (x : ApiApart) : List AVal := [.v (.string x.A), .v (.string x.B)]
@[reducible] def eApiShelf (x : ApiShelf) : List AVal := [.i x.Cell, .v (.string x.Class)]
@[reducible] def eApiStart (x : ApiStart) : List AVal := [.i x.Cell, .i x.Charge]
@[reducible] def eApiTaken (x : ApiTaken) : List AVal := [.i x.Cell, .i x.Span.From, .i x.Span.To]
@[reducible] def eApiSite (x : ApiSite) : List AVal := [.i x.Floor.W, .i x.Floor.H, .i x.Floor.D, .sl 1 eI x.Floor.Kind, .sl 1 eI x.Floor.Out, .sl 5 eApiZone x.Zones, .sl 2 eApiApart x.Aparts, .sl 2 eApiShelf x.Shelves, .sl 2 eApiStart x.Robots]
def kI (x : Int) : Value := .int .i64 x
def veOeApiSpan (x : List ApiSpan) : AVal := .os 2 eApiSpan x
@[reducible] def eLeApiSpan (x : List ApiSpan) : List AVal := [.sl 2 eApiSpan x]
def veLeApiSpan (x : List ApiSpan) : AVal := .sl 2 eApiSpan x
def kRouteStandc (x : RouteStand) : List Value := [.int .i64 x.cell, .int .i64 x.rest]
def kRouteStand (x : RouteStand) : Value := .agg (kRouteStandc x).toArray
def veB (x : Bool) : AVal := .b x
@[reducible] def eOMkRouteStandveB (x : List (RouteStand × Bool)) : List AVal := [.om kRouteStand veB x]
@[reducible] def eApiFloor (x : ApiFloor) : List AVal := [.i x.W, .i x.H, .i x.D, .sl 1 eI x.Kind, .sl 1 eI x.Out]
@[reducible] def eFloorStep (x : FloorStep) : List AVal := [.i x.x, .i x.y, .i x.z]
@[reducible] def eApiRobot (x : ApiRobot) : List AVal := [.i x.Cell, .i x.Load, .i x.Charge, .i x.Rest, .i x.Mute, .b x.Dead]
@[reducible] def eApiStuck (x : ApiStuck) : List AVal := [.i x.Cell, .i x.Left]
@[reducible] def eApiState (x : ApiState) : List AVal := [.i x.Tick, .sl 1 eI x.Shelves, .sl 6 eApiRobot x.Robots, .sl 1 eI x.People, .sl 1 eI x.Dead, .sl 2 eApiStuck x.Stuck]
def veI (x : Int) : AVal := .i x
def kApiApartc (x : ApiApart) : List Value := [.string x.A, .string x.B]
def kApiApart (x : ApiApart) : Value := .agg (kApiApartc x).toArray
@[reducible] def eLeI (x : List Int) : List AVal := [.sl 1 eI x]
@[reducible] def eS (x : ByteArray) : List AVal := [.v (.string x)]
@[reducible] def eLeApiZone (x : List ApiZone) : List AVal := [.sl 5 eApiZone x]
@[reducible] def eLeApiApart (x : List ApiApart) : List AVal := [.sl 2 eApiApart x]
@[reducible] def eLeApiShelf (x : List ApiShelf) : List AVal := [.sl 2 eApiShelf x]
@[reducible] def eLeApiStart (x : List ApiStart) : List AVal := [.sl 2 eApiStart x]
def te3 : TE := ⟨.int .i64, 1, 8, [.int .i64 0]⟩
theorem teok3 : TEok Tryz.prog 3 te3 := ⟨⟨_, Tryz.underlying3, rfl⟩, Tryz.t3, _, (by kernel_rfl : Tryz.prog.info? 3 = some Tryz.t3), rfl, rfl, rfl, rfl, (fun h => by cases h), rfl, by decide⟩
def te4 : TE := ⟨.bool, 1, 1, [.bool false]⟩
theorem teok4 : TEok Tryz.prog 4 te4 := ⟨⟨_, Tryz.underlying4, rfl⟩, Tryz.t4, _, (by kernel_rfl : Tryz.prog.info? 4 = some Tryz.t4), rfl, rfl, rfl, rfl, (fun h => by cases h), rfl, by decide⟩
def te5 : TE := ⟨.int .u8, 1, 1, [.int .u8 0]⟩
theorem teok5 : TEok Tryz.prog 5 te5 := ⟨⟨_, Tryz.underlying5, rfl⟩, Tryz.t5, _, (by kernel_rfl : Tryz.prog.info? 5 = some Tryz.t5), rfl, rfl, rfl, rfl, (fun h => by cases h), rfl, by decide⟩
def te9 : TE := ⟨.str, 1, 16, [.string ByteArray.empty]⟩
theorem teok9 : TEok Tryz.prog 9 te9 := ⟨⟨_, Tryz.underlying9, rfl⟩, Tryz.t9, _, (by kernel_rfl : Tryz.prog.info? 9 = some Tryz.t9), rfl, rfl, rfl, rfl, (fun h => by cases h), rfl, by decide⟩
def te22 : TE := ⟨.sl 3, 1, 24, [.slice none 0 0]⟩
theorem teok22 : TEok Tryz.prog 22 te22 := ⟨⟨_, Tryz.underlying22, rfl⟩, Tryz.t22, _, (by kernel_rfl : Tryz.prog.info? 22 = some Tryz.t22), rfl, rfl, rfl, rfl, (fun h => by cases h), rfl, by decide⟩
def te24 : TE := ⟨.st [(0, 3), (1, 3), (2, 3), (3, 22), (4, 22)], 5, 72, [.int .i64 0, .int .i64 0, .int .i64 0, .slice none 0 0, .slice none 0 0]⟩
theorem teok24 : TEok Tryz.prog 24 te24 := ⟨⟨_, Tryz.underlying24, ⟨_, rfl, rfl⟩⟩, Tryz.t24, _, (by kernel_rfl : Tryz.prog.info? 24 = some Tryz.t24), rfl, rfl, rfl, rfl, (fun _ => ⟨_, rfl⟩), rfl, by decide⟩
def te25 : TE := ⟨.sl 57, 1, 24, [.slice none 0 0]⟩
theorem teok25 : TEok Tryz.prog 25 te25 := ⟨⟨_, Tryz.underlying25, rfl⟩, Tryz.t25, _, (by kernel_rfl : Tryz.prog.info? 25 = some Tryz.t25), rfl, rfl, rfl, rfl, (fun h => by cases h), rfl, by decide⟩
def te26 : TE := ⟨.sl 90, 1, 24, [.slice none 0 0]⟩
theorem teok26 : TEok Tryz.prog 26 te26 := ⟨⟨_, Tryz.underlying26, rfl⟩, Tryz.t26, _, (by kernel_rfl : Tryz.prog.info? 26 = some Tryz.t26), rfl, rfl, rfl, rfl, (fun h => by cases h), rfl, by decide⟩
def te27 : TE := ⟨.sl 92, 1, 24, [.slice none 0 0]⟩
theorem teok27 : TEok Tryz.prog 27 te27 := ⟨⟨_, Tryz.underlying27, rfl⟩, Tryz.t27, _, (by kernel_rfl : Tryz.prog.info? 27 = some Tryz.t27), rfl, rfl, rfl, rfl, (fun h => by cases h), rfl, by decide⟩
def te28 : TE := ⟨.sl 37, 1, 24, [.slice none 0 0]⟩
theorem teok28 : TEok Tryz.prog 28 te28 := ⟨⟨_, Tryz.underlying28, rfl⟩, Tryz.t28, _, (by kernel_rfl : Tryz.prog.info? 28 = some Tryz.t28), rfl, rfl, rfl, rfl, (fun h => by cases h), rfl, by decide⟩
def te30 : TE := ⟨.st [(0, 24), (5, 25), (6, 26), (7, 27), (8, 28)], 9, 168, [.int .i64 0, .int .i64 0, .int .i64 0, .slice none 0 0, .slice none 0 0, .slice none 0 0, .slice none 0 0, .slice none 0 0, .slice none 0 0]⟩
theorem teok30 : TEok Tryz.prog 30 te30 := ⟨⟨_, Tryz.underlying30, ⟨_, rfl, rfl⟩⟩, Tryz.t30, _, (by kernel_rfl : Tryz.prog.info? 30 = some Tryz.t30), rfl, rfl, rfl, rfl, (fun _ => ⟨_, rfl⟩), rfl, by decide⟩
def te33 : TE := ⟨.int .i64, 1, 8, [.int .i64 0]⟩
theorem teok33 : TEok Tryz.prog 33 te33 := ⟨⟨_, Tryz.underlying33, rfl⟩, Tryz.t33, _, (by kernel_rfl : Tryz.prog.info? 33 = some Tryz.t33), rfl, rfl, rfl, rfl, (fun h => by cases h), rfl, by decide⟩
def te37 : TE := ⟨.st [(0, 3), (1, 3)], 2, 16, [.int .i64 0, .int .i64 0]⟩
theorem teok37 : TEok Tryz.prog 37 te37 := ⟨⟨_, Tryz.underlying37, ⟨_, rfl, rfl⟩⟩, Tryz.t37, _, (by kernel_rfl : Tryz.prog.info? 37 = some Tryz.t37), rfl, rfl, rfl, rfl, (fun _ => ⟨_, rfl⟩), rfl, by decide⟩
def te39 : TE := ⟨.st [(0, 3), (1, 3), (2, 3), (3, 3), (4, 3), (5, 4)], 6, 48, [.int .i64 0, .int .i64 0, .int .i64 0, .int .i64 0, .int .i64 0, .bool false]⟩
theorem teok39 : TEok Tryz.prog 39 te39 := ⟨⟨_, Tryz.underlying39, ⟨_, rfl, rfl⟩⟩, Tryz.t39, _, (by kernel_rfl : Tryz.prog.info? 39 = some Tryz.t39), rfl, rfl, rfl, rfl, (fun _ => ⟨_, rfl⟩), rfl, by decide⟩
def te40 : TE := ⟨.sl 39, 1, 24, [.slice none 0 0]⟩
theorem teok40 : TEok Tryz.prog 40 te40 := ⟨⟨_, Tryz.underlying40, rfl⟩, Tryz.t40, _, (by kernel_rfl : Tryz.prog.info? 40 = some Tryz.t40), rfl, rfl, rfl, rfl, (fun h => by cases h), rfl, by decide⟩
def te41 : TE := ⟨.sl 105, 1, 24, [.slice none 0 0]⟩
theorem teok41 : TEok Tryz.prog 41 te41 := ⟨⟨_, Tryz.underlying41, rfl⟩, Tryz.t41, _, (by kernel_rfl : Tryz.prog.info? 41 = some Tryz.t41), rfl, rfl, rfl, rfl, (fun h => by cases h), rfl, by decide⟩
def te43 : TE := ⟨.st [(0, 3), (1, 22), (2, 40), (3, 22), (4, 22), (5, 41)], 6, 128, [.int .i64 0, .slice none 0 0, .slice none 0 0, .slice none 0 0, .slice none 0 0, .slice none 0 0]⟩
theorem teok43 : TEok Tryz.prog 43 te43 := ⟨⟨_, Tryz.underlying43, ⟨_, rfl, rfl⟩⟩, Tryz.t43, _, (by kernel_rfl : Tryz.prog.info? 43 = some Tryz.t43), rfl, rfl, rfl, rfl, (fun _ => ⟨_, rfl⟩), rfl, by decide⟩
def te49 : TE := ⟨.st [(0, 3), (1, 3)], 2, 16, [.int .i64 0, .int .i64 0]⟩
theorem teok49 : TEok Tryz.prog 49 te49 := ⟨⟨_, Tryz.underlying49, ⟨_, rfl, rfl⟩⟩, Tryz.t49, _, (by kernel_rfl : Tryz.prog.info? 49 = some Tryz.t49), rfl, rfl, rfl, rfl, (fun _ => ⟨_, rfl⟩), rfl, by decide⟩
def te51 : TE := ⟨.st [(0, 3), (1, 49)], 3, 24, [.int .i64 0, .int .i64 0, .int .i64 0]⟩
theorem teok51 : TEok Tryz.prog 51 te51 := ⟨⟨_, Tryz.underlying51, ⟨_, rfl, rfl⟩⟩, Tryz.t51, _, (by kernel_rfl : Tryz.prog.info? 51 = some Tryz.t51), rfl, rfl, rfl, rfl, (fun _ => ⟨_, rfl⟩), rfl, by decide⟩
def te52 : TE := ⟨.sl 51, 1, 24, [.slice none 0 0]⟩
theorem teok52 : TEok Tryz.prog 52 te52 := ⟨⟨_, Tryz.underlying52, rfl⟩, Tryz.t52, _, (by kernel_rfl : Tryz.prog.info? 52 = some Tryz.t52), rfl, rfl, rfl, rfl, (fun h => by cases h), rfl, by decide⟩
def te55 : TE := ⟨.sl 49, 1, 24, [.slice none 0 0]⟩
theorem teok55 : TEok Tryz.prog 55 te55 := ⟨⟨_, Tryz.underlying55, rfl⟩, Tryz.t55, _, (by kernel_rfl : Tryz.prog.info? 55 = some Tryz.t55), rfl, rfl, rfl, rfl, (fun h => by cases h), rfl, by decide⟩
def te57 : TE := ⟨.st [(0, 9), (1, 22), (2, 3), (3, 3), (4, 55)], 5, 80, [.string ByteArray.empty, .slice none 0 0, .int .i64 0, .int .i64 0, .slice none 0 0]⟩
theorem teok57 : TEok Tryz.prog 57 te57 := ⟨⟨_, Tryz.underlying57, ⟨_, rfl, rfl⟩⟩, Tryz.t57, _, (by kernel_rfl : Tryz.prog.info? 57 = some Tryz.t57), rfl, rfl, rfl, rfl, (fun _ => ⟨_, rfl⟩), rfl, by decide⟩
def te61 : TE := ⟨.mp 3 55, 1, 8, [.map none]⟩
theorem teok61 : TEok Tryz.prog 61 te61 := ⟨⟨_, Tryz.underlying61, rfl⟩, Tryz.t61, _, (by kernel_rfl : Tryz.prog.info? 61 = some Tryz.t61), rfl, rfl, rfl, rfl, (fun h => by cases h), rfl, by decide⟩
def te63 : TE := ⟨.st [(0, 30), (9, 3), (10, 22), (11, 61)], 12, 208, [.int .i64 0, .int .i64 0, .int .i64 0, .slice none 0 0, .slice none 0 0, .slice none 0 0, .slice none 0 0, .slice none 0 0, .slice none 0 0, .int .i64 0, .slice none 0 0, .map none]⟩
theorem teok63 : TEok Tryz.prog 63 te63 := ⟨⟨_, Tryz.underlying63, ⟨_, rfl, rfl⟩⟩, Tryz.t63, _, (by kernel_rfl : Tryz.prog.info? 63 = some Tryz.t63), rfl, rfl, rfl, rfl, (fun _ => ⟨_, rfl⟩), rfl, by decide⟩
def te65 : TE := ⟨.sl 68, 1, 24, [.slice none 0 0]⟩
theorem teok65 : TEok Tryz.prog 65 te65 := ⟨⟨_, Tryz.underlying65, rfl⟩, Tryz.t65, _, (by kernel_rfl : Tryz.prog.info? 65 = some Tryz.t65), rfl, rfl, rfl, rfl, (fun h => by cases h), rfl, by decide⟩
def te68 : TE := ⟨.mp 70 4, 1, 8, [.map none]⟩
theorem teok68 : TEok Tryz.prog 68 te68 := ⟨⟨_, Tryz.underlying68, rfl⟩, Tryz.t68, _, (by kernel_rfl : Tryz.prog.info? 68 = some Tryz.t68), rfl, rfl, rfl, rfl, (fun h => by cases h), rfl, by decide⟩
def te70 : TE := ⟨.st [(0, 3), (1, 3)], 2, 16, [.int .i64 0, .int .i64 0]⟩
theorem teok70 : TEok Tryz.prog 70 te70 := ⟨⟨_, Tryz.underlying70, ⟨_, rfl, rfl⟩⟩, Tryz.t70, _, (by kernel_rfl : Tryz.prog.info? 70 = some Tryz.t70), rfl, rfl, rfl, rfl, (fun _ => ⟨_, rfl⟩), rfl, by decide⟩
def te84 : TE := ⟨.fn, 1, 8, [.nilFunc]⟩
theorem teok84 : TEok Tryz.prog 84 te84 := ⟨⟨_, Tryz.underlying84, ⟨_, _, _, rfl⟩⟩, Tryz.t84, _, (by kernel_rfl : Tryz.prog.info? 84 = some Tryz.t84), rfl, rfl, rfl, rfl, (fun h => by cases h), rfl, by decide⟩
def te90 : TE := ⟨.st [(0, 9), (1, 9)], 2, 32, [.string ByteArray.empty, .string ByteArray.empty]⟩
theorem teok90 : TEok Tryz.prog 90 te90 := ⟨⟨_, Tryz.underlying90, ⟨_, rfl, rfl⟩⟩, Tryz.t90, _, (by kernel_rfl : Tryz.prog.info? 90 = some Tryz.t90), rfl, rfl, rfl, rfl, (fun _ => ⟨_, rfl⟩), rfl, by decide⟩
def te92 : TE := ⟨.st [(0, 3), (1, 9)], 2, 24, [.int .i64 0, .string ByteArray.empty]⟩
theorem teok92 : TEok Tryz.prog 92 te92 := ⟨⟨_, Tryz.underlying92, ⟨_, rfl, rfl⟩⟩, Tryz.t92, _, (by kernel_rfl : Tryz.prog.info? 92 = some Tryz.t92), rfl, rfl, rfl, rfl, (fun _ => ⟨_, rfl⟩), rfl, by decide⟩
def te105 : TE := ⟨.st [(0, 3), (1, 3)], 2, 16, [.int .i64 0, .int .i64 0]⟩
theorem teok105 : TEok Tryz.prog 105 te105 := ⟨⟨_, Tryz.underlying105, ⟨_, rfl, rfl⟩⟩, Tryz.t105, _, (by kernel_rfl : Tryz.prog.info? 105 = some Tryz.t105), rfl, rfl, rfl, rfl, (fun _ => ⟨_, rfl⟩), rfl, by decide⟩
def te106 : TE := ⟨.fn, 1, 8, [.nilFunc]⟩
theorem teok106 : TEok Tryz.prog 106 te106 := ⟨⟨_, Tryz.underlying106, ⟨_, _, _, rfl⟩⟩, Tryz.t106, _, (by kernel_rfl : Tryz.prog.info? 106 = some Tryz.t106), rfl, rfl, rfl, rfl, (fun h => by cases h), rfl, by decide⟩
def te118 : TE := ⟨.mp 3 3, 1, 8, [.map none]⟩
theorem teok118 : TEok Tryz.prog 118 te118 := ⟨⟨_, Tryz.underlying118, rfl⟩, Tryz.t118, _, (by kernel_rfl : Tryz.prog.info? 118 = some Tryz.t118), rfl, rfl, rfl, rfl, (fun h => by cases h), rfl, by decide⟩
def te123 : TE := ⟨.fn, 1, 8, [.nilFunc]⟩
theorem teok123 : TEok Tryz.prog 123 te123 := ⟨⟨_, Tryz.underlying123, ⟨_, _, _, rfl⟩⟩, Tryz.t123, _, (by kernel_rfl : Tryz.prog.info? 123 = some Tryz.t123), rfl, rfl, rfl, rfl, (fun h => by cases h), rfl, by decide⟩
def te132 : TE := ⟨.ar 4 3, 4, 32, [.int .i64 0, .int .i64 0, .int .i64 0, .int .i64 0]⟩
theorem teok132 : TEok Tryz.prog 132 te132 := ⟨⟨_, Tryz.underlying132, rfl⟩, Tryz.t132, _, (by kernel_rfl : Tryz.prog.info? 132 = some Tryz.t132), rfl, rfl, rfl, rfl, (fun _ => ⟨_, rfl⟩), rfl, by decide⟩
def te134 : TE := ⟨.fn, 1, 8, [.nilFunc]⟩
theorem teok134 : TEok Tryz.prog 134 te134 := ⟨⟨_, Tryz.underlying134, ⟨_, _, _, rfl⟩⟩, Tryz.t134, _, (by kernel_rfl : Tryz.prog.info? 134 = some Tryz.t134), rfl, rfl, rfl, rfl, (fun h => by cases h), rfl, by decide⟩
def te135 : TE := ⟨.mp 90 4, 1, 8, [.map none]⟩
theorem teok135 : TEok Tryz.prog 135 te135 := ⟨⟨_, Tryz.underlying135, rfl⟩, Tryz.t135, _, (by kernel_rfl : Tryz.prog.info? 135 = some Tryz.t135), rfl, rfl, rfl, rfl, (fun h => by cases h), rfl, by decide⟩
def te137 : TE := ⟨.mp 3 4, 1, 8, [.map none]⟩
theorem teok137 : TEok Tryz.prog 137 te137 := ⟨⟨_, Tryz.underlying137, rfl⟩, Tryz.t137, _, (by kernel_rfl : Tryz.prog.info? 137 = some Tryz.t137), rfl, rfl, rfl, rfl, (fun h => by cases h), rfl, by decide⟩
def te144 : TE := ⟨.st [(0, 3), (1, 3), (2, 3)], 3, 24, [.int .i64 0, .int .i64 0, .int .i64 0]⟩
theorem teok144 : TEok Tryz.prog 144 te144 := ⟨⟨_, Tryz.underlying144, ⟨_, rfl, rfl⟩⟩, Tryz.t144, _, (by kernel_rfl : Tryz.prog.info? 144 = some Tryz.t144), rfl, rfl, rfl, rfl, (fun _ => ⟨_, rfl⟩), rfl, by decide⟩
def te145 : TE := ⟨.ar 6 144, 18, 144, List.replicate 18 (.int .i64 0)⟩
theorem teok145 : TEok Tryz.prog 145 te145 := ⟨⟨_, Tryz.underlying145, rfl⟩, Tryz.t145, _, (by kernel_rfl : Tryz.prog.info? 145 = some Tryz.t145), rfl, rfl, rfl, rfl, (fun _ => ⟨_, rfl⟩), rfl, by decide⟩
def te150 : TE := ⟨.fn, 1, 8, [.nilFunc]⟩
theorem teok150 : TEok Tryz.prog 150 te150 := ⟨⟨_, Tryz.underlying150, ⟨_, _, _, rfl⟩⟩, Tryz.t150, _, (by kernel_rfl : Tryz.prog.info? 150 = some Tryz.t150), rfl, rfl, rfl, rfl, (fun h => by cases h), rfl, by decide⟩
def te155 : TE := ⟨.int .u64, 1, 8, [.int .u64 0]⟩
theorem teok155 : TEok Tryz.prog 155 te155 := ⟨⟨_, Tryz.underlying155, rfl⟩, Tryz.t155, _, (by kernel_rfl : Tryz.prog.info? 155 = some Tryz.t155), rfl, rfl, rfl, rfl, (fun h => by cases h), rfl, by decide⟩
theorem eqt70 : EqT Tryz.prog 70 [(0, 3), (1, 3)] := ⟨by kernel_rfl, by kernel_rfl, by kernel_rfl, by kernel_rfl, by kernel_rfl⟩
theorem eqt90 : EqT Tryz.prog 90 [(0, 9), (1, 9)] := ⟨by kernel_rfl, by kernel_rfl, by kernel_rfl, by kernel_rfl, by kernel_rfl⟩
def tab : Tab := [(3, te3), (4, te4), (5, te5), (9, te9), (22, te22), (24, te24), (25, te25), (26, te26), (27, te27), (28, te28), (30, te30), (33, te33), (37, te37), (39, te39), (40, te40), (41, te41), (43, te43), (49, te49), (51, te51), (52, te52), (55, te55), (57, te57), (61, te61), (63, te63), (65, te65), (68, te68), (70, te70), (84, te84), (90, te90), (92, te92), (105, te105), (106, te106), (118, te118), (123, te123), (132, te132), (134, te134), (135, te135), (137, te137), (144, te144), (145, te145), (150, te150), (155, te155)]
theorem T : TabOk Tryz.prog tab := (.cons teok3 (.cons teok4 (.cons teok5 (.cons teok9 (.cons teok22 (.cons teok24 (.cons teok25 (.cons teok26 (.cons teok27 (.cons teok28 (.cons teok30 (.cons teok33 (.cons teok37 (.cons teok39 (.cons teok40 (.cons teok41 (.cons teok43 (.cons teok49 (.cons teok51 (.cons teok52 (.cons teok55 (.cons teok57 (.cons teok61 (.cons teok63 (.cons teok65 (.cons teok68 (.cons teok70 (.cons teok84 (.cons teok90 (.cons teok92 (.cons teok105 (.cons teok106 (.cons teok118 (.cons teok123 (.cons teok132 (.cons teok134 (.cons teok135 (.cons teok137 (.cons teok144 (.cons teok145 (.cons teok150 (.cons teok155 TabOk.nil))))))))))))))))))))))))))))))))))))))))))
theorem kt3 : KeyT Tryz.prog 3 kI := KeyT.int Tryz.underlying3
theorem kt70 : KeyT Tryz.prog 70 kRouteStand := KeyT.st (kc := kRouteStandc) T eqt70 (fun x y => by
  obtain ⟨x0, x1⟩ := x; obtain ⟨y0, y1⟩ := y
  show some (((x0 == y0) && ((x1 == y1) && true))) = some (decide _)
  congr 1; rw [Bool.eq_iff_iff]; simp only [Bool.and_eq_true, beq_iff_eq, seqB_iff, decide_eq_true_eq, RouteStand.mk.injEq, and_true]
  constructor <;> intro h <;> simp_all) rfl (fun _ => rfl) (fun _ => rfl)
theorem kt90 : KeyT Tryz.prog 90 kApiApart := KeyT.st (kc := kApiApartc) T eqt90 (fun x y => by
  obtain ⟨x0, x1⟩ := x; obtain ⟨y0, y1⟩ := y
  show some ((seq x0 y0 && (seq x1 y1 && true))) = some (decide _)
  congr 1; rw [Bool.eq_iff_iff]; simp only [Bool.and_eq_true, beq_iff_eq, seqB_iff, decide_eq_true_eq, ApiApart.mk.injEq, and_true]
  constructor <;> intro h <;> simp_all) rfl (fun _ => rfl) (fun _ => rfl)
theorem zt3 : ZeroT Tryz.prog 3 veI 0 := ⟨(.int .i64 0), fun w => by kernel_rfl, fun _ _ => (.v _)⟩
theorem zt4 : ZeroT Tryz.prog 4 veB false := ⟨(.bool false), fun w => by kernel_rfl, fun _ _ => (.v _)⟩
theorem zt55 : ZeroT Tryz.prog 55 veLeApiSpan [] := ⟨(.slice none 0 0), fun w => by kernel_rfl, fun _ _ => (.slNil _ _ _)⟩
theorem mix : Tryz.prog.follows .mixedOrders = true := by kernel_rfl
theorem en4 : Entered Tryz.prog 4 := fun args w => Tryz.call4 args w
theorem en5 : Entered Tryz.prog 5 := fun args w => Tryz.call5 args w
theorem en6 : Entered Tryz.prog 6 := fun args w => Tryz.call6 args w
theorem en7 : Entered Tryz.prog 7 := fun args w => Tryz.call7 args w
theorem en8 : Entered Tryz.prog 8 := fun args w => Tryz.call8 args w
theorem en9 : Entered Tryz.prog 9 := fun args w => Tryz.call9 args w
theorem en10 : Entered Tryz.prog 10 := fun args w => Tryz.call10 args w
theorem en11 : Entered Tryz.prog 11 := fun args w => Tryz.call11 args w
theorem en12 : Entered Tryz.prog 12 := fun args w => Tryz.call12 args w
theorem en13 : Entered Tryz.prog 13 := fun args w => Tryz.call13 args w
theorem en14 : Entered Tryz.prog 14 := fun args w => Tryz.call14 args w
theorem en15 : Entered Tryz.prog 15 := fun args w => Tryz.call15 args w
theorem en16 : Entered Tryz.prog 16 := fun args w => Tryz.call16 args w
theorem en17 : Entered Tryz.prog 17 := fun args w => Tryz.call17 args w
theorem en18 : Entered Tryz.prog 18 := fun args w => Tryz.call18 args w
theorem en19 : Entered Tryz.prog 19 := fun args w => Tryz.call19 args w
theorem en20 : Entered Tryz.prog 20 := fun args w => Tryz.call20 args w
theorem en21 : Entered Tryz.prog 21 := fun args w => Tryz.call21 args w
theorem en22 : Entered Tryz.prog 22 := fun args w => Tryz.call22 args w
theorem en23 : Entered Tryz.prog 23 := fun args w => Tryz.call23 args w
theorem en24 : Entered Tryz.prog 24 := fun args w => Tryz.call24 args w
theorem en25 : Entered Tryz.prog 25 := fun args w => Tryz.call25 args w
theorem en26 : Entered Tryz.prog 26 := fun args w => Tryz.call26 args w
theorem en27 : Entered Tryz.prog 27 := fun args w => Tryz.call27 args w
theorem en28 : Entered Tryz.prog 28 := fun args w => Tryz.call28 args w
theorem en29 : Entered Tryz.prog 29 := fun args w => Tryz.call29 args w
theorem en30 : Entered Tryz.prog 30 := fun args w => Tryz.call30 args w
theorem en31 : Entered Tryz.prog 31 := fun args w => Tryz.call31 args w
theorem en32 : Entered Tryz.prog 32 := fun args w => Tryz.call32 args w
theorem en33 : Entered Tryz.prog 33 := fun args w => Tryz.call33 args w
theorem en34 : Entered Tryz.prog 34 := fun args w => Tryz.call34 args w
theorem en35 : Entered Tryz.prog 35 := fun args w => Tryz.call35 args w
theorem en36 : Entered Tryz.prog 36 := fun args w => Tryz.call36 args w
theorem en37 : Entered Tryz.prog 37 := fun args w => Tryz.call37 args w
theorem en38 : Entered Tryz.prog 38 := fun args w => Tryz.call38 args w
theorem en39 : Entered Tryz.prog 39 := fun args w => Tryz.call39 args w
theorem en40 : Entered Tryz.prog 40 := fun args w => Tryz.call40 args w
theorem en41 : Entered Tryz.prog 41 := fun args w => Tryz.call41 args w
theorem en42 : Entered Tryz.prog 42 := fun args w => Tryz.call42 args w
theorem en43 : Entered Tryz.prog 43 := fun args w => Tryz.call43 args w
theorem en44 : Entered Tryz.prog 44 := fun args w => Tryz.call44 args w
theorem en45 : Entered Tryz.prog 45 := fun args w => Tryz.call45 args w
theorem en46 : Entered Tryz.prog 46 := fun args w => Tryz.call46 args w
theorem en47 : Entered Tryz.prog 47 := fun args w => Tryz.call47 args w
theorem en48 : Entered Tryz.prog 48 := fun args w => Tryz.call48 args w
theorem en49 : Entered Tryz.prog 49 := fun args w => Tryz.call49 args w
theorem en50 : Entered Tryz.prog 50 := fun args w => Tryz.call50 args w
theorem en51 : Entered Tryz.prog 51 := fun args w => Tryz.call51 args w
theorem en52 : Entered Tryz.prog 52 := fun args w => Tryz.call52 args w
theorem en53 : Entered Tryz.prog 53 := fun args w => Tryz.call53 args w
theorem en54 : Entered Tryz.prog 54 := fun args w => Tryz.call54 args w
theorem en55 : Entered Tryz.prog 55 := fun args w => Tryz.call55 args w
theorem en56 : Entered Tryz.prog 56 := fun args w => Tryz.call56 args w
theorem en57 : Entered Tryz.prog 57 := fun args w => Tryz.call57 args w
theorem en58 : Entered Tryz.prog 58 := fun args w => Tryz.call58 args w
theorem en59 : Entered Tryz.prog 59 := fun args w => Tryz.call59 args w
theorem en60 : Entered Tryz.prog 60 := fun args w => Tryz.call60 args w
theorem en61 : Entered Tryz.prog 61 := fun args w => Tryz.call61 args w
theorem en62 : Entered Tryz.prog 62 := fun args w => Tryz.call62 args w
theorem en63 : Entered Tryz.prog 63 := fun args w => Tryz.call63 args w
theorem en64 : Entered Tryz.prog 64 := fun args w => Tryz.call64 args w
theorem en65 : Entered Tryz.prog 65 := fun args w => Tryz.call65 args w
theorem en66 : Entered Tryz.prog 66 := fun args w => Tryz.call66 args w
theorem en67 : Entered Tryz.prog 67 := fun args w => Tryz.call67 args w
theorem en68 : Entered Tryz.prog 68 := fun args w => Tryz.call68 args w
theorem en69 : Entered Tryz.prog 69 := fun args w => Tryz.call69 args w
theorem en70 : Entered Tryz.prog 70 := fun args w => Tryz.call70 args w
theorem en71 : Entered Tryz.prog 71 := fun args w => Tryz.call71 args w
theorem en72 : Entered Tryz.prog 72 := fun args w => Tryz.call72 args w
theorem en73 : Entered Tryz.prog 73 := fun args w => Tryz.call73 args w
theorem en74 : Entered Tryz.prog 74 := fun args w => Tryz.call74 args w
theorem en75 : Entered Tryz.prog 75 := fun args w => Tryz.call75 args w
theorem en76 : Entered Tryz.prog 76 := fun args w => Tryz.call76 args w
theorem en77 : Entered Tryz.prog 77 := fun args w => Tryz.call77 args w
theorem en78 : Entered Tryz.prog 78 := fun args w => Tryz.call78 args w
theorem en79 : Entered Tryz.prog 79 := fun args w => Tryz.call79 args w
theorem en80 : Entered Tryz.prog 80 := fun args w => Tryz.call80 args w
theorem en81 : Entered Tryz.prog 81 := fun args w => Tryz.call81 args w
theorem en82 : Entered Tryz.prog 82 := fun args w => Tryz.call82 args w
theorem en83 : Entered Tryz.prog 83 := fun args w => Tryz.call83 args w
theorem en84 : Entered Tryz.prog 84 := fun args w => Tryz.call84 args w
theorem en85 : Entered Tryz.prog 85 := fun args w => Tryz.call85 args w
theorem en86 : Entered Tryz.prog 86 := fun args w => Tryz.call86 args w
theorem en87 : Entered Tryz.prog 87 := fun args w => Tryz.call87 args w
theorem en88 : Entered Tryz.prog 88 := fun args w => Tryz.call88 args w
theorem en89 : Entered Tryz.prog 89 := fun args w => Tryz.call89 args w
theorem en90 : Entered Tryz.prog 90 := fun args w => Tryz.call90 args w
theorem en91 : Entered Tryz.prog 91 := fun args w => Tryz.call91 args w
theorem en92 : Entered Tryz.prog 92 := fun args w => Tryz.call92 args w
theorem en93 : Entered Tryz.prog 93 := fun args w => Tryz.call93 args w
theorem en94 : Entered Tryz.prog 94 := fun args w => Tryz.call94 args w
theorem en95 : Entered Tryz.prog 95 := fun args w => Tryz.call95 args w
theorem en96 : Entered Tryz.prog 96 := fun args w => Tryz.call96 args w
theorem en97 : Entered Tryz.prog 97 := fun args w => Tryz.call97 args w
theorem en100 : Entered Tryz.prog 100 := fun args w => Tryz.call100 args w
theorem en101 : Entered Tryz.prog 101 := fun args w => Tryz.call101 args w
theorem en102 : Entered Tryz.prog 102 := fun args w => Tryz.call102 args w
theorem en103 : Entered Tryz.prog 103 := fun args w => Tryz.call103 args w
theorem en104 : Entered Tryz.prog 104 := fun args w => Tryz.call104 args w
theorem en105 : Entered Tryz.prog 105 := fun args w => Tryz.call105 args w
theorem en116 : Entered Tryz.prog 116 := fun args w => Tryz.call116 args w
theorem en117 : Entered Tryz.prog 117 := fun args w => Tryz.call117 args w
theorem op3 : Opens Tryz.prog 3 eI I64 := Opens.i64 Tryz.underlying3
theorem op22 : Opens Tryz.prog 22 eLeI (OkL I64) := Opens.slice Tryz.underlying22 (n := 1) (by kernel_rfl) (by decide) op3
theorem op24 : Opens Tryz.prog 24 eApiFloor OkApiFloor := fun enc w held fuel cells d ps ht => by
  obtain ⟨fuel', hl, hf⟩ := Opens.st (N := 5) Tryz.underlying24 (by kernel_rfl) ht
  obtain ⟨x0, k0, l0, c0⟩ := Opens.fld op3 (n := 1) (off := 0) (by kernel_rfl) (by omega) (hf _ (List.mem_of_getElem? (i := 0) rfl))
  obtain ⟨x1, k1, l1, c1⟩ := Opens.fld op3 (n := 1) (off := 1) (by kernel_rfl) (by omega) (hf _ (List.mem_of_getElem? (i := 1) rfl))
  obtain ⟨x2, k2, l2, c2⟩ := Opens.fld op3 (n := 1) (off := 2) (by kernel_rfl) (by omega) (hf _ (List.mem_of_getElem? (i := 2) rfl))
  obtain ⟨x3, k3, l3, c3⟩ := Opens.fld op22 (n := 1) (off := 3) (by kernel_rfl) (by omega) (hf _ (List.mem_of_getElem? (i := 3) rfl))
  obtain ⟨x4, k4, l4, c4⟩ := Opens.fld op22 (n := 1) (off := 4) (by kernel_rfl) (by omega) (hf _ (List.mem_of_getElem? (i := 4) rfl))
  have hc : Cov w cells 0 (eApiFloor ⟨x0, x1, x2, x3, x4⟩) := (c0.app (c1.app (c2.app (c3.app (c4.app Cov.nil)))))
  exact ⟨⟨x0, x1, x2, x3, x4⟩, ⟨k0, k1, k2, k3, k4⟩, by rw [hl]; rfl, fun j A v hA hv => hc j A v hA (by simpa using hv)⟩
theorem op9 : Opens Tryz.prog 9 eS OkS := Opens.str Tryz.underlying9
theorem op49 : Opens Tryz.prog 49 eApiSpan OkApiSpan := fun enc w held fuel cells d ps ht => by
  obtain ⟨fuel', hl, hf⟩ := Opens.st (N := 2) Tryz.underlying49 (by kernel_rfl) ht
  obtain ⟨x0, k0, l0, c0⟩ := Opens.fld op3 (n := 1) (off := 0) (by kernel_rfl) (by omega) (hf _ (List.mem_of_getElem? (i := 0) rfl))
  obtain ⟨x1, k1, l1, c1⟩ := Opens.fld op3 (n := 1) (off := 1) (by kernel_rfl) (by omega) (hf _ (List.mem_of_getElem? (i := 1) rfl))
  have hc : Cov w cells 0 (eApiSpan ⟨x0, x1⟩) := (c0.app (c1.app Cov.nil))
  exact ⟨⟨x0, x1⟩, ⟨k0, k1⟩, by rw [hl]; rfl, fun j A v hA hv => hc j A v hA (by simpa using hv)⟩
theorem op55 : Opens Tryz.prog 55 eLeApiSpan (OkL OkApiSpan) := Opens.slice Tryz.underlying55 (n := 2) (by kernel_rfl) (by decide) op49
theorem op57 : Opens Tryz.prog 57 eApiZone OkApiZone := fun enc w held fuel cells d ps ht => by
  obtain ⟨fuel', hl, hf⟩ := Opens.st (N := 5) Tryz.underlying57 (by kernel_rfl) ht
  obtain ⟨x0, k0, l0, c0⟩ := Opens.fld op9 (n := 1) (off := 0) (by kernel_rfl) (by omega) (hf _ (List.mem_of_getElem? (i := 0) rfl))
  obtain ⟨x1, k1, l1, c1⟩ := Opens.fld op22 (n := 1) (off := 1) (by kernel_rfl) (by omega) (hf _ (List.mem_of_getElem? (i := 1) rfl))
  obtain ⟨x2, k2, l2, c2⟩ := Opens.fld op3 (n := 1) (off := 2) (by kernel_rfl) (by omega) (hf _ (List.mem_of_getElem? (i := 2) rfl))
  obtain ⟨x3, k3, l3, c3⟩ := Opens.fld op3 (n := 1) (off := 3) (by kernel_rfl) (by omega) (hf _ (List.mem_of_getElem? (i := 3) rfl))
  obtain ⟨x4, k4, l4, c4⟩ := Opens.fld op55 (n := 1) (off := 4) (by kernel_rfl) (by omega) (hf _ (List.mem_of_getElem? (i := 4) rfl))
  have hc : Cov w cells 0 (eApiZone ⟨x0, x1, x2, x3, x4⟩) := (c0.app (c1.app (c2.app (c3.app (c4.app Cov.nil)))))
  exact ⟨⟨x0, x1, x2, x3, x4⟩, ⟨k0, k1, k2, k3, k4⟩, by rw [hl]; rfl, fun j A v hA hv => hc j A v hA (by simpa using hv)⟩
theorem op25 : Opens Tryz.prog 25 eLeApiZone (OkL OkApiZone) := Opens.slice Tryz.underlying25 (n := 5) (by kernel_rfl) (by decide) op57
theorem op90 : Opens Tryz.prog 90 eApiApart OkApiApart := fun enc w held fuel cells d ps ht => by
  obtain ⟨fuel', hl, hf⟩ := Opens.st (N := 2) Tryz.underlying90 (by kernel_rfl) ht
  obtain ⟨x0, k0, l0, c0⟩ := Opens.fld op9 (n := 1) (off := 0) (by kernel_rfl) (by omega) (hf _ (List.mem_of_getElem? (i := 0) rfl))
  obtain ⟨x1, k1, l1, c1⟩ := Opens.fld op9 (n := 1) (off := 1) (by kernel_rfl) (by omega) (hf _ (List.mem_of_getElem? (i := 1) rfl))
  have hc : Cov w cells 0 (eApiApart ⟨x0, x1⟩) := (c0.app (c1.app Cov.nil))
  exact ⟨⟨x0, x1⟩, ⟨k0, k1⟩, by rw [hl]; rfl, fun j A v hA hv => hc j A v hA (by simpa using hv)⟩
theorem op26 : Opens Tryz.prog 26 eLeApiApart (OkL OkApiApart) := Opens.slice Tryz.underlying26 (n := 2) (by kernel_rfl) (by decide) op90
theorem op92 : Opens Tryz.prog 92 eApiShelf OkApiShelf := fun enc w held fuel cells d ps ht => by
  obtain ⟨fuel', hl, hf⟩ := Opens.st (N := 2) Tryz.underlying92 (by kernel_rfl) ht
  obtain ⟨x0, k0, l0, c0⟩ := Opens.fld op3 (n := 1) (off := 0) (by kernel_rfl) (by omega) (hf _ (List.mem_of_getElem? (i := 0) rfl))
  obtain ⟨x1, k1, l1, c1⟩ := Opens.fld op9 (n := 1) (off := 1) (by kernel_rfl) (by omega) (hf _ (List.mem_of_getElem? (i := 1) rfl))
  have hc : Cov w cells 0 (eApiShelf ⟨x0, x1⟩) := (c0.app (c1.app Cov.nil))
  exact ⟨⟨x0, x1⟩, ⟨k0, k1⟩, by rw [hl]; rfl, fun j A v hA hv => hc j A v hA (by simpa using hv)⟩
theorem op27 : Opens Tryz.prog 27 eLeApiShelf (OkL OkApiShelf) := Opens.slice Tryz.underlying27 (n := 2) (by kernel_rfl) (by decide) op92
theorem op37 : Opens Tryz.prog 37 eApiStart OkApiStart := fun enc w held fuel cells d ps ht => by
  obtain ⟨fuel', hl, hf⟩ := Opens.st (N := 2) Tryz.underlying37 (by kernel_rfl) ht
  obtain ⟨x0, k0, l0, c0⟩ := Opens.fld op3 (n := 1) (off := 0) (by kernel_rfl) (by omega) (hf _ (List.mem_of_getElem? (i := 0) rfl))
  obtain ⟨x1, k1, l1, c1⟩ := Opens.fld op3 (n := 1) (off := 1) (by kernel_rfl) (by omega) (hf _ (List.mem_of_getElem? (i := 1) rfl))
  have hc : Cov w cells 0 (eApiStart ⟨x0, x1⟩) := (c0.app (c1.app Cov.nil))
  exact ⟨⟨x0, x1⟩, ⟨k0, k1⟩, by rw [hl]; rfl, fun j A v hA hv => hc j A v hA (by simpa using hv)⟩
theorem op28 : Opens Tryz.prog 28 eLeApiStart (OkL OkApiStart) := Opens.slice Tryz.underlying28 (n := 2) (by kernel_rfl) (by decide) op37
theorem op30 : Opens Tryz.prog 30 eApiSite OkApiSite := fun enc w held fuel cells d ps ht => by
  obtain ⟨fuel', hl, hf⟩ := Opens.st (N := 9) Tryz.underlying30 (by kernel_rfl) ht
  obtain ⟨x0, k0, l0, c0⟩ := Opens.fld op24 (n := 5) (off := 0) (by kernel_rfl) (by omega) (hf _ (List.mem_of_getElem? (i := 0) rfl))
  obtain ⟨x1, k1, l1, c1⟩ := Opens.fld op25 (n := 1) (off := 5) (by kernel_rfl) (by omega) (hf _ (List.mem_of_getElem? (i := 1) rfl))
  obtain ⟨x2, k2, l2, c2⟩ := Opens.fld op26 (n := 1) (off := 6) (by kernel_rfl) (by omega) (hf _ (List.mem_of_getElem? (i := 2) rfl))
  obtain ⟨x3, k3, l3, c3⟩ := Opens.fld op27 (n := 1) (off := 7) (by kernel_rfl) (by omega) (hf _ (List.mem_of_getElem? (i := 3) rfl))
  obtain ⟨x4, k4, l4, c4⟩ := Opens.fld op28 (n := 1) (off := 8) (by kernel_rfl) (by omega) (hf _ (List.mem_of_getElem? (i := 4) rfl))
  have hc : Cov w cells 0 (eApiSite ⟨x0, x1, x2, x3, x4⟩) := (c0.app (c1.app (c2.app (c3.app (c4.app Cov.nil)))))
  exact ⟨⟨x0, x1, x2, x3, x4⟩, ⟨k0, k1, k2, k3, k4⟩, by rw [hl]; rfl, fun j A v hA hv => hc j A v hA (by simpa using hv)⟩
theorem itb101 (xs : List Int) (l : Nat) (J : Nat → World → Prop) (Jx : World → Prop) (S : Nat → Prop) (w W : World) (b off cap : Nat) (p0 : Option Addr) (hlen : xs.length ≤ 1099511627776) (hS : S b)
    (hY : ∀ m x W1, (bkw xs)[m]? = some x → J m W1 → YieldAt Fence.wide 1 Tryz.prog l #[.int .i64 x.1, .int .i64 x.2] W1 fun e W' => (e = .returned (.bool true) ∧ J (m + 1) W' ∧ KS S W1 W') ∨ (e = .returned (.bool false) ∧ Jx W'))
    (hc : W.cell? ⟨b, off, none⟩ = some (.slice p0 xs.length cap)) (hL : RowAt S W p0 xs) (h0 : J 0 W) :
    CallsIn Fence.wide 2 Tryz.prog 101 #[.func (.yield l) #[] #[], .pointer (some ⟨b, off, none⟩)] W fun e W' => (∃ v, e = .returned v) ∧ (J (bkw xs).length W' ∨ Jx W') := by
  refine callsIn_of_wp Tryz.func101 rfl trivial ?_ rfl
  simp only [Tryz.ntmps101, List.size_toArray, List.length_cons, List.length_nil, Nat.reduceAdd, Nat.reduceSub, Array.replicate_succ, Array.replicate_zero, List.push_toArray, List.append_toArray, List.nil_append, List.cons_append]
  gi_wp2
  gi_loopw [3] (fun p wr => ∃ (m : Nat), m ≤ xs.length ∧ p = .int .i64 ((m : Int) - 1) ∧ RowAt S wr p0 xs ∧ wr.cell? ⟨b, off, none⟩ = some (.slice p0 xs.length cap) ∧ J (xs.length - m) wr)
    (fun p wr => match p with | .int _ i => (i + 1).toNat | _ => 0)
  case atStart => exact ⟨xs.length, Nat.le_refl _, rfl, hL, hc, by simpa using h0⟩
  case round =>
    obtain ⟨m, hm, rfl, hl, hc, hJs⟩ := hrel
    cases m with
    | zero =>
      gi_wp2
      go_end0
      exact ⟨⟨_, rfl⟩, .inl (by rw [bkw_len]; exact hJs)⟩
    | succ m =>
      have hx : xs[m]? = some (xs.getD m 0) := by rw [List.getD_eq_getElem?_getD, List.getElem?_eq_getElem (by omega)]; rfl
      obtain ⟨b', off', rfl, hb, hv⟩ := hl m _ hx
      obtain ⟨fn, tmps, assign, body, hy, hR⟩ := hY (xs.length - (m + 1)) ((m : Int), xs.getD m 0) wr (bkw_get (by omega)) hJs
      have e1 : ((m + 1 : Nat) : Int) - 1 = (m : Int) := by omega
      rw [e1]
      generalize xs.getD m 0 = x0 at *
      gi_wp2
      refine hR.mono ?_
      rintro e W3 (⟨rfl, hJ3, hk3⟩ | ⟨rfl, hJx3⟩)
      · gi_wp2
        go_roundw
        case rel => exact ⟨m, by omega, rfl, hl.keep hk3, (hk3.cell hS).trans hc, by rw [show xs.length - m = xs.length - (m + 1) + 1 by omega]; exact hJ3⟩
        case measure => simp
      · gi_wp2
        refine bodyPost_ret (results_none rfl _ _ _) rfl ?_
        exact ⟨⟨_, rfl⟩, .inr hJx3⟩
theorem it101 (xs : List Int) (hlen : xs.length ≤ 1099511627776) : Iter Tryz.prog 101 [.rp [.sl 1 eI xs]] (fun x : Int × Int => [.int .i64 x.1, .int .i64 x.2]) (bkw xs) := fun w ok β lb hlb l J Jx W hW hY h0 => by
  obtain ⟨b, off, p, cap, rfl, hb, hc, hr⟩ := capRow hlb
  exact itb101 xs l J Jx ok w W b off cap p hlen hb hY ((hW.cell hb).trans hc) (hr.keep hW) h0

end Go.Proofs.YtbekicmmgohfbaaGreat
