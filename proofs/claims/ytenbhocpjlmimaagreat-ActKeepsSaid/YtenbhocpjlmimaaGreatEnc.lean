/- The encodings of the data, and the types' table (written by a program of the prover). -/
import Derived.Test.YtenbhocpjlmimaaGreatVc
import Derived.Test.YtenbhocpjlmimaaGreatChecked
import Derived.Test.YtenbhocpjlmimaaGreatLibZC
import Derived.Test.YtenbhocpjlmimaaGreatLibZR
import Derived.Test.YtenbhocpjlmimaaGreatLibZS
import Derived.RangeFuncLeaves
import Derived.WalkKit
import Derived.OwnWalkIn
import Derived.TacticsInMore
import Derived.LoopNIn
import Derived.LoopIn
import Derived.KernelRfl
set_option maxRecDepth 100000
set_option maxHeartbeats 8000000
set_option linter.unusedVariables false
set_option linter.unusedSimpArgs false
namespace Go.Proofs.YtenbhocpjlmimaaGreat
open Go Go.Taq
@[reducible] def eI (x : Int) : List AVal := [.i x]
@[reducible] def eApiSpan (x : ApiSpan) : List AVal := [.i x.From, .i x.To]
@[reducible] def eApiZone (x : ApiZone) : List AVal := [.v (.string x.Name), .sl 1 eI x.Cells, .i x.Speed, .i x.Keep, .sl 2 eApiSpan x.Shut]
@[reducible] def eApiApart (x : ApiApart) : List AVal := [.v (.string x.A), .v (.string x.B)]
@[reducible] def eApiShelf (x : ApiShelf) : List AVal := [.i x.Cell, .v (.string x.Class)]
@[reducible] def eApiStart (x : ApiStart) : List AVal := [.i x.Cell, .i x.Charge]
@[reducible] def eApiRobot (x : ApiRobot) : List AVal := [.i x.Cell, .i x.Load, .i x.Charge, .i x.Rest, .i x.Mute, .b x.Dead]
@[reducible] def eApiStuck (x : ApiStuck) : List AVal := [.i x.Cell, .i x.Left]
@[reducible] def eApiFloor (x : ApiFloor) : List AVal := [.i x.W, .i x.H, .i x.D, .sl 1 eI x.Kind, .sl 1 eI x.Out]
@[reducible] def eFloorStep (x : FloorStep) : List AVal := [.i x.x, .i x.y, .i x.z]
@[reducible] def eApiSite (x : ApiSite) : List AVal := [.i x.Floor.W, .i x.Floor.H, .i x.Floor.D, .sl 1 eI x.Floor.Kind, .sl 1 eI x.Floor.Out, .sl 5 eApiZone x.Zones, .sl 2 eApiApart x.Aparts, .sl 2 eApiShelf x.Shelves, .sl 2 eApiStart x.Robots]
@[reducible] def eApiState (x : ApiState) : List AVal := [.i x.Tick, .sl 1 eI x.Shelves, .sl 6 eApiRobot x.Robots, .sl 1 eI x.People, .sl 1 eI x.Dead, .sl 2 eApiStuck x.Stuck]
def kI (x : Int) : Value := .int .i64 x
@[reducible] def eB (x : Bool) : List AVal := [.b x]
def veB (x : Bool) : AVal := .b x
def veI (x : Int) : AVal := .i x
def kApiApartc (x : ApiApart) : List Value := [.string x.A, .string x.B]
def kApiApart (x : ApiApart) : Value := .agg (kApiApartc x).toArray
def veOeI (x : List Int) : AVal := .os 1 eI x
@[reducible] def eLeI (x : List Int) : List AVal := [.sl 1 eI x]
def veLeI (x : List Int) : AVal := .sl 1 eI x
@[reducible] def eS (x : ByteArray) : List AVal := [.v (.string x)]
@[reducible] def eLeApiSpan (x : List ApiSpan) : List AVal := [.sl 2 eApiSpan x]
@[reducible] def eLeApiZone (x : List ApiZone) : List AVal := [.sl 5 eApiZone x]
@[reducible] def eLeApiApart (x : List ApiApart) : List AVal := [.sl 2 eApiApart x]
@[reducible] def eLeApiShelf (x : List ApiShelf) : List AVal := [.sl 2 eApiShelf x]
@[reducible] def eLeApiStart (x : List ApiStart) : List AVal := [.sl 2 eApiStart x]
@[reducible] def eLeApiRobot (x : List ApiRobot) : List AVal := [.sl 6 eApiRobot x]
@[reducible] def eLeApiStuck (x : List ApiStuck) : List AVal := [.sl 2 eApiStuck x]
def te3 : TE := ⟨.int .i64, 1, 8, [.int .i64 0]⟩
theorem teok3 : TEok Tryz.prog 3 te3 := ⟨⟨_, Tryz.underlying3, rfl⟩, Tryz.t3, _, (by kernel_rfl : Tryz.prog.info? 3 = some Tryz.t3), rfl, rfl, rfl, rfl, (fun h => by cases h), rfl, by decide⟩
def te4 : TE := ⟨.bool, 1, 1, [.bool false]⟩
theorem teok4 : TEok Tryz.prog 4 te4 := ⟨⟨_, Tryz.underlying4, rfl⟩, Tryz.t4, _, (by kernel_rfl : Tryz.prog.info? 4 = some Tryz.t4), rfl, rfl, rfl, rfl, (fun h => by cases h), rfl, by decide⟩
def te5 : TE := ⟨.int .u8, 1, 1, [.int .u8 0]⟩
theorem teok5 : TEok Tryz.prog 5 te5 := ⟨⟨_, Tryz.underlying5, rfl⟩, Tryz.t5, _, (by kernel_rfl : Tryz.prog.info? 5 = some Tryz.t5), rfl, rfl, rfl, rfl, (fun h => by cases h), rfl, by decide⟩
def te9 : TE := ⟨.str, 1, 16, [.string ByteArray.empty]⟩
theorem teok9 : TEok Tryz.prog 9 te9 := ⟨⟨_, Tryz.underlying9, rfl⟩, Tryz.t9, _, (by kernel_rfl : Tryz.prog.info? 9 = some Tryz.t9), rfl, rfl, rfl, rfl, (fun h => by cases h), rfl, by decide⟩
def te22 : TE := ⟨.sl 3, 1, 24, [.slice none 0 0]⟩
theorem teok22 : TEok Tryz.prog 22 te22 := ⟨⟨_, Tryz.underlying22, rfl⟩, Tryz.t22, _, (by kernel_rfl : Tryz.prog.info? 22 = some Tryz.t22), rfl, rfl, rfl, rfl, (fun h => by cases h), rfl, by decide⟩
def te24 : TE := ⟨.st [(0, 3), (1, 3), (2, 3), (3, 22), (4, 22)], 5, 72, [.int .i64 0, .int .i64 0, .int .i64 0, .slice none 0 0, .slice none 0 0]⟩
theorem teok24 : TEok Tryz.prog 24 te24 := ⟨⟨_, Tryz.underlying24, ⟨_, rfl, rfl⟩⟩, Tryz.t24, _, (by kernel_rfl : Tryz.prog.info? 24 = some Tryz.t24), rfl, rfl, rfl, rfl, (fun _ => ⟨_, rfl⟩), rfl, by decide⟩
def te25 : TE := ⟨.sl 84, 1, 24, [.slice none 0 0]⟩
theorem teok25 : TEok Tryz.prog 25 te25 := ⟨⟨_, Tryz.underlying25, rfl⟩, Tryz.t25, _, (by kernel_rfl : Tryz.prog.info? 25 = some Tryz.t25), rfl, rfl, rfl, rfl, (fun h => by cases h), rfl, by decide⟩
def te26 : TE := ⟨.sl 98, 1, 24, [.slice none 0 0]⟩
theorem teok26 : TEok Tryz.prog 26 te26 := ⟨⟨_, Tryz.underlying26, rfl⟩, Tryz.t26, _, (by kernel_rfl : Tryz.prog.info? 26 = some Tryz.t26), rfl, rfl, rfl, rfl, (fun h => by cases h), rfl, by decide⟩
def te27 : TE := ⟨.sl 105, 1, 24, [.slice none 0 0]⟩
theorem teok27 : TEok Tryz.prog 27 te27 := ⟨⟨_, Tryz.underlying27, rfl⟩, Tryz.t27, _, (by kernel_rfl : Tryz.prog.info? 27 = some Tryz.t27), rfl, rfl, rfl, rfl, (fun h => by cases h), rfl, by decide⟩
def te28 : TE := ⟨.sl 107, 1, 24, [.slice none 0 0]⟩
theorem teok28 : TEok Tryz.prog 28 te28 := ⟨⟨_, Tryz.underlying28, rfl⟩, Tryz.t28, _, (by kernel_rfl : Tryz.prog.info? 28 = some Tryz.t28), rfl, rfl, rfl, rfl, (fun h => by cases h), rfl, by decide⟩
def te30 : TE := ⟨.st [(0, 24), (5, 25), (6, 26), (7, 27), (8, 28)], 9, 168, [.int .i64 0, .int .i64 0, .int .i64 0, .slice none 0 0, .slice none 0 0, .slice none 0 0, .slice none 0 0, .slice none 0 0, .slice none 0 0]⟩
theorem teok30 : TEok Tryz.prog 30 te30 := ⟨⟨_, Tryz.underlying30, ⟨_, rfl, rfl⟩⟩, Tryz.t30, _, (by kernel_rfl : Tryz.prog.info? 30 = some Tryz.t30), rfl, rfl, rfl, rfl, (fun _ => ⟨_, rfl⟩), rfl, by decide⟩
def te31 : TE := ⟨.sl 45, 1, 24, [.slice none 0 0]⟩
theorem teok31 : TEok Tryz.prog 31 te31 := ⟨⟨_, Tryz.underlying31, rfl⟩, Tryz.t31, _, (by kernel_rfl : Tryz.prog.info? 31 = some Tryz.t31), rfl, rfl, rfl, rfl, (fun h => by cases h), rfl, by decide⟩
def te32 : TE := ⟨.sl 72, 1, 24, [.slice none 0 0]⟩
theorem teok32 : TEok Tryz.prog 32 te32 := ⟨⟨_, Tryz.underlying32, rfl⟩, Tryz.t32, _, (by kernel_rfl : Tryz.prog.info? 32 = some Tryz.t32), rfl, rfl, rfl, rfl, (fun h => by cases h), rfl, by decide⟩
def te34 : TE := ⟨.st [(0, 3), (1, 22), (2, 31), (3, 22), (4, 22), (5, 32)], 6, 128, [.int .i64 0, .slice none 0 0, .slice none 0 0, .slice none 0 0, .slice none 0 0, .slice none 0 0]⟩
theorem teok34 : TEok Tryz.prog 34 te34 := ⟨⟨_, Tryz.underlying34, ⟨_, rfl, rfl⟩⟩, Tryz.t34, _, (by kernel_rfl : Tryz.prog.info? 34 = some Tryz.t34), rfl, rfl, rfl, rfl, (fun _ => ⟨_, rfl⟩), rfl, by decide⟩
def te37 : TE := ⟨.int .i64, 1, 8, [.int .i64 0]⟩
theorem teok37 : TEok Tryz.prog 37 te37 := ⟨⟨_, Tryz.underlying37, rfl⟩, Tryz.t37, _, (by kernel_rfl : Tryz.prog.info? 37 = some Tryz.t37), rfl, rfl, rfl, rfl, (fun h => by cases h), rfl, by decide⟩
def te45 : TE := ⟨.st [(0, 3), (1, 3), (2, 3), (3, 3), (4, 3), (5, 4)], 6, 48, [.int .i64 0, .int .i64 0, .int .i64 0, .int .i64 0, .int .i64 0, .bool false]⟩
theorem teok45 : TEok Tryz.prog 45 te45 := ⟨⟨_, Tryz.underlying45, ⟨_, rfl, rfl⟩⟩, Tryz.t45, _, (by kernel_rfl : Tryz.prog.info? 45 = some Tryz.t45), rfl, rfl, rfl, rfl, (fun _ => ⟨_, rfl⟩), rfl, by decide⟩
def te70 : TE := ⟨.fn, 1, 8, [.nilFunc]⟩
theorem teok70 : TEok Tryz.prog 70 te70 := ⟨⟨_, Tryz.underlying70, ⟨_, _, _, rfl⟩⟩, Tryz.t70, _, (by kernel_rfl : Tryz.prog.info? 70 = some Tryz.t70), rfl, rfl, rfl, rfl, (fun h => by cases h), rfl, by decide⟩
def te72 : TE := ⟨.st [(0, 3), (1, 3)], 2, 16, [.int .i64 0, .int .i64 0]⟩
theorem teok72 : TEok Tryz.prog 72 te72 := ⟨⟨_, Tryz.underlying72, ⟨_, rfl, rfl⟩⟩, Tryz.t72, _, (by kernel_rfl : Tryz.prog.info? 72 = some Tryz.t72), rfl, rfl, rfl, rfl, (fun _ => ⟨_, rfl⟩), rfl, by decide⟩
def te77 : TE := ⟨.mp 3 3, 1, 8, [.map none]⟩
theorem teok77 : TEok Tryz.prog 77 te77 := ⟨⟨_, Tryz.underlying77, rfl⟩, Tryz.t77, _, (by kernel_rfl : Tryz.prog.info? 77 = some Tryz.t77), rfl, rfl, rfl, rfl, (fun h => by cases h), rfl, by decide⟩
def te80 : TE := ⟨.sl 82, 1, 24, [.slice none 0 0]⟩
theorem teok80 : TEok Tryz.prog 80 te80 := ⟨⟨_, Tryz.underlying80, rfl⟩, Tryz.t80, _, (by kernel_rfl : Tryz.prog.info? 80 = some Tryz.t80), rfl, rfl, rfl, rfl, (fun h => by cases h), rfl, by decide⟩
def te82 : TE := ⟨.st [(0, 3), (1, 3)], 2, 16, [.int .i64 0, .int .i64 0]⟩
theorem teok82 : TEok Tryz.prog 82 te82 := ⟨⟨_, Tryz.underlying82, ⟨_, rfl, rfl⟩⟩, Tryz.t82, _, (by kernel_rfl : Tryz.prog.info? 82 = some Tryz.t82), rfl, rfl, rfl, rfl, (fun _ => ⟨_, rfl⟩), rfl, by decide⟩
def te84 : TE := ⟨.st [(0, 9), (1, 22), (2, 3), (3, 3), (4, 80)], 5, 80, [.string ByteArray.empty, .slice none 0 0, .int .i64 0, .int .i64 0, .slice none 0 0]⟩
theorem teok84 : TEok Tryz.prog 84 te84 := ⟨⟨_, Tryz.underlying84, ⟨_, rfl, rfl⟩⟩, Tryz.t84, _, (by kernel_rfl : Tryz.prog.info? 84 = some Tryz.t84), rfl, rfl, rfl, rfl, (fun _ => ⟨_, rfl⟩), rfl, by decide⟩
def te85 : TE := ⟨.fn, 1, 8, [.nilFunc]⟩
theorem teok85 : TEok Tryz.prog 85 te85 := ⟨⟨_, Tryz.underlying85, ⟨_, _, _, rfl⟩⟩, Tryz.t85, _, (by kernel_rfl : Tryz.prog.info? 85 = some Tryz.t85), rfl, rfl, rfl, rfl, (fun h => by cases h), rfl, by decide⟩
def te91 : TE := ⟨.mp 98 4, 1, 8, [.map none]⟩
theorem teok91 : TEok Tryz.prog 91 te91 := ⟨⟨_, Tryz.underlying91, rfl⟩, Tryz.t91, _, (by kernel_rfl : Tryz.prog.info? 91 = some Tryz.t91), rfl, rfl, rfl, rfl, (fun h => by cases h), rfl, by decide⟩
def te93 : TE := ⟨.mp 3 22, 1, 8, [.map none]⟩
theorem teok93 : TEok Tryz.prog 93 te93 := ⟨⟨_, Tryz.underlying93, rfl⟩, Tryz.t93, _, (by kernel_rfl : Tryz.prog.info? 93 = some Tryz.t93), rfl, rfl, rfl, rfl, (fun h => by cases h), rfl, by decide⟩
def te98 : TE := ⟨.st [(0, 9), (1, 9)], 2, 32, [.string ByteArray.empty, .string ByteArray.empty]⟩
theorem teok98 : TEok Tryz.prog 98 te98 := ⟨⟨_, Tryz.underlying98, ⟨_, rfl, rfl⟩⟩, Tryz.t98, _, (by kernel_rfl : Tryz.prog.info? 98 = some Tryz.t98), rfl, rfl, rfl, rfl, (fun _ => ⟨_, rfl⟩), rfl, by decide⟩
def te105 : TE := ⟨.st [(0, 3), (1, 9)], 2, 24, [.int .i64 0, .string ByteArray.empty]⟩
theorem teok105 : TEok Tryz.prog 105 te105 := ⟨⟨_, Tryz.underlying105, ⟨_, rfl, rfl⟩⟩, Tryz.t105, _, (by kernel_rfl : Tryz.prog.info? 105 = some Tryz.t105), rfl, rfl, rfl, rfl, (fun _ => ⟨_, rfl⟩), rfl, by decide⟩
def te107 : TE := ⟨.st [(0, 3), (1, 3)], 2, 16, [.int .i64 0, .int .i64 0]⟩
theorem teok107 : TEok Tryz.prog 107 te107 := ⟨⟨_, Tryz.underlying107, ⟨_, rfl, rfl⟩⟩, Tryz.t107, _, (by kernel_rfl : Tryz.prog.info? 107 = some Tryz.t107), rfl, rfl, rfl, rfl, (fun _ => ⟨_, rfl⟩), rfl, by decide⟩
def te117 : TE := ⟨.fn, 1, 8, [.nilFunc]⟩
theorem teok117 : TEok Tryz.prog 117 te117 := ⟨⟨_, Tryz.underlying117, ⟨_, _, _, rfl⟩⟩, Tryz.t117, _, (by kernel_rfl : Tryz.prog.info? 117 = some Tryz.t117), rfl, rfl, rfl, rfl, (fun h => by cases h), rfl, by decide⟩
def te126 : TE := ⟨.int .u64, 1, 8, [.int .u64 0]⟩
theorem teok126 : TEok Tryz.prog 126 te126 := ⟨⟨_, Tryz.underlying126, rfl⟩, Tryz.t126, _, (by kernel_rfl : Tryz.prog.info? 126 = some Tryz.t126), rfl, rfl, rfl, rfl, (fun h => by cases h), rfl, by decide⟩
def te130 : TE := ⟨.st [(0, 3), (1, 3), (2, 3)], 3, 24, [.int .i64 0, .int .i64 0, .int .i64 0]⟩
theorem teok130 : TEok Tryz.prog 130 te130 := ⟨⟨_, Tryz.underlying130, ⟨_, rfl, rfl⟩⟩, Tryz.t130, _, (by kernel_rfl : Tryz.prog.info? 130 = some Tryz.t130), rfl, rfl, rfl, rfl, (fun _ => ⟨_, rfl⟩), rfl, by decide⟩
def te131 : TE := ⟨.ar 6 130, 18, 144, List.replicate 18 (.int .i64 0)⟩
theorem teok131 : TEok Tryz.prog 131 te131 := ⟨⟨_, Tryz.underlying131, rfl⟩, Tryz.t131, _, (by kernel_rfl : Tryz.prog.info? 131 = some Tryz.t131), rfl, rfl, rfl, rfl, (fun _ => ⟨_, rfl⟩), rfl, by decide⟩
def te134 : TE := ⟨.mp 3 4, 1, 8, [.map none]⟩
theorem teok134 : TEok Tryz.prog 134 te134 := ⟨⟨_, Tryz.underlying134, rfl⟩, Tryz.t134, _, (by kernel_rfl : Tryz.prog.info? 134 = some Tryz.t134), rfl, rfl, rfl, rfl, (fun h => by cases h), rfl, by decide⟩
def te140 : TE := ⟨.fn, 1, 8, [.nilFunc]⟩
theorem teok140 : TEok Tryz.prog 140 te140 := ⟨⟨_, Tryz.underlying140, ⟨_, _, _, rfl⟩⟩, Tryz.t140, _, (by kernel_rfl : Tryz.prog.info? 140 = some Tryz.t140), rfl, rfl, rfl, rfl, (fun h => by cases h), rfl, by decide⟩
def te143 : TE := ⟨.fn, 1, 8, [.nilFunc]⟩
theorem teok143 : TEok Tryz.prog 143 te143 := ⟨⟨_, Tryz.underlying143, ⟨_, _, _, rfl⟩⟩, Tryz.t143, _, (by kernel_rfl : Tryz.prog.info? 143 = some Tryz.t143), rfl, rfl, rfl, rfl, (fun h => by cases h), rfl, by decide⟩
def te147 : TE := ⟨.fn, 1, 8, [.nilFunc]⟩
theorem teok147 : TEok Tryz.prog 147 te147 := ⟨⟨_, Tryz.underlying147, ⟨_, _, _, rfl⟩⟩, Tryz.t147, _, (by kernel_rfl : Tryz.prog.info? 147 = some Tryz.t147), rfl, rfl, rfl, rfl, (fun h => by cases h), rfl, by decide⟩
def te155 : TE := ⟨.ar 4 3, 4, 32, [.int .i64 0, .int .i64 0, .int .i64 0, .int .i64 0]⟩
theorem teok155 : TEok Tryz.prog 155 te155 := ⟨⟨_, Tryz.underlying155, rfl⟩, Tryz.t155, _, (by kernel_rfl : Tryz.prog.info? 155 = some Tryz.t155), rfl, rfl, rfl, rfl, (fun _ => ⟨_, rfl⟩), rfl, by decide⟩
theorem eqt98 : EqT Tryz.prog 98 [(0, 9), (1, 9)] := ⟨by kernel_rfl, by kernel_rfl, by kernel_rfl, by kernel_rfl, by kernel_rfl⟩
def tab : Tab := [(3, te3), (4, te4), (5, te5), (9, te9), (22, te22), (24, te24), (25, te25), (26, te26), (27, te27), (28, te28), (30, te30), (31, te31), (32, te32), (34, te34), (37, te37), (45, te45), (70, te70), (72, te72), (77, te77), (80, te80), (82, te82), (84, te84), (85, te85), (91, te91), (93, te93), (98, te98), (105, te105), (107, te107), (117, te117), (126, te126), (130, te130), (131, te131), (134, te134), (140, te140), (143, te143), (147, te147), (155, te155)]
theorem T : TabOk Tryz.prog tab := (.cons teok3 (.cons teok4 (.cons teok5 (.cons teok9 (.cons teok22 (.cons teok24 (.cons teok25 (.cons teok26 (.cons teok27 (.cons teok28 (.cons teok30 (.cons teok31 (.cons teok32 (.cons teok34 (.cons teok37 (.cons teok45 (.cons teok70 (.cons teok72 (.cons teok77 (.cons teok80 (.cons teok82 (.cons teok84 (.cons teok85 (.cons teok91 (.cons teok93 (.cons teok98 (.cons teok105 (.cons teok107 (.cons teok117 (.cons teok126 (.cons teok130 (.cons teok131 (.cons teok134 (.cons teok140 (.cons teok143 (.cons teok147 (.cons teok155 TabOk.nil)))))))))))))))))))))))))))))))))))))
theorem kt3 : KeyT Tryz.prog 3 kI := KeyT.int Tryz.underlying3
theorem kt98 : KeyT Tryz.prog 98 kApiApart := KeyT.st (kc := kApiApartc) T eqt98 (fun x y => by
  obtain ⟨x0, x1⟩ := x; obtain ⟨y0, y1⟩ := y
  show some ((seq x0 y0 && (seq x1 y1 && true))) = some (decide _)
  congr 1; rw [Bool.eq_iff_iff]; simp only [Bool.and_eq_true, beq_iff_eq, seqB_iff, decide_eq_true_eq, ApiApart.mk.injEq, and_true]
  constructor <;> intro h <;> simp_all) rfl (fun _ => rfl) (fun _ => rfl)
theorem zt3 : ZeroT Tryz.prog 3 veI 0 := ⟨(.int .i64 0), fun w => by kernel_rfl, fun _ _ => (.v _)⟩
theorem zt4 : ZeroT Tryz.prog 4 veB false := ⟨(.bool false), fun w => by kernel_rfl, fun _ _ => (.v _)⟩
theorem zt22 : ZeroT Tryz.prog 22 veLeI [] := ⟨(.slice none 0 0), fun w => by kernel_rfl, fun _ _ => (.slNil _ _ _)⟩
theorem mix : Tryz.prog.follows .mixedOrders = true := by kernel_rfl
theorem en8 : Entered Tryz.prog 8 := fun args w => Tryz.call8 args w
theorem en9 : Entered Tryz.prog 9 := fun args w => Tryz.call9 args w
theorem en10 : Entered Tryz.prog 10 := fun args w => Tryz.call10 args w
theorem en13 : Entered Tryz.prog 13 := fun args w => Tryz.call13 args w
theorem en16 : Entered Tryz.prog 16 := fun args w => Tryz.call16 args w
theorem en18 : Entered Tryz.prog 18 := fun args w => Tryz.call18 args w
theorem en19 : Entered Tryz.prog 19 := fun args w => Tryz.call19 args w
theorem en20 : Entered Tryz.prog 20 := fun args w => Tryz.call20 args w
theorem en21 : Entered Tryz.prog 21 := fun args w => Tryz.call21 args w
theorem en22 : Entered Tryz.prog 22 := fun args w => Tryz.call22 args w
theorem en23 : Entered Tryz.prog 23 := fun args w => Tryz.call23 args w
theorem en24 : Entered Tryz.prog 24 := fun args w => Tryz.call24 args w
theorem en25 : Entered Tryz.prog 25 := fun args w => Tryz.call25 args w
theorem en26 : Entered Tryz.prog 26 := fun args w => Tryz.call26 args w
theorem en28 : Entered Tryz.prog 28 := fun args w => Tryz.call28 args w
theorem en29 : Entered Tryz.prog 29 := fun args w => Tryz.call29 args w
theorem en30 : Entered Tryz.prog 30 := fun args w => Tryz.call30 args w
theorem en31 : Entered Tryz.prog 31 := fun args w => Tryz.call31 args w
theorem en32 : Entered Tryz.prog 32 := fun args w => Tryz.call32 args w
theorem en33 : Entered Tryz.prog 33 := fun args w => Tryz.call33 args w
theorem en34 : Entered Tryz.prog 34 := fun args w => Tryz.call34 args w
theorem en35 : Entered Tryz.prog 35 := fun args w => Tryz.call35 args w
theorem en36 : Entered Tryz.prog 36 := fun args w => Tryz.call36 args w
theorem en37 : Entered Tryz.prog 37 := fun args w => Tryz.call37 args w
theorem en38 : Entered Tryz.prog 38 := fun args w => Tryz.call38 args w
theorem en39 : Entered Tryz.prog 39 := fun args w => Tryz.call39 args w
theorem en40 : Entered Tryz.prog 40 := fun args w => Tryz.call40 args w
theorem en41 : Entered Tryz.prog 41 := fun args w => Tryz.call41 args w
theorem en51 : Entered Tryz.prog 51 := fun args w => Tryz.call51 args w
theorem en52 : Entered Tryz.prog 52 := fun args w => Tryz.call52 args w
theorem en53 : Entered Tryz.prog 53 := fun args w => Tryz.call53 args w
theorem en54 : Entered Tryz.prog 54 := fun args w => Tryz.call54 args w
theorem en55 : Entered Tryz.prog 55 := fun args w => Tryz.call55 args w
theorem en56 : Entered Tryz.prog 56 := fun args w => Tryz.call56 args w
theorem en57 : Entered Tryz.prog 57 := fun args w => Tryz.call57 args w
theorem en58 : Entered Tryz.prog 58 := fun args w => Tryz.call58 args w
theorem en59 : Entered Tryz.prog 59 := fun args w => Tryz.call59 args w
theorem en60 : Entered Tryz.prog 60 := fun args w => Tryz.call60 args w
theorem en61 : Entered Tryz.prog 61 := fun args w => Tryz.call61 args w
theorem en64 : Entered Tryz.prog 64 := fun args w => Tryz.call64 args w
theorem en65 : Entered Tryz.prog 65 := fun args w => Tryz.call65 args w
theorem en66 : Entered Tryz.prog 66 := fun args w => Tryz.call66 args w
theorem en67 : Entered Tryz.prog 67 := fun args w => Tryz.call67 args w
theorem en68 : Entered Tryz.prog 68 := fun args w => Tryz.call68 args w
theorem en69 : Entered Tryz.prog 69 := fun args w => Tryz.call69 args w
theorem en70 : Entered Tryz.prog 70 := fun args w => Tryz.call70 args w
theorem en71 : Entered Tryz.prog 71 := fun args w => Tryz.call71 args w
theorem en72 : Entered Tryz.prog 72 := fun args w => Tryz.call72 args w
theorem en73 : Entered Tryz.prog 73 := fun args w => Tryz.call73 args w
theorem en74 : Entered Tryz.prog 74 := fun args w => Tryz.call74 args w
theorem en75 : Entered Tryz.prog 75 := fun args w => Tryz.call75 args w
theorem en76 : Entered Tryz.prog 76 := fun args w => Tryz.call76 args w
theorem en77 : Entered Tryz.prog 77 := fun args w => Tryz.call77 args w
theorem en78 : Entered Tryz.prog 78 := fun args w => Tryz.call78 args w
theorem en79 : Entered Tryz.prog 79 := fun args w => Tryz.call79 args w
theorem en80 : Entered Tryz.prog 80 := fun args w => Tryz.call80 args w
theorem en81 : Entered Tryz.prog 81 := fun args w => Tryz.call81 args w
theorem en82 : Entered Tryz.prog 82 := fun args w => Tryz.call82 args w
theorem en83 : Entered Tryz.prog 83 := fun args w => Tryz.call83 args w
theorem en84 : Entered Tryz.prog 84 := fun args w => Tryz.call84 args w
theorem en85 : Entered Tryz.prog 85 := fun args w => Tryz.call85 args w
theorem en86 : Entered Tryz.prog 86 := fun args w => Tryz.call86 args w
theorem en87 : Entered Tryz.prog 87 := fun args w => Tryz.call87 args w
theorem en88 : Entered Tryz.prog 88 := fun args w => Tryz.call88 args w
theorem en89 : Entered Tryz.prog 89 := fun args w => Tryz.call89 args w
theorem en90 : Entered Tryz.prog 90 := fun args w => Tryz.call90 args w
theorem en91 : Entered Tryz.prog 91 := fun args w => Tryz.call91 args w
theorem en92 : Entered Tryz.prog 92 := fun args w => Tryz.call92 args w
theorem en93 : Entered Tryz.prog 93 := fun args w => Tryz.call93 args w
theorem en94 : Entered Tryz.prog 94 := fun args w => Tryz.call94 args w
theorem en95 : Entered Tryz.prog 95 := fun args w => Tryz.call95 args w
theorem en96 : Entered Tryz.prog 96 := fun args w => Tryz.call96 args w
theorem en97 : Entered Tryz.prog 97 := fun args w => Tryz.call97 args w
theorem en98 : Entered Tryz.prog 98 := fun args w => Tryz.call98 args w
theorem en112 : Entered Tryz.prog 112 := fun args w => Tryz.call112 args w
theorem en113 : Entered Tryz.prog 113 := fun args w => Tryz.call113 args w
theorem en114 : Entered Tryz.prog 114 := fun args w => Tryz.call114 args w
theorem en117 : Entered Tryz.prog 117 := fun args w => Tryz.call117 args w
theorem en118 : Entered Tryz.prog 118 := fun args w => Tryz.call118 args w
theorem en119 : Entered Tryz.prog 119 := fun args w => Tryz.call119 args w
theorem en120 : Entered Tryz.prog 120 := fun args w => Tryz.call120 args w
theorem en121 : Entered Tryz.prog 121 := fun args w => Tryz.call121 args w
theorem en122 : Entered Tryz.prog 122 := fun args w => Tryz.call122 args w
theorem en123 : Entered Tryz.prog 123 := fun args w => Tryz.call123 args w
theorem en124 : Entered Tryz.prog 124 := fun args w => Tryz.call124 args w
theorem en125 : Entered Tryz.prog 125 := fun args w => Tryz.call125 args w
theorem en126 : Entered Tryz.prog 126 := fun args w => Tryz.call126 args w
theorem en127 : Entered Tryz.prog 127 := fun args w => Tryz.call127 args w
theorem en128 : Entered Tryz.prog 128 := fun args w => Tryz.call128 args w
theorem en129 : Entered Tryz.prog 129 := fun args w => Tryz.call129 args w
theorem en130 : Entered Tryz.prog 130 := fun args w => Tryz.call130 args w
theorem en131 : Entered Tryz.prog 131 := fun args w => Tryz.call131 args w
theorem en132 : Entered Tryz.prog 132 := fun args w => Tryz.call132 args w
theorem en133 : Entered Tryz.prog 133 := fun args w => Tryz.call133 args w
theorem en134 : Entered Tryz.prog 134 := fun args w => Tryz.call134 args w
theorem en135 : Entered Tryz.prog 135 := fun args w => Tryz.call135 args w
theorem en136 : Entered Tryz.prog 136 := fun args w => Tryz.call136 args w
theorem en137 : Entered Tryz.prog 137 := fun args w => Tryz.call137 args w
theorem en138 : Entered Tryz.prog 138 := fun args w => Tryz.call138 args w
theorem en139 : Entered Tryz.prog 139 := fun args w => Tryz.call139 args w
theorem en140 : Entered Tryz.prog 140 := fun args w => Tryz.call140 args w
theorem en141 : Entered Tryz.prog 141 := fun args w => Tryz.call141 args w
theorem en142 : Entered Tryz.prog 142 := fun args w => Tryz.call142 args w
theorem en143 : Entered Tryz.prog 143 := fun args w => Tryz.call143 args w
theorem en144 : Entered Tryz.prog 144 := fun args w => Tryz.call144 args w
theorem en148 : Entered Tryz.prog 148 := fun args w => Tryz.call148 args w
theorem en155 : Entered Tryz.prog 155 := fun args w => Tryz.call155 args w
theorem en160 : Entered Tryz.prog 160 := fun args w => Tryz.call160 args w
theorem en161 : Entered Tryz.prog 161 := fun args w => Tryz.call161 args w
theorem en162 : Entered Tryz.prog 162 := fun args w => Tryz.call162 args w
theorem en163 : Entered Tryz.prog 163 := fun args w => Tryz.call163 args w
theorem en164 : Entered Tryz.prog 164 := fun args w => Tryz.call164 args w
theorem en165 : Entered Tryz.prog 165 := fun args w => Tryz.call165 args w
theorem en166 : Entered Tryz.prog 166 := fun args w => Tryz.call166 args w
theorem en167 : Entered Tryz.prog 167 := fun args w => Tryz.call167 args w
theorem en168 : Entered Tryz.prog 168 := fun args w => Tryz.call168 args w
theorem en169 : Entered Tryz.prog 169 := fun args w => Tryz.call169 args w
theorem en175 : Entered Tryz.prog 175 := fun args w => Tryz.call175 args w
theorem en176 : Entered Tryz.prog 176 := fun args w => Tryz.call176 args w
theorem op3 : Opens Tryz.prog 3 eI I64 := Opens.i64 Tryz.underlying3
theorem op22 : Opens Tryz.prog 22 eLeI (OkL I64) := Opens.slice Tryz.underlying22 (n := 1) (by kernel_rfl) (by decide) op3
theorem op24 : Opens Tryz.prog 24 eApiFloor OkApiFloor := fun enc w held fuel cells d ps ht => by
  obtain ⟨fuel', hl, hf⟩ := Opens.st (N := 5) Tryz.underlying24 (by kernel_rfl) ht
  obtain ⟨x0, k0, l0, c0⟩ := Opens.fld op3 (n := 1) (off := 0) (by kernel_rfl) (by omega) (hf _ (List.mem_of_getElem? (i := 0) rfl))
  obtain ⟨x1, k1, l1, c1⟩ := Opens.fld op3 (n := 1) (off := 1) (by kernel_rfl) (by omega) (hf _ (List.mem_of_getElem? (i := 1) rfl))
  obtain ⟨x2, k2, l2, c2⟩ := Opens.fld op3 (n := 1) (off := 2) (by kernel_rfl) (by omega) (hf _ (List.mem_of_getElem? (i := 2) rfl))
  obtain ⟨x3, k3, l3, c3⟩ := Opens.fld op22 (n := 1) (off := 3) (by kernel_rfl) (by omega) (hf _ (List.mem_of_getElem? (i := 3) rfl))
  obtain ⟨x4, k4, l4, c4⟩ := Opens.fld op22 (n := 1) (off := 4) (by kernel_rfl) (by omega) (hf _ (List.mem_of_getElem? (i := 4) rfl))
  have hc : Cov w cells 0 (eApiFloor ⟨x0, x1, x2, x3, x4⟩) := (c0.app (c1.app (c2.app (c3.app (c4.app Cov.nil)))))
  exact ⟨⟨x0, x1, x2, x3, x4⟩, ⟨k0, k1, k2, k3, k4⟩, by rw [hl]; rfl, fun j A v hA hv => hc j A v hA (by simpa using hv)⟩
theorem op9 : Opens Tryz.prog 9 eS OkS := Opens.str Tryz.underlying9
theorem op82 : Opens Tryz.prog 82 eApiSpan OkApiSpan := fun enc w held fuel cells d ps ht => by
  obtain ⟨fuel', hl, hf⟩ := Opens.st (N := 2) Tryz.underlying82 (by kernel_rfl) ht
  obtain ⟨x0, k0, l0, c0⟩ := Opens.fld op3 (n := 1) (off := 0) (by kernel_rfl) (by omega) (hf _ (List.mem_of_getElem? (i := 0) rfl))
  obtain ⟨x1, k1, l1, c1⟩ := Opens.fld op3 (n := 1) (off := 1) (by kernel_rfl) (by omega) (hf _ (List.mem_of_getElem? (i := 1) rfl))
  have hc : Cov w cells 0 (eApiSpan ⟨x0, x1⟩) := (c0.app (c1.app Cov.nil))
  exact ⟨⟨x0, x1⟩, ⟨k0, k1⟩, by rw [hl]; rfl, fun j A v hA hv => hc j A v hA (by simpa using hv)⟩
theorem op80 : Opens Tryz.prog 80 eLeApiSpan (OkL OkApiSpan) := Opens.slice Tryz.underlying80 (n := 2) (by kernel_rfl) (by decide) op82
theorem op84 : Opens Tryz.prog 84 eApiZone OkApiZone := fun enc w held fuel cells d ps ht => by
  obtain ⟨fuel', hl, hf⟩ := Opens.st (N := 5) Tryz.underlying84 (by kernel_rfl) ht
  obtain ⟨x0, k0, l0, c0⟩ := Opens.fld op9 (n := 1) (off := 0) (by kernel_rfl) (by omega) (hf _ (List.mem_of_getElem? (i := 0) rfl))
  obtain ⟨x1, k1, l1, c1⟩ := Opens.fld op22 (n := 1) (off := 1) (by kernel_rfl) (by omega) (hf _ (List.mem_of_getElem? (i := 1) rfl))
  obtain ⟨x2, k2, l2, c2⟩ := Opens.fld op3 (n := 1) (off := 2) (by kernel_rfl) (by omega) (hf _ (List.mem_of_getElem? (i := 2) rfl))
  obtain ⟨x3, k3, l3, c3⟩ := Opens.fld op3 (n := 1) (off := 3) (by kernel_rfl) (by omega) (hf _ (List.mem_of_getElem? (i := 3) rfl))
  obtain ⟨x4, k4, l4, c4⟩ := Opens.fld op80 (n := 1) (off := 4) (by kernel_rfl) (by omega) (hf _ (List.mem_of_getElem? (i := 4) rfl))
  have hc : Cov w cells 0 (eApiZone ⟨x0, x1, x2, x3, x4⟩) := (c0.app (c1.app (c2.app (c3.app (c4.app Cov.nil)))))
  exact ⟨⟨x0, x1, x2, x3, x4⟩, ⟨k0, k1, k2, k3, k4⟩, by rw [hl]; rfl, fun j A v hA hv => hc j A v hA (by simpa using hv)⟩
theorem op25 : Opens Tryz.prog 25 eLeApiZone (OkL OkApiZone) := Opens.slice Tryz.underlying25 (n := 5) (by kernel_rfl) (by decide) op84
theorem op98 : Opens Tryz.prog 98 eApiApart OkApiApart := fun enc w held fuel cells d ps ht => by
  obtain ⟨fuel', hl, hf⟩ := Opens.st (N := 2) Tryz.underlying98 (by kernel_rfl) ht
  obtain ⟨x0, k0, l0, c0⟩ := Opens.fld op9 (n := 1) (off := 0) (by kernel_rfl) (by omega) (hf _ (List.mem_of_getElem? (i := 0) rfl))
  obtain ⟨x1, k1, l1, c1⟩ := Opens.fld op9 (n := 1) (off := 1) (by kernel_rfl) (by omega) (hf _ (List.mem_of_getElem? (i := 1) rfl))
  have hc : Cov w cells 0 (eApiApart ⟨x0, x1⟩) := (c0.app (c1.app Cov.nil))
  exact ⟨⟨x0, x1⟩, ⟨k0, k1⟩, by rw [hl]; rfl, fun j A v hA hv => hc j A v hA (by simpa using hv)⟩
theorem op26 : Opens Tryz.prog 26 eLeApiApart (OkL OkApiApart) := Opens.slice Tryz.underlying26 (n := 2) (by kernel_rfl) (by decide) op98
theorem op105 : Opens Tryz.prog 105 eApiShelf OkApiShelf := fun enc w held fuel cells d ps ht => by
  obtain ⟨fuel', hl, hf⟩ := Opens.st (N := 2) Tryz.underlying105 (by kernel_rfl) ht
  obtain ⟨x0, k0, l0, c0⟩ := Opens.fld op3 (n := 1) (off := 0) (by kernel_rfl) (by omega) (hf _ (List.mem_of_getElem? (i := 0) rfl))
  obtain ⟨x1, k1, l1, c1⟩ := Opens.fld op9 (n := 1) (off := 1) (by kernel_rfl) (by omega) (hf _ (List.mem_of_getElem? (i := 1) rfl))
  have hc : Cov w cells 0 (eApiShelf ⟨x0, x1⟩) := (c0.app (c1.app Cov.nil))
  exact ⟨⟨x0, x1⟩, ⟨k0, k1⟩, by rw [hl]; rfl, fun j A v hA hv => hc j A v hA (by simpa using hv)⟩
theorem op27 : Opens Tryz.prog 27 eLeApiShelf (OkL OkApiShelf) := Opens.slice Tryz.underlying27 (n := 2) (by kernel_rfl) (by decide) op105
theorem op107 : Opens Tryz.prog 107 eApiStart OkApiStart := fun enc w held fuel cells d ps ht => by
  obtain ⟨fuel', hl, hf⟩ := Opens.st (N := 2) Tryz.underlying107 (by kernel_rfl) ht
  obtain ⟨x0, k0, l0, c0⟩ := Opens.fld op3 (n := 1) (off := 0) (by kernel_rfl) (by omega) (hf _ (List.mem_of_getElem? (i := 0) rfl))
  obtain ⟨x1, k1, l1, c1⟩ := Opens.fld op3 (n := 1) (off := 1) (by kernel_rfl) (by omega) (hf _ (List.mem_of_getElem? (i := 1) rfl))
  have hc : Cov w cells 0 (eApiStart ⟨x0, x1⟩) := (c0.app (c1.app Cov.nil))
  exact ⟨⟨x0, x1⟩, ⟨k0, k1⟩, by rw [hl]; rfl, fun j A v hA hv => hc j A v hA (by simpa using hv)⟩
theorem op28 : Opens Tryz.prog 28 eLeApiStart (OkL OkApiStart) := Opens.slice Tryz.underlying28 (n := 2) (by kernel_rfl) (by decide) op107
theorem op30 : Opens Tryz.prog 30 eApiSite OkApiSite := fun enc w held fuel cells d ps ht => by
  obtain ⟨fuel', hl, hf⟩ := Opens.st (N := 9) Tryz.underlying30 (by kernel_rfl) ht
  obtain ⟨x0, k0, l0, c0⟩ := Opens.fld op24 (n := 5) (off := 0) (by kernel_rfl) (by omega) (hf _ (List.mem_of_getElem? (i := 0) rfl))
  obtain ⟨x1, k1, l1, c1⟩ := Opens.fld op25 (n := 1) (off := 5) (by kernel_rfl) (by omega) (hf _ (List.mem_of_getElem? (i := 1) rfl))
  obtain ⟨x2, k2, l2, c2⟩ := Opens.fld op26 (n := 1) (off := 6) (by kernel_rfl) (by omega) (hf _ (List.mem_of_getElem? (i := 2) rfl))
  obtain ⟨x3, k3, l3, c3⟩ := Opens.fld op27 (n := 1) (off := 7) (by kernel_rfl) (by omega) (hf _ (List.mem_of_getElem? (i := 3) rfl))
  obtain ⟨x4, k4, l4, c4⟩ := Opens.fld op28 (n := 1) (off := 8) (by kernel_rfl) (by omega) (hf _ (List.mem_of_getElem? (i := 4) rfl))
  have hc : Cov w cells 0 (eApiSite ⟨x0, x1, x2, x3, x4⟩) := (c0.app (c1.app (c2.app (c3.app (c4.app Cov.nil)))))
  exact ⟨⟨x0, x1, x2, x3, x4⟩, ⟨k0, k1, k2, k3, k4⟩, by rw [hl]; rfl, fun j A v hA hv => hc j A v hA (by simpa using hv)⟩
theorem op4 : Opens Tryz.prog 4 eB (fun (_ : Bool) => True) := Opens.bool Tryz.underlying4
theorem op45 : Opens Tryz.prog 45 eApiRobot OkApiRobot := fun enc w held fuel cells d ps ht => by
  obtain ⟨fuel', hl, hf⟩ := Opens.st (N := 6) Tryz.underlying45 (by kernel_rfl) ht
  obtain ⟨x0, k0, l0, c0⟩ := Opens.fld op3 (n := 1) (off := 0) (by kernel_rfl) (by omega) (hf _ (List.mem_of_getElem? (i := 0) rfl))
  obtain ⟨x1, k1, l1, c1⟩ := Opens.fld op3 (n := 1) (off := 1) (by kernel_rfl) (by omega) (hf _ (List.mem_of_getElem? (i := 1) rfl))
  obtain ⟨x2, k2, l2, c2⟩ := Opens.fld op3 (n := 1) (off := 2) (by kernel_rfl) (by omega) (hf _ (List.mem_of_getElem? (i := 2) rfl))
  obtain ⟨x3, k3, l3, c3⟩ := Opens.fld op3 (n := 1) (off := 3) (by kernel_rfl) (by omega) (hf _ (List.mem_of_getElem? (i := 3) rfl))
  obtain ⟨x4, k4, l4, c4⟩ := Opens.fld op3 (n := 1) (off := 4) (by kernel_rfl) (by omega) (hf _ (List.mem_of_getElem? (i := 4) rfl))
  obtain ⟨x5, k5, l5, c5⟩ := Opens.fld op4 (n := 1) (off := 5) (by kernel_rfl) (by omega) (hf _ (List.mem_of_getElem? (i := 5) rfl))
  have hc : Cov w cells 0 (eApiRobot ⟨x0, x1, x2, x3, x4, x5⟩) := (c0.app (c1.app (c2.app (c3.app (c4.app (c5.app Cov.nil))))))
  exact ⟨⟨x0, x1, x2, x3, x4, x5⟩, ⟨k0, k1, k2, k3, k4, k5⟩, by rw [hl]; rfl, fun j A v hA hv => hc j A v hA (by simpa using hv)⟩
theorem op31 : Opens Tryz.prog 31 eLeApiRobot (OkL OkApiRobot) := Opens.slice Tryz.underlying31 (n := 6) (by kernel_rfl) (by decide) op45
theorem op72 : Opens Tryz.prog 72 eApiStuck OkApiStuck := fun enc w held fuel cells d ps ht => by
  obtain ⟨fuel', hl, hf⟩ := Opens.st (N := 2) Tryz.underlying72 (by kernel_rfl) ht
  obtain ⟨x0, k0, l0, c0⟩ := Opens.fld op3 (n := 1) (off := 0) (by kernel_rfl) (by omega) (hf _ (List.mem_of_getElem? (i := 0) rfl))
  obtain ⟨x1, k1, l1, c1⟩ := Opens.fld op3 (n := 1) (off := 1) (by kernel_rfl) (by omega) (hf _ (List.mem_of_getElem? (i := 1) rfl))
  have hc : Cov w cells 0 (eApiStuck ⟨x0, x1⟩) := (c0.app (c1.app Cov.nil))
  exact ⟨⟨x0, x1⟩, ⟨k0, k1⟩, by rw [hl]; rfl, fun j A v hA hv => hc j A v hA (by simpa using hv)⟩
theorem op32 : Opens Tryz.prog 32 eLeApiStuck (OkL OkApiStuck) := Opens.slice Tryz.underlying32 (n := 2) (by kernel_rfl) (by decide) op72
theorem op34 : Opens Tryz.prog 34 eApiState OkApiState := fun enc w held fuel cells d ps ht => by
  obtain ⟨fuel', hl, hf⟩ := Opens.st (N := 6) Tryz.underlying34 (by kernel_rfl) ht
  obtain ⟨x0, k0, l0, c0⟩ := Opens.fld op3 (n := 1) (off := 0) (by kernel_rfl) (by omega) (hf _ (List.mem_of_getElem? (i := 0) rfl))
  obtain ⟨x1, k1, l1, c1⟩ := Opens.fld op22 (n := 1) (off := 1) (by kernel_rfl) (by omega) (hf _ (List.mem_of_getElem? (i := 1) rfl))
  obtain ⟨x2, k2, l2, c2⟩ := Opens.fld op31 (n := 1) (off := 2) (by kernel_rfl) (by omega) (hf _ (List.mem_of_getElem? (i := 2) rfl))
  obtain ⟨x3, k3, l3, c3⟩ := Opens.fld op22 (n := 1) (off := 3) (by kernel_rfl) (by omega) (hf _ (List.mem_of_getElem? (i := 3) rfl))
  obtain ⟨x4, k4, l4, c4⟩ := Opens.fld op22 (n := 1) (off := 4) (by kernel_rfl) (by omega) (hf _ (List.mem_of_getElem? (i := 4) rfl))
  obtain ⟨x5, k5, l5, c5⟩ := Opens.fld op32 (n := 1) (off := 5) (by kernel_rfl) (by omega) (hf _ (List.mem_of_getElem? (i := 5) rfl))
  have hc : Cov w cells 0 (eApiState ⟨x0, x1, x2, x3, x4, x5⟩) := (c0.app (c1.app (c2.app (c3.app (c4.app (c5.app Cov.nil))))))
  exact ⟨⟨x0, x1, x2, x3, x4, x5⟩, ⟨k0, k1, k2, k3, k4, k5⟩, by rw [hl]; rfl, fun j A v hA hv => hc j A v hA (by simpa using hv)⟩
theorem itb161 (xs : List Int) (l : Nat) (J : Nat → World → Prop) (Jx : World → Prop) (S : Nat → Prop) (w W : World) (b off cap : Nat) (p0 : Option Addr) (hlen : xs.length ≤ 1099511627776) (hS : S b)
    (hY : ∀ m x W1, (bkw xs)[m]? = some x → J m W1 → YieldAt Fence.wide 1 Tryz.prog l #[.int .i64 x.1, .int .i64 x.2] W1 fun e W' => (e = .returned (.bool true) ∧ J (m + 1) W' ∧ KS S W1 W') ∨ (e = .returned (.bool false) ∧ Jx W'))
    (hc : W.cell? ⟨b, off, none⟩ = some (.slice p0 xs.length cap)) (hL : RowAt S W p0 xs) (h0 : J 0 W) :
    CallsIn Fence.wide 2 Tryz.prog 161 #[.func (.yield l) #[] #[], .pointer (some ⟨b, off, none⟩)] W fun e W' => (∃ v, e = .returned v) ∧ (J (bkw xs).length W' ∨ Jx W') := by
  refine callsIn_of_wp Tryz.func161 rfl trivial ?_ rfl
  simp only [Tryz.ntmps161, List.size_toArray, List.length_cons, List.length_nil, Nat.reduceAdd, Nat.reduceSub, Array.replicate_succ, Array.replicate_zero, List.push_toArray, List.append_toArray, List.nil_append, List.cons_append]
  gi_wp2
  gi_loopw [3] (fun p wr => ∃ (m : Nat), m ≤ xs.length ∧ p = .int .i64 ((m : Int) - 1) ∧ RowAt S wr p0 xs ∧ wr.cell? ⟨b, off, none⟩ = some (.slice p0 xs.length cap) ∧ J (xs.length - m) wr)
    (fun p wr => match p with | .int _ i => (i + 1).toNat | _ => 0)
  case atStart => exact ⟨xs.length, Nat.le_refl _, rfl, hL, hc, by simpa using h0⟩
  case round =>
    obtain ⟨m, hm, rfl, hl, hc, hJs⟩ := hrel
    cases m with
    | zero =>
      gi_wp2
      go_end0
      exact ⟨⟨_, rfl⟩, .inl (by rw [bkw_len]; exact hJs)⟩
    | succ m =>
      have hx : xs[m]? = some (xs.getD m 0) := by rw [List.getD_eq_getElem?_getD, List.getElem?_eq_getElem (by omega)]; rfl
      obtain ⟨b', off', rfl, hb, hv⟩ := hl m _ hx
      obtain ⟨fn, tmps, assign, body, hy, hR⟩ := hY (xs.length - (m + 1)) ((m : Int), xs.getD m 0) wr (bkw_get (by omega)) hJs
      have e1 : ((m + 1 : Nat) : Int) - 1 = (m : Int) := by omega
      rw [e1]
      generalize xs.getD m 0 = x0 at *
      gi_wp2
      refine hR.mono ?_
      rintro e W3 (⟨rfl, hJ3, hk3⟩ | ⟨rfl, hJx3⟩)
      · gi_wp2
        go_roundw
        case rel => exact ⟨m, by omega, rfl, hl.keep hk3, (hk3.cell hS).trans hc, by rw [show xs.length - m = xs.length - (m + 1) + 1 by omega]; exact hJ3⟩
        case measure => simp
      · gi_wp2
        refine bodyPost_ret (results_none rfl _ _ _) rfl ?_
        exact ⟨⟨_, rfl⟩, .inr hJx3⟩
theorem it161 (xs : List Int) (hlen : xs.length ≤ 1099511627776) : Iter Tryz.prog 161 [.rp [.sl 1 eI xs]] (fun x : Int × Int => [.int .i64 x.1, .int .i64 x.2]) (bkw xs) := fun w ok β lb hlb l J Jx W hW hY h0 => by
  obtain ⟨b, off, p, cap, rfl, hb, hc, hr⟩ := capRow hlb
  exact itb161 xs l J Jx ok w W b off cap p hlen hb hY ((hW.cell hb).trans hc) (hr.keep hW) h0

theorem itb165 (xs : List Int) (l : Nat) (J : Nat → World → Prop) (Jx : World → Prop) (S : Nat → Prop) (w W : World) (b off cap : Nat) (p0 : Option Addr) (hlen : xs.length ≤ 1099511627776) (hS : S b)
    (hY : ∀ m x W1, xs[m]? = some x → J m W1 → YieldAt Fence.wide 1 Tryz.prog l #[.int .i64 x] W1 fun e W' => (e = .returned (.bool true) ∧ J (m + 1) W' ∧ KS S W1 W') ∨ (e = .returned (.bool false) ∧ Jx W'))
    (hc : W.cell? ⟨b, off, none⟩ = some (.slice p0 xs.length cap)) (hL : RowAt S W p0 xs) (h0 : J 0 W) :
    CallsIn Fence.wide 2 Tryz.prog 165 #[.func (.yield l) #[] #[], .pointer (some ⟨b, off, none⟩)] W fun e W' => (∃ v, e = .returned v) ∧ (J xs.length W' ∨ Jx W') := by
  refine callsIn_of_wp Tryz.func165 rfl trivial ?_ rfl
  simp only [Tryz.ntmps165, List.size_toArray, List.length_cons, List.length_nil, Nat.reduceAdd, Nat.reduceSub, Array.replicate_succ, Array.replicate_zero, List.push_toArray, List.append_toArray, List.nil_append, List.cons_append]
  gi_wp2
  gi_loopw [7] (fun p wr => ∃ (m : Nat), m ≤ xs.length ∧ p = .int .i64 (m : Int) ∧ RowAt S wr p0 xs ∧ J m wr)
    (fun p wr => match p with | .int _ i => xs.length - i.toNat | _ => 0)
  case atStart => exact ⟨0, Nat.zero_le _, rfl, hL, h0⟩
  case round =>
    obtain ⟨m, hm, rfl, hl, hJs⟩ := hrel
    by_cases hlt : m < xs.length
    · have hx : xs[m]? = some (xs.getD m 0) := by rw [List.getD_eq_getElem?_getD, List.getElem?_eq_getElem hlt]; rfl
      obtain ⟨b', off', rfl, hb, hv⟩ := hl m _ hx
      obtain ⟨fn, tmps, assign, body, hy, hR⟩ := hY m (xs.getD m 0) wr hx hJs
      generalize xs.getD m 0 = x0 at *
      gi_wp2
      refine hR.mono ?_
      rintro e W3 (⟨rfl, hJ3, hk3⟩ | ⟨rfl, hJx3⟩)
      · gi_wp2
        go_roundw
        case rel => exact ⟨m + 1, by omega, rfl, hl.keep hk3, hJ3⟩
        case measure => simp; omega
      · gi_wp2
        refine bodyPost_ret (results_none rfl _ _ _) rfl ?_
        exact ⟨⟨_, rfl⟩, .inr hJx3⟩
    · obtain rfl : m = xs.length := by omega
      gi_wp2
      go_end0
      exact ⟨⟨_, rfl⟩, .inl hJs⟩
theorem it165 (xs : List Int) (hlen : xs.length ≤ 1099511627776) : Iter Tryz.prog 165 [.rp [.sl 1 eI xs]] (fun x : Int => [.int .i64 x]) xs := fun w ok β lb hlb l J Jx W hW hY h0 => by
  obtain ⟨b, off, p, cap, rfl, hb, hc, hr⟩ := capRow hlb
  exact itb165 xs l J Jx ok w W b off cap p hlen hb hY ((hW.cell hb).trans hc) (hr.keep hW) h0

end Go.Proofs.YtenbhocpjlmimaaGreat
