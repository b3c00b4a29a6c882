/- The encodings of the data, and the types' table (written by a program of the prover). -/
import Derived.Test.YtpcdibgbijddlaaVc
import Derived.Test.YtpcdibgbijddlaaChecked
import Derived.Test.YtpcdibgbijddlaaLibZC
import Derived.Test.YtpcdibgbijddlaaLibZR
import Derived.Test.YtpcdibgbijddlaaLibZS
import Derived.RangeFuncLeaves
import Derived.WalkKit
import Derived.OwnWalkIn
import Derived.TacticsInMore
import Derived.LoopNIn
import Derived.LoopIn
import Derived.KernelRfl
set_option maxRecDepth 100000
set_option maxHeartbeats 8000000
set_option linter.unusedVariables false
set_option linter.unusedSimpArgs false
namespace Go.Proofs.Ytpcdibgbijddlaa
open Go Go.Taq
@[reducible] def eI (x : Int) : List AVal := [.i x]
@[reducible] def eApiSpan (x : ApiSpan) : List AVal := [.i x.From, .i x.To]
@[reducible] def eApiZone (x : ApiZone) : List AVal := [.v (.string x.Name), .sl 1 eI x.Cells, .i x.Speed, .i x.Keep, .sl 2 eApiSpan x.Shut]
@[reducible] def eApiApart (x : ApiApart) : List AVal := [.v (.string x.A), .v (.string x.B)]
@[reducible] def eApiShelf (x : ApiShelf) : List AVal := [.i x.Cell, .v (.string x.Class)]
@[reducible] def eApiStart (x : ApiStart) : List AVal := [.i x.Cell, .i x.Charge]
@[reducible] def eApiRobot (x : ApiRobot) : List AVal := [.i x.Cell, .i x.Load, .i x.Charge, .i x.Rest, .i x.Mute, .b x.Dead]
@[reducible] def eApiStuck (x : ApiStuck) : List AVal := [.i x.Cell, .i x.Left]
def kApiApartc (x : ApiApart) : List Value := [.string x.A, .string x.B]
def kApiApart (x : ApiApart) : Value := .agg (kApiApartc x).toArray
def veB (x : Bool) : AVal := .b x
@[reducible] def eApiSite (x : ApiSite) : List AVal := [.i x.Floor.W, .i x.Floor.H, .i x.Floor.D, .sl 1 eI x.Floor.Kind, .sl 1 eI x.Floor.Out, .sl 5 eApiZone x.Zones, .sl 2 eApiApart x.Aparts, .sl 2 eApiShelf x.Shelves, .sl 2 eApiStart x.Robots]
def kI (x : Int) : Value := .int .i64 x
def veOeI (x : List Int) : AVal := .os 1 eI x
@[reducible] def eLeI (x : List Int) : List AVal := [.sl 1 eI x]
def veLeI (x : List Int) : AVal := .sl 1 eI x
@[reducible] def eApiState (x : ApiState) : List AVal := [.i x.Tick, .sl 1 eI x.Shelves, .sl 6 eApiRobot x.Robots, .sl 1 eI x.People, .sl 1 eI x.Dead, .sl 2 eApiStuck x.Stuck]
@[reducible] def eApiFloor (x : ApiFloor) : List AVal := [.i x.W, .i x.H, .i x.D, .sl 1 eI x.Kind, .sl 1 eI x.Out]
def veI (x : Int) : AVal := .i x
@[reducible] def eFloorStep (x : FloorStep) : List AVal := [.i x.x, .i x.y, .i x.z]
def kS (x : ByteArray) : Value := .string x
@[reducible] def eS (x : ByteArray) : List AVal := [.v (.string x)]
@[reducible] def eLeApiSpan (x : List ApiSpan) : List AVal := [.sl 2 eApiSpan x]
@[reducible] def eLeApiZone (x : List ApiZone) : List AVal := [.sl 5 eApiZone x]
@[reducible] def eLeApiApart (x : List ApiApart) : List AVal := [.sl 2 eApiApart x]
@[reducible] def eLeApiShelf (x : List ApiShelf) : List AVal := [.sl 2 eApiShelf x]
@[reducible] def eLeApiStart (x : List ApiStart) : List AVal := [.sl 2 eApiStart x]
def te3 : TE := ⟨.int .i64, 1, 8, [.int .i64 0]⟩
theorem teok3 : TEok Try.prog 3 te3 := ⟨⟨_, Try.underlying3, rfl⟩, Try.t3, _, (by kernel_rfl : Try.prog.info? 3 = some Try.t3), rfl, rfl, rfl, rfl, (fun h => by cases h), rfl, by decide⟩
def te4 : TE := ⟨.bool, 1, 1, [.bool false]⟩
theorem teok4 : TEok Try.prog 4 te4 := ⟨⟨_, Try.underlying4, rfl⟩, Try.t4, _, (by kernel_rfl : Try.prog.info? 4 = some Try.t4), rfl, rfl, rfl, rfl, (fun h => by cases h), rfl, by decide⟩
def te5 : TE := ⟨.int .u8, 1, 1, [.int .u8 0]⟩
theorem teok5 : TEok Try.prog 5 te5 := ⟨⟨_, Try.underlying5, rfl⟩, Try.t5, _, (by kernel_rfl : Try.prog.info? 5 = some Try.t5), rfl, rfl, rfl, rfl, (fun h => by cases h), rfl, by decide⟩
def te9 : TE := ⟨.str, 1, 16, [.string ByteArray.empty]⟩
theorem teok9 : TEok Try.prog 9 te9 := ⟨⟨_, Try.underlying9, rfl⟩, Try.t9, _, (by kernel_rfl : Try.prog.info? 9 = some Try.t9), rfl, rfl, rfl, rfl, (fun h => by cases h), rfl, by decide⟩
def te22 : TE := ⟨.sl 3, 1, 24, [.slice none 0 0]⟩
theorem teok22 : TEok Try.prog 22 te22 := ⟨⟨_, Try.underlying22, rfl⟩, Try.t22, _, (by kernel_rfl : Try.prog.info? 22 = some Try.t22), rfl, rfl, rfl, rfl, (fun h => by cases h), rfl, by decide⟩
def te24 : TE := ⟨.st [(0, 3), (1, 3), (2, 3), (3, 22), (4, 22)], 5, 72, [.int .i64 0, .int .i64 0, .int .i64 0, .slice none 0 0, .slice none 0 0]⟩
theorem teok24 : TEok Try.prog 24 te24 := ⟨⟨_, Try.underlying24, ⟨_, rfl, rfl⟩⟩, Try.t24, _, (by kernel_rfl : Try.prog.info? 24 = some Try.t24), rfl, rfl, rfl, rfl, (fun _ => ⟨_, rfl⟩), rfl, by decide⟩
def te25 : TE := ⟨.sl 57, 1, 24, [.slice none 0 0]⟩
theorem teok25 : TEok Try.prog 25 te25 := ⟨⟨_, Try.underlying25, rfl⟩, Try.t25, _, (by kernel_rfl : Try.prog.info? 25 = some Try.t25), rfl, rfl, rfl, rfl, (fun h => by cases h), rfl, by decide⟩
def te26 : TE := ⟨.sl 73, 1, 24, [.slice none 0 0]⟩
theorem teok26 : TEok Try.prog 26 te26 := ⟨⟨_, Try.underlying26, rfl⟩, Try.t26, _, (by kernel_rfl : Try.prog.info? 26 = some Try.t26), rfl, rfl, rfl, rfl, (fun h => by cases h), rfl, by decide⟩
def te27 : TE := ⟨.sl 62, 1, 24, [.slice none 0 0]⟩
theorem teok27 : TEok Try.prog 27 te27 := ⟨⟨_, Try.underlying27, rfl⟩, Try.t27, _, (by kernel_rfl : Try.prog.info? 27 = some Try.t27), rfl, rfl, rfl, rfl, (fun h => by cases h), rfl, by decide⟩
def te28 : TE := ⟨.sl 98, 1, 24, [.slice none 0 0]⟩
theorem teok28 : TEok Try.prog 28 te28 := ⟨⟨_, Try.underlying28, rfl⟩, Try.t28, _, (by kernel_rfl : Try.prog.info? 28 = some Try.t28), rfl, rfl, rfl, rfl, (fun h => by cases h), rfl, by decide⟩
def te30 : TE := ⟨.st [(0, 24), (5, 25), (6, 26), (7, 27), (8, 28)], 9, 168, [.int .i64 0, .int .i64 0, .int .i64 0, .slice none 0 0, .slice none 0 0, .slice none 0 0, .slice none 0 0, .slice none 0 0, .slice none 0 0]⟩
theorem teok30 : TEok Try.prog 30 te30 := ⟨⟨_, Try.underlying30, ⟨_, rfl, rfl⟩⟩, Try.t30, _, (by kernel_rfl : Try.prog.info? 30 = some Try.t30), rfl, rfl, rfl, rfl, (fun _ => ⟨_, rfl⟩), rfl, by decide⟩
def te31 : TE := ⟨.sl 44, 1, 24, [.slice none 0 0]⟩
theorem teok31 : TEok Try.prog 31 te31 := ⟨⟨_, Try.underlying31, rfl⟩, Try.t31, _, (by kernel_rfl : Try.prog.info? 31 = some Try.t31), rfl, rfl, rfl, rfl, (fun h => by cases h), rfl, by decide⟩
def te32 : TE := ⟨.sl 145, 1, 24, [.slice none 0 0]⟩
theorem teok32 : TEok Try.prog 32 te32 := ⟨⟨_, Try.underlying32, rfl⟩, Try.t32, _, (by kernel_rfl : Try.prog.info? 32 = some Try.t32), rfl, rfl, rfl, rfl, (fun h => by cases h), rfl, by decide⟩
def te34 : TE := ⟨.st [(0, 3), (1, 22), (2, 31), (3, 22), (4, 22), (5, 32)], 6, 128, [.int .i64 0, .slice none 0 0, .slice none 0 0, .slice none 0 0, .slice none 0 0, .slice none 0 0]⟩
theorem teok34 : TEok Try.prog 34 te34 := ⟨⟨_, Try.underlying34, ⟨_, rfl, rfl⟩⟩, Try.t34, _, (by kernel_rfl : Try.prog.info? 34 = some Try.t34), rfl, rfl, rfl, rfl, (fun _ => ⟨_, rfl⟩), rfl, by decide⟩
def te44 : TE := ⟨.st [(0, 3), (1, 3), (2, 3), (3, 3), (4, 3), (5, 4)], 6, 48, [.int .i64 0, .int .i64 0, .int .i64 0, .int .i64 0, .int .i64 0, .bool false]⟩
theorem teok44 : TEok Try.prog 44 te44 := ⟨⟨_, Try.underlying44, ⟨_, rfl, rfl⟩⟩, Try.t44, _, (by kernel_rfl : Try.prog.info? 44 = some Try.t44), rfl, rfl, rfl, rfl, (fun _ => ⟨_, rfl⟩), rfl, by decide⟩
def te45 : TE := ⟨.int .i64, 1, 8, [.int .i64 0]⟩
theorem teok45 : TEok Try.prog 45 te45 := ⟨⟨_, Try.underlying45, rfl⟩, Try.t45, _, (by kernel_rfl : Try.prog.info? 45 = some Try.t45), rfl, rfl, rfl, rfl, (fun h => by cases h), rfl, by decide⟩
def te55 : TE := ⟨.sl 59, 1, 24, [.slice none 0 0]⟩
theorem teok55 : TEok Try.prog 55 te55 := ⟨⟨_, Try.underlying55, rfl⟩, Try.t55, _, (by kernel_rfl : Try.prog.info? 55 = some Try.t55), rfl, rfl, rfl, rfl, (fun h => by cases h), rfl, by decide⟩
def te57 : TE := ⟨.st [(0, 9), (1, 22), (2, 3), (3, 3), (4, 55)], 5, 80, [.string ByteArray.empty, .slice none 0 0, .int .i64 0, .int .i64 0, .slice none 0 0]⟩
theorem teok57 : TEok Try.prog 57 te57 := ⟨⟨_, Try.underlying57, ⟨_, rfl, rfl⟩⟩, Try.t57, _, (by kernel_rfl : Try.prog.info? 57 = some Try.t57), rfl, rfl, rfl, rfl, (fun _ => ⟨_, rfl⟩), rfl, by decide⟩
def te59 : TE := ⟨.st [(0, 3), (1, 3)], 2, 16, [.int .i64 0, .int .i64 0]⟩
theorem teok59 : TEok Try.prog 59 te59 := ⟨⟨_, Try.underlying59, ⟨_, rfl, rfl⟩⟩, Try.t59, _, (by kernel_rfl : Try.prog.info? 59 = some Try.t59), rfl, rfl, rfl, rfl, (fun _ => ⟨_, rfl⟩), rfl, by decide⟩
def te62 : TE := ⟨.st [(0, 3), (1, 9)], 2, 24, [.int .i64 0, .string ByteArray.empty]⟩
theorem teok62 : TEok Try.prog 62 te62 := ⟨⟨_, Try.underlying62, ⟨_, rfl, rfl⟩⟩, Try.t62, _, (by kernel_rfl : Try.prog.info? 62 = some Try.t62), rfl, rfl, rfl, rfl, (fun _ => ⟨_, rfl⟩), rfl, by decide⟩
def te69 : TE := ⟨.mp 73 4, 1, 8, [.map none]⟩
theorem teok69 : TEok Try.prog 69 te69 := ⟨⟨_, Try.underlying69, rfl⟩, Try.t69, _, (by kernel_rfl : Try.prog.info? 69 = some Try.t69), rfl, rfl, rfl, rfl, (fun h => by cases h), rfl, by decide⟩
def te71 : TE := ⟨.mp 3 22, 1, 8, [.map none]⟩
theorem teok71 : TEok Try.prog 71 te71 := ⟨⟨_, Try.underlying71, rfl⟩, Try.t71, _, (by kernel_rfl : Try.prog.info? 71 = some Try.t71), rfl, rfl, rfl, rfl, (fun h => by cases h), rfl, by decide⟩
def te73 : TE := ⟨.st [(0, 9), (1, 9)], 2, 32, [.string ByteArray.empty, .string ByteArray.empty]⟩
theorem teok73 : TEok Try.prog 73 te73 := ⟨⟨_, Try.underlying73, ⟨_, rfl, rfl⟩⟩, Try.t73, _, (by kernel_rfl : Try.prog.info? 73 = some Try.t73), rfl, rfl, rfl, rfl, (fun _ => ⟨_, rfl⟩), rfl, by decide⟩
def te76 : TE := ⟨.fn, 1, 8, [.nilFunc]⟩
theorem teok76 : TEok Try.prog 76 te76 := ⟨⟨_, Try.underlying76, ⟨_, _, _, rfl⟩⟩, Try.t76, _, (by kernel_rfl : Try.prog.info? 76 = some Try.t76), rfl, rfl, rfl, rfl, (fun h => by cases h), rfl, by decide⟩
def te78 : TE := ⟨.mp 3 3, 1, 8, [.map none]⟩
theorem teok78 : TEok Try.prog 78 te78 := ⟨⟨_, Try.underlying78, rfl⟩, Try.t78, _, (by kernel_rfl : Try.prog.info? 78 = some Try.t78), rfl, rfl, rfl, rfl, (fun h => by cases h), rfl, by decide⟩
def te82 : TE := ⟨.fn, 1, 8, [.nilFunc]⟩
theorem teok82 : TEok Try.prog 82 te82 := ⟨⟨_, Try.underlying82, ⟨_, _, _, rfl⟩⟩, Try.t82, _, (by kernel_rfl : Try.prog.info? 82 = some Try.t82), rfl, rfl, rfl, rfl, (fun h => by cases h), rfl, by decide⟩
def te85 : TE := ⟨.fn, 1, 8, [.nilFunc]⟩
theorem teok85 : TEok Try.prog 85 te85 := ⟨⟨_, Try.underlying85, ⟨_, _, _, rfl⟩⟩, Try.t85, _, (by kernel_rfl : Try.prog.info? 85 = some Try.t85), rfl, rfl, rfl, rfl, (fun h => by cases h), rfl, by decide⟩
def te88 : TE := ⟨.pt 117, 1, 8, [.pointer none]⟩
theorem teok88 : TEok Try.prog 88 te88 := ⟨⟨_, Try.underlying88, rfl⟩, Try.t88, _, (by kernel_rfl : Try.prog.info? 88 = some Try.t88), rfl, rfl, rfl, rfl, (fun h => by cases h), rfl, by decide⟩
def te98 : TE := ⟨.st [(0, 3), (1, 3)], 2, 16, [.int .i64 0, .int .i64 0]⟩
theorem teok98 : TEok Try.prog 98 te98 := ⟨⟨_, Try.underlying98, ⟨_, rfl, rfl⟩⟩, Try.t98, _, (by kernel_rfl : Try.prog.info? 98 = some Try.t98), rfl, rfl, rfl, rfl, (fun _ => ⟨_, rfl⟩), rfl, by decide⟩
def te105 : TE := ⟨.fn, 1, 8, [.nilFunc]⟩
theorem teok105 : TEok Try.prog 105 te105 := ⟨⟨_, Try.underlying105, ⟨_, _, _, rfl⟩⟩, Try.t105, _, (by kernel_rfl : Try.prog.info? 105 = some Try.t105), rfl, rfl, rfl, rfl, (fun h => by cases h), rfl, by decide⟩
def te106 : TE := ⟨.ar 4 3, 4, 32, [.int .i64 0, .int .i64 0, .int .i64 0, .int .i64 0]⟩
theorem teok106 : TEok Try.prog 106 te106 := ⟨⟨_, Try.underlying106, rfl⟩, Try.t106, _, (by kernel_rfl : Try.prog.info? 106 = some Try.t106), rfl, rfl, rfl, rfl, (fun _ => ⟨_, rfl⟩), rfl, by decide⟩
def te107 : TE := ⟨.mp 3 4, 1, 8, [.map none]⟩
theorem teok107 : TEok Try.prog 107 te107 := ⟨⟨_, Try.underlying107, rfl⟩, Try.t107, _, (by kernel_rfl : Try.prog.info? 107 = some Try.t107), rfl, rfl, rfl, rfl, (fun h => by cases h), rfl, by decide⟩
def te111 : TE := ⟨.int .u64, 1, 8, [.int .u64 0]⟩
theorem teok111 : TEok Try.prog 111 te111 := ⟨⟨_, Try.underlying111, rfl⟩, Try.t111, _, (by kernel_rfl : Try.prog.info? 111 = some Try.t111), rfl, rfl, rfl, rfl, (fun h => by cases h), rfl, by decide⟩
def te115 : TE := ⟨.mp 9 3, 1, 8, [.map none]⟩
theorem teok115 : TEok Try.prog 115 te115 := ⟨⟨_, Try.underlying115, rfl⟩, Try.t115, _, (by kernel_rfl : Try.prog.info? 115 = some Try.t115), rfl, rfl, rfl, rfl, (fun h => by cases h), rfl, by decide⟩
def te117 : TE := ⟨.st [(0, 30), (9, 78), (10, 107), (11, 107), (12, 115), (13, 107), (14, 22), (15, 22)], 16, 256, [.int .i64 0, .int .i64 0, .int .i64 0, .slice none 0 0, .slice none 0 0, .slice none 0 0, .slice none 0 0, .slice none 0 0, .slice none 0 0, .map none, .map none, .map none, .map none, .map none, .slice none 0 0, .slice none 0 0]⟩
theorem teok117 : TEok Try.prog 117 te117 := ⟨⟨_, Try.underlying117, ⟨_, rfl, rfl⟩⟩, Try.t117, _, (by kernel_rfl : Try.prog.info? 117 = some Try.t117), rfl, rfl, rfl, rfl, (fun _ => ⟨_, rfl⟩), rfl, by decide⟩
def te123 : TE := ⟨.st [(0, 3), (1, 3), (2, 3)], 3, 24, [.int .i64 0, .int .i64 0, .int .i64 0]⟩
theorem teok123 : TEok Try.prog 123 te123 := ⟨⟨_, Try.underlying123, ⟨_, rfl, rfl⟩⟩, Try.t123, _, (by kernel_rfl : Try.prog.info? 123 = some Try.t123), rfl, rfl, rfl, rfl, (fun _ => ⟨_, rfl⟩), rfl, by decide⟩
def te124 : TE := ⟨.ar 6 123, 18, 144, List.replicate 18 (.int .i64 0)⟩
theorem teok124 : TEok Try.prog 124 te124 := ⟨⟨_, Try.underlying124, rfl⟩, Try.t124, _, (by kernel_rfl : Try.prog.info? 124 = some Try.t124), rfl, rfl, rfl, rfl, (fun _ => ⟨_, rfl⟩), rfl, by decide⟩
def te145 : TE := ⟨.st [(0, 3), (1, 3)], 2, 16, [.int .i64 0, .int .i64 0]⟩
theorem teok145 : TEok Try.prog 145 te145 := ⟨⟨_, Try.underlying145, ⟨_, rfl, rfl⟩⟩, Try.t145, _, (by kernel_rfl : Try.prog.info? 145 = some Try.t145), rfl, rfl, rfl, rfl, (fun _ => ⟨_, rfl⟩), rfl, by decide⟩
theorem eqt73 : EqT Try.prog 73 [(0, 9), (1, 9)] := ⟨by kernel_rfl, by kernel_rfl, by kernel_rfl, by kernel_rfl, by kernel_rfl⟩
def tab : Tab := [(3, te3), (4, te4), (5, te5), (9, te9), (22, te22), (24, te24), (25, te25), (26, te26), (27, te27), (28, te28), (30, te30), (31, te31), (32, te32), (34, te34), (44, te44), (45, te45), (55, te55), (57, te57), (59, te59), (62, te62), (69, te69), (71, te71), (73, te73), (76, te76), (78, te78), (82, te82), (85, te85), (88, te88), (98, te98), (105, te105), (106, te106), (107, te107), (111, te111), (115, te115), (117, te117), (123, te123), (124, te124), (145, te145)]
theorem T : TabOk Try.prog tab := (.cons teok3 (.cons teok4 (.cons teok5 (.cons teok9 (.cons teok22 (.cons teok24 (.cons teok25 (.cons teok26 (.cons teok27 (.cons teok28 (.cons teok30 (.cons teok31 (.cons teok32 (.cons teok34 (.cons teok44 (.cons teok45 (.cons teok55 (.cons teok57 (.cons teok59 (.cons teok62 (.cons teok69 (.cons teok71 (.cons teok73 (.cons teok76 (.cons teok78 (.cons teok82 (.cons teok85 (.cons teok88 (.cons teok98 (.cons teok105 (.cons teok106 (.cons teok107 (.cons teok111 (.cons teok115 (.cons teok117 (.cons teok123 (.cons teok124 (.cons teok145 TabOk.nil))))))))))))))))))))))))))))))))))))))
theorem kt3 : KeyT Try.prog 3 kI := KeyT.int Try.underlying3
theorem kt9 : KeyT Try.prog 9 kS := KeyT.str Try.underlying9
theorem kt73 : KeyT Try.prog 73 kApiApart := KeyT.st (kc := kApiApartc) T eqt73 (fun x y => by
  obtain ⟨x0, x1⟩ := x; obtain ⟨y0, y1⟩ := y
  show some ((seq x0 y0 && (seq x1 y1 && true))) = some (decide _)
  congr 1; rw [Bool.eq_iff_iff]; simp only [Bool.and_eq_true, beq_iff_eq, seqB_iff, decide_eq_true_eq, ApiApart.mk.injEq, and_true]
  constructor <;> intro h <;> simp_all) rfl (fun _ => rfl) (fun _ => rfl)
theorem zt3 : ZeroT Try.prog 3 veI 0 := ⟨(.int .i64 0), fun w => by kernel_rfl, fun _ _ => (.v _)⟩
theorem zt4 : ZeroT Try.prog 4 veB false := ⟨(.bool false), fun w => by kernel_rfl, fun _ _ => (.v _)⟩
theorem zt22 : ZeroT Try.prog 22 veLeI [] := ⟨(.slice none 0 0), fun w => by kernel_rfl, fun _ _ => (.slNil _ _ _)⟩
theorem mix : Try.prog.follows .mixedOrders = true := by kernel_rfl
theorem en8 : Entered Try.prog 8 := fun args w => Try.call8 args w
theorem en9 : Entered Try.prog 9 := fun args w => Try.call9 args w
theorem en10 : Entered Try.prog 10 := fun args w => Try.call10 args w
theorem en11 : Entered Try.prog 11 := fun args w => Try.call11 args w
theorem en12 : Entered Try.prog 12 := fun args w => Try.call12 args w
theorem en14 : Entered Try.prog 14 := fun args w => Try.call14 args w
theorem en15 : Entered Try.prog 15 := fun args w => Try.call15 args w
theorem en16 : Entered Try.prog 16 := fun args w => Try.call16 args w
theorem en19 : Entered Try.prog 19 := fun args w => Try.call19 args w
theorem en20 : Entered Try.prog 20 := fun args w => Try.call20 args w
theorem en21 : Entered Try.prog 21 := fun args w => Try.call21 args w
theorem en22 : Entered Try.prog 22 := fun args w => Try.call22 args w
theorem en23 : Entered Try.prog 23 := fun args w => Try.call23 args w
theorem en24 : Entered Try.prog 24 := fun args w => Try.call24 args w
theorem en25 : Entered Try.prog 25 := fun args w => Try.call25 args w
theorem en41 : Entered Try.prog 41 := fun args w => Try.call41 args w
theorem en42 : Entered Try.prog 42 := fun args w => Try.call42 args w
theorem en43 : Entered Try.prog 43 := fun args w => Try.call43 args w
theorem en44 : Entered Try.prog 44 := fun args w => Try.call44 args w
theorem en45 : Entered Try.prog 45 := fun args w => Try.call45 args w
theorem en47 : Entered Try.prog 47 := fun args w => Try.call47 args w
theorem en48 : Entered Try.prog 48 := fun args w => Try.call48 args w
theorem en49 : Entered Try.prog 49 := fun args w => Try.call49 args w
theorem en50 : Entered Try.prog 50 := fun args w => Try.call50 args w
theorem en51 : Entered Try.prog 51 := fun args w => Try.call51 args w
theorem en52 : Entered Try.prog 52 := fun args w => Try.call52 args w
theorem en53 : Entered Try.prog 53 := fun args w => Try.call53 args w
theorem en54 : Entered Try.prog 54 := fun args w => Try.call54 args w
theorem en55 : Entered Try.prog 55 := fun args w => Try.call55 args w
theorem en56 : Entered Try.prog 56 := fun args w => Try.call56 args w
theorem en57 : Entered Try.prog 57 := fun args w => Try.call57 args w
theorem en60 : Entered Try.prog 60 := fun args w => Try.call60 args w
theorem en61 : Entered Try.prog 61 := fun args w => Try.call61 args w
theorem en62 : Entered Try.prog 62 := fun args w => Try.call62 args w
theorem en63 : Entered Try.prog 63 := fun args w => Try.call63 args w
theorem en64 : Entered Try.prog 64 := fun args w => Try.call64 args w
theorem en65 : Entered Try.prog 65 := fun args w => Try.call65 args w
theorem en66 : Entered Try.prog 66 := fun args w => Try.call66 args w
theorem en67 : Entered Try.prog 67 := fun args w => Try.call67 args w
theorem en68 : Entered Try.prog 68 := fun args w => Try.call68 args w
theorem en69 : Entered Try.prog 69 := fun args w => Try.call69 args w
theorem en70 : Entered Try.prog 70 := fun args w => Try.call70 args w
theorem en71 : Entered Try.prog 71 := fun args w => Try.call71 args w
theorem en72 : Entered Try.prog 72 := fun args w => Try.call72 args w
theorem en73 : Entered Try.prog 73 := fun args w => Try.call73 args w
theorem en74 : Entered Try.prog 74 := fun args w => Try.call74 args w
theorem en75 : Entered Try.prog 75 := fun args w => Try.call75 args w
theorem en76 : Entered Try.prog 76 := fun args w => Try.call76 args w
theorem en77 : Entered Try.prog 77 := fun args w => Try.call77 args w
theorem en80 : Entered Try.prog 80 := fun args w => Try.call80 args w
theorem en81 : Entered Try.prog 81 := fun args w => Try.call81 args w
theorem en82 : Entered Try.prog 82 := fun args w => Try.call82 args w
theorem en83 : Entered Try.prog 83 := fun args w => Try.call83 args w
theorem en84 : Entered Try.prog 84 := fun args w => Try.call84 args w
theorem en85 : Entered Try.prog 85 := fun args w => Try.call85 args w
theorem en86 : Entered Try.prog 86 := fun args w => Try.call86 args w
theorem en87 : Entered Try.prog 87 := fun args w => Try.call87 args w
theorem en88 : Entered Try.prog 88 := fun args w => Try.call88 args w
theorem en89 : Entered Try.prog 89 := fun args w => Try.call89 args w
theorem en90 : Entered Try.prog 90 := fun args w => Try.call90 args w
theorem en91 : Entered Try.prog 91 := fun args w => Try.call91 args w
theorem en92 : Entered Try.prog 92 := fun args w => Try.call92 args w
theorem en93 : Entered Try.prog 93 := fun args w => Try.call93 args w
theorem en94 : Entered Try.prog 94 := fun args w => Try.call94 args w
theorem en95 : Entered Try.prog 95 := fun args w => Try.call95 args w
theorem en96 : Entered Try.prog 96 := fun args w => Try.call96 args w
theorem en97 : Entered Try.prog 97 := fun args w => Try.call97 args w
theorem en99 : Entered Try.prog 99 := fun args w => Try.call99 args w
theorem en100 : Entered Try.prog 100 := fun args w => Try.call100 args w
theorem en102 : Entered Try.prog 102 := fun args w => Try.call102 args w
theorem op3 : Opens Try.prog 3 eI I64 := Opens.i64 Try.underlying3
theorem op22 : Opens Try.prog 22 eLeI (OkL I64) := Opens.slice Try.underlying22 (n := 1) (by kernel_rfl) (by decide) op3
theorem op24 : Opens Try.prog 24 eApiFloor OkApiFloor := fun enc w held fuel cells d ps ht => by
  obtain ⟨fuel', hl, hf⟩ := Opens.st (N := 5) Try.underlying24 (by kernel_rfl) ht
  obtain ⟨x0, k0, l0, c0⟩ := Opens.fld op3 (n := 1) (off := 0) (by kernel_rfl) (by omega) (hf _ (List.mem_of_getElem? (i := 0) rfl))
  obtain ⟨x1, k1, l1, c1⟩ := Opens.fld op3 (n := 1) (off := 1) (by kernel_rfl) (by omega) (hf _ (List.mem_of_getElem? (i := 1) rfl))
  obtain ⟨x2, k2, l2, c2⟩ := Opens.fld op3 (n := 1) (off := 2) (by kernel_rfl) (by omega) (hf _ (List.mem_of_getElem? (i := 2) rfl))
  obtain ⟨x3, k3, l3, c3⟩ := Opens.fld op22 (n := 1) (off := 3) (by kernel_rfl) (by omega) (hf _ (List.mem_of_getElem? (i := 3) rfl))
  obtain ⟨x4, k4, l4, c4⟩ := Opens.fld op22 (n := 1) (off := 4) (by kernel_rfl) (by omega) (hf _ (List.mem_of_getElem? (i := 4) rfl))
  have hc : Cov w cells 0 (eApiFloor ⟨x0, x1, x2, x3, x4⟩) := (c0.app (c1.app (c2.app (c3.app (c4.app Cov.nil)))))
  exact ⟨⟨x0, x1, x2, x3, x4⟩, ⟨k0, k1, k2, k3, k4⟩, by rw [hl]; rfl, fun j A v hA hv => hc j A v hA (by simpa using hv)⟩
theorem op9 : Opens Try.prog 9 eS OkS := Opens.str Try.underlying9
theorem op59 : Opens Try.prog 59 eApiSpan OkApiSpan := fun enc w held fuel cells d ps ht => by
  obtain ⟨fuel', hl, hf⟩ := Opens.st (N := 2) Try.underlying59 (by kernel_rfl) ht
  obtain ⟨x0, k0, l0, c0⟩ := Opens.fld op3 (n := 1) (off := 0) (by kernel_rfl) (by omega) (hf _ (List.mem_of_getElem? (i := 0) rfl))
  obtain ⟨x1, k1, l1, c1⟩ := Opens.fld op3 (n := 1) (off := 1) (by kernel_rfl) (by omega) (hf _ (List.mem_of_getElem? (i := 1) rfl))
  have hc : Cov w cells 0 (eApiSpan ⟨x0, x1⟩) := (c0.app (c1.app Cov.nil))
  exact ⟨⟨x0, x1⟩, ⟨k0, k1⟩, by rw [hl]; rfl, fun j A v hA hv => hc j A v hA (by simpa using hv)⟩
theorem op55 : Opens Try.prog 55 eLeApiSpan (OkL OkApiSpan) := Opens.slice Try.underlying55 (n := 2) (by kernel_rfl) (by decide) op59
theorem op57 : Opens Try.prog 57 eApiZone OkApiZone := fun enc w held fuel cells d ps ht => by
  obtain ⟨fuel', hl, hf⟩ := Opens.st (N := 5) Try.underlying57 (by kernel_rfl) ht
  obtain ⟨x0, k0, l0, c0⟩ := Opens.fld op9 (n := 1) (off := 0) (by kernel_rfl) (by omega) (hf _ (List.mem_of_getElem? (i := 0) rfl))
  obtain ⟨x1, k1, l1, c1⟩ := Opens.fld op22 (n := 1) (off := 1) (by kernel_rfl) (by omega) (hf _ (List.mem_of_getElem? (i := 1) rfl))
  obtain ⟨x2, k2, l2, c2⟩ := Opens.fld op3 (n := 1) (off := 2) (by kernel_rfl) (by omega) (hf _ (List.mem_of_getElem? (i := 2) rfl))
  obtain ⟨x3, k3, l3, c3⟩ := Opens.fld op3 (n := 1) (off := 3) (by kernel_rfl) (by omega) (hf _ (List.mem_of_getElem? (i := 3) rfl))
  obtain ⟨x4, k4, l4, c4⟩ := Opens.fld op55 (n := 1) (off := 4) (by kernel_rfl) (by omega) (hf _ (List.mem_of_getElem? (i := 4) rfl))
  have hc : Cov w cells 0 (eApiZone ⟨x0, x1, x2, x3, x4⟩) := (c0.app (c1.app (c2.app (c3.app (c4.app Cov.nil)))))
  exact ⟨⟨x0, x1, x2, x3, x4⟩, ⟨k0, k1, k2, k3, k4⟩, by rw [hl]; rfl, fun j A v hA hv => hc j A v hA (by simpa using hv)⟩
theorem op25 : Opens Try.prog 25 eLeApiZone (OkL OkApiZone) := Opens.slice Try.underlying25 (n := 5) (by kernel_rfl) (by decide) op57
theorem op73 : Opens Try.prog 73 eApiApart OkApiApart := fun enc w held fuel cells d ps ht => by
  obtain ⟨fuel', hl, hf⟩ := Opens.st (N := 2) Try.underlying73 (by kernel_rfl) ht
  obtain ⟨x0, k0, l0, c0⟩ := Opens.fld op9 (n := 1) (off := 0) (by kernel_rfl) (by omega) (hf _ (List.mem_of_getElem? (i := 0) rfl))
  obtain ⟨x1, k1, l1, c1⟩ := Opens.fld op9 (n := 1) (off := 1) (by kernel_rfl) (by omega) (hf _ (List.mem_of_getElem? (i := 1) rfl))
  have hc : Cov w cells 0 (eApiApart ⟨x0, x1⟩) := (c0.app (c1.app Cov.nil))
  exact ⟨⟨x0, x1⟩, ⟨k0, k1⟩, by rw [hl]; rfl, fun j A v hA hv => hc j A v hA (by simpa using hv)⟩
theorem op26 : Opens Try.prog 26 eLeApiApart (OkL OkApiApart) := Opens.slice Try.underlying26 (n := 2) (by kernel_rfl) (by decide) op73
theorem op62 : Opens Try.prog 62 eApiShelf OkApiShelf := fun enc w held fuel cells d ps ht => by
  obtain ⟨fuel', hl, hf⟩ := Opens.st (N := 2) Try.underlying62 (by kernel_rfl) ht
  obtain ⟨x0, k0, l0, c0⟩ := Opens.fld op3 (n := 1) (off := 0) (by kernel_rfl) (by omega) (hf _ (List.mem_of_getElem? (i := 0) rfl))
  obtain ⟨x1, k1, l1, c1⟩ := Opens.fld op9 (n := 1) (off := 1) (by kernel_rfl) (by omega) (hf _ (List.mem_of_getElem? (i := 1) rfl))
  have hc : Cov w cells 0 (eApiShelf ⟨x0, x1⟩) := (c0.app (c1.app Cov.nil))
  exact ⟨⟨x0, x1⟩, ⟨k0, k1⟩, by rw [hl]; rfl, fun j A v hA hv => hc j A v hA (by simpa using hv)⟩
theorem op27 : Opens Try.prog 27 eLeApiShelf (OkL OkApiShelf) := Opens.slice Try.underlying27 (n := 2) (by kernel_rfl) (by decide) op62
theorem op98 : Opens Try.prog 98 eApiStart OkApiStart := fun enc w held fuel cells d ps ht => by
  obtain ⟨fuel', hl, hf⟩ := Opens.st (N := 2) Try.underlying98 (by kernel_rfl) ht
  obtain ⟨x0, k0, l0, c0⟩ := Opens.fld op3 (n := 1) (off := 0) (by kernel_rfl) (by omega) (hf _ (List.mem_of_getElem? (i := 0) rfl))
  obtain ⟨x1, k1, l1, c1⟩ := Opens.fld op3 (n := 1) (off := 1) (by kernel_rfl) (by omega) (hf _ (List.mem_of_getElem? (i := 1) rfl))
  have hc : Cov w cells 0 (eApiStart ⟨x0, x1⟩) := (c0.app (c1.app Cov.nil))
  exact ⟨⟨x0, x1⟩, ⟨k0, k1⟩, by rw [hl]; rfl, fun j A v hA hv => hc j A v hA (by simpa using hv)⟩
theorem op28 : Opens Try.prog 28 eLeApiStart (OkL OkApiStart) := Opens.slice Try.underlying28 (n := 2) (by kernel_rfl) (by decide) op98
theorem op30 : Opens Try.prog 30 eApiSite OkApiSite := fun enc w held fuel cells d ps ht => by
  obtain ⟨fuel', hl, hf⟩ := Opens.st (N := 9) Try.underlying30 (by kernel_rfl) ht
  obtain ⟨x0, k0, l0, c0⟩ := Opens.fld op24 (n := 5) (off := 0) (by kernel_rfl) (by omega) (hf _ (List.mem_of_getElem? (i := 0) rfl))
  obtain ⟨x1, k1, l1, c1⟩ := Opens.fld op25 (n := 1) (off := 5) (by kernel_rfl) (by omega) (hf _ (List.mem_of_getElem? (i := 1) rfl))
  obtain ⟨x2, k2, l2, c2⟩ := Opens.fld op26 (n := 1) (off := 6) (by kernel_rfl) (by omega) (hf _ (List.mem_of_getElem? (i := 2) rfl))
  obtain ⟨x3, k3, l3, c3⟩ := Opens.fld op27 (n := 1) (off := 7) (by kernel_rfl) (by omega) (hf _ (List.mem_of_getElem? (i := 3) rfl))
  obtain ⟨x4, k4, l4, c4⟩ := Opens.fld op28 (n := 1) (off := 8) (by kernel_rfl) (by omega) (hf _ (List.mem_of_getElem? (i := 4) rfl))
  have hc : Cov w cells 0 (eApiSite ⟨x0, x1, x2, x3, x4⟩) := (c0.app (c1.app (c2.app (c3.app (c4.app Cov.nil)))))
  exact ⟨⟨x0, x1, x2, x3, x4⟩, ⟨k0, k1, k2, k3, k4⟩, by rw [hl]; rfl, fun j A v hA hv => hc j A v hA (by simpa using hv)⟩
theorem itb96 (xs : List Int) (l : Nat) (J : Nat → World → Prop) (Jx : World → Prop) (S : Nat → Prop) (w W : World) (b off cap : Nat) (p0 : Option Addr) (hlen : xs.length ≤ 1099511627776) (hS : S b)
    (hY : ∀ m x W1, (bkw xs)[m]? = some x → J m W1 → YieldAt Fence.wide 1 Try.prog l #[.int .i64 x.1, .int .i64 x.2] W1 fun e W' => (e = .returned (.bool true) ∧ J (m + 1) W' ∧ KS S W1 W') ∨ (e = .returned (.bool false) ∧ Jx W'))
    (hc : W.cell? ⟨b, off, none⟩ = some (.slice p0 xs.length cap)) (hL : RowAt S W p0 xs) (h0 : J 0 W) :
    CallsIn Fence.wide 2 Try.prog 96 #[.func (.yield l) #[] #[], .pointer (some ⟨b, off, none⟩)] W fun e W' => (∃ v, e = .returned v) ∧ (J (bkw xs).length W' ∨ Jx W') := by
  refine callsIn_of_wp Try.func96 rfl trivial ?_ rfl
  simp only [Try.ntmps96, List.size_toArray, List.length_cons, List.length_nil, Nat.reduceAdd, Nat.reduceSub, Array.replicate_succ, Array.replicate_zero, List.push_toArray, List.append_toArray, List.nil_append, List.cons_append]
  gi_wp2
  gi_loopw [3] (fun p wr => ∃ (m : Nat), m ≤ xs.length ∧ p = .int .i64 ((m : Int) - 1) ∧ RowAt S wr p0 xs ∧ wr.cell? ⟨b, off, none⟩ = some (.slice p0 xs.length cap) ∧ J (xs.length - m) wr)
    (fun p wr => match p with | .int _ i => (i + 1).toNat | _ => 0)
  case atStart => exact ⟨xs.length, Nat.le_refl _, rfl, hL, hc, by simpa using h0⟩
  case round =>
    obtain ⟨m, hm, rfl, hl, hc, hJs⟩ := hrel
    cases m with
    | zero =>
      gi_wp2
      go_end0
      exact ⟨⟨_, rfl⟩, .inl (by rw [bkw_len]; exact hJs)⟩
    | succ m =>
      have hx : xs[m]? = some (xs.getD m 0) := by rw [List.getD_eq_getElem?_getD, List.getElem?_eq_getElem (by omega)]; rfl
      obtain ⟨b', off', rfl, hb, hv⟩ := hl m _ hx
      obtain ⟨fn, tmps, assign, body, hy, hR⟩ := hY (xs.length - (m + 1)) ((m : Int), xs.getD m 0) wr (bkw_get (by omega)) hJs
      have e1 : ((m + 1 : Nat) : Int) - 1 = (m : Int) := by omega
      rw [e1]
      generalize xs.getD m 0 = x0 at *
      gi_wp2
      refine hR.mono ?_
      rintro e W3 (⟨rfl, hJ3, hk3⟩ | ⟨rfl, hJx3⟩)
      · gi_wp2
        go_roundw
        case rel => exact ⟨m, by omega, rfl, hl.keep hk3, (hk3.cell hS).trans hc, by rw [show xs.length - m = xs.length - (m + 1) + 1 by omega]; exact hJ3⟩
        case measure => simp
      · gi_wp2
        refine bodyPost_ret (results_none rfl _ _ _) rfl ?_
        exact ⟨⟨_, rfl⟩, .inr hJx3⟩
theorem it96 (xs : List Int) (hlen : xs.length ≤ 1099511627776) : Iter Try.prog 96 [.rp [.sl 1 eI xs]] (fun x : Int × Int => [.int .i64 x.1, .int .i64 x.2]) (bkw xs) := fun w ok β lb hlb l J Jx W hW hY h0 => by
  obtain ⟨b, off, p, cap, rfl, hb, hc, hr⟩ := capRow hlb
  exact itb96 xs l J Jx ok w W b off cap p hlen hb hY ((hW.cell hb).trans hc) (hr.keep hW) h0

end Go.Proofs.Ytpcdibgbijddlaa
