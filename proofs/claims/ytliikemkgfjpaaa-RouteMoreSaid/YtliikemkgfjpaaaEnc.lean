/- The encodings of the data, and the types' table (written by a program of the prover). -/
import Derived.Test.YtliikemkgfjpaaaVc
import Derived.Test.YtliikemkgfjpaaaChecked
import Derived.KernelRfl
set_option maxRecDepth 100000
set_option maxHeartbeats 8000000
set_option linter.unusedVariables false
namespace Go.Proofs.Ytliikemkgfjpaaa
open Go Go.Taq
@[reducible] def eI (x : Int) : List AVal := [.i x]
@[reducible] def eApiSpan (x : ApiSpan) : List AVal := [.i x.From, .i x.To]
@[reducible] def eApiZone (x : ApiZone) : List AVal := [.v (.string x.Name), .sl 1 eI x.Cells, .i x.Speed, .i x.Keep, .sl 2 eApiSpan x.Shut]
@[reducible] def eApiApart (x : ApiApart) : List AVal := [.v (.string x.A), .v (.string x.B)]
@[reducible] def eApiShelf (x : ApiShelf) : List AVal := [.i x.Cell, .v (.string x.Class)]
@[reducible] def eApiStart (x : ApiStart) : List AVal := [.i x.Cell, .i x.Charge]
@[reducible] def eApiTaken (x : ApiTaken) : List AVal := [.i x.Cell, .i x.Span.From, .i x.Span.To]
@[reducible] def eApiSite (x : ApiSite) : List AVal := [.i x.Floor.W, .i x.Floor.H, .i x.Floor.D, .sl 1 eI x.Floor.Kind, .sl 1 eI x.Floor.Out, .sl 5 eApiZone x.Zones, .sl 2 eApiApart x.Aparts, .sl 2 eApiShelf x.Shelves, .sl 2 eApiStart x.Robots]
def kI (x : Int) : Value := .int .i64 x
def veOeApiSpan (x : List ApiSpan) : AVal := .os 2 eApiSpan x
@[reducible] def eLeApiSpan (x : List ApiSpan) : List AVal := [.sl 2 eApiSpan x]
def veLeApiSpan (x : List ApiSpan) : AVal := .sl 2 eApiSpan x
def kRouteStandc (x : RouteStand) : List Value := [.int .i64 x.cell, .int .i64 x.rest]
def kRouteStand (x : RouteStand) : Value := .agg (kRouteStandc x).toArray
def veB (x : Bool) : AVal := .b x
@[reducible] def eOMkRouteStandveB (x : List (RouteStand × Bool)) : List AVal := [.om kRouteStand veB x]
@[reducible] def eApiFloor (x : ApiFloor) : List AVal := [.i x.W, .i x.H, .i x.D, .sl 1 eI x.Kind, .sl 1 eI x.Out]
@[reducible] def eFloorStep (x : FloorStep) : List AVal := [.i x.x, .i x.y, .i x.z]
@[reducible] def eLeI (x : List Int) : List AVal := [.sl 1 eI x]
@[reducible] def eS (x : ByteArray) : List AVal := [.v (.string x)]
@[reducible] def eLeApiZone (x : List ApiZone) : List AVal := [.sl 5 eApiZone x]
@[reducible] def eLeApiApart (x : List ApiApart) : List AVal := [.sl 2 eApiApart x]
@[reducible] def eLeApiShelf (x : List ApiShelf) : List AVal := [.sl 2 eApiShelf x]
@[reducible] def eLeApiStart (x : List ApiStart) : List AVal := [.sl 2 eApiStart x]
@[reducible] def eLeApiTaken (x : List ApiTaken) : List AVal := [.sl 3 eApiTaken x]
def te3 : TE := ⟨.int .i64, 1, 8, [.int .i64 0]⟩
theorem teok3 : TEok Try.prog 3 te3 := ⟨⟨_, Try.underlying3, rfl⟩, Try.t3, _, (by kernel_rfl : Try.prog.info? 3 = some Try.t3), rfl, rfl, rfl, rfl, (fun h => by cases h), rfl, by decide⟩
def te4 : TE := ⟨.bool, 1, 1, [.bool false]⟩
theorem teok4 : TEok Try.prog 4 te4 := ⟨⟨_, Try.underlying4, rfl⟩, Try.t4, _, (by kernel_rfl : Try.prog.info? 4 = some Try.t4), rfl, rfl, rfl, rfl, (fun h => by cases h), rfl, by decide⟩
def te5 : TE := ⟨.int .u8, 1, 1, [.int .u8 0]⟩
theorem teok5 : TEok Try.prog 5 te5 := ⟨⟨_, Try.underlying5, rfl⟩, Try.t5, _, (by kernel_rfl : Try.prog.info? 5 = some Try.t5), rfl, rfl, rfl, rfl, (fun h => by cases h), rfl, by decide⟩
def te9 : TE := ⟨.str, 1, 16, [.string ByteArray.empty]⟩
theorem teok9 : TEok Try.prog 9 te9 := ⟨⟨_, Try.underlying9, rfl⟩, Try.t9, _, (by kernel_rfl : Try.prog.info? 9 = some Try.t9), rfl, rfl, rfl, rfl, (fun h => by cases h), rfl, by decide⟩
def te22 : TE := ⟨.sl 3, 1, 24, [.slice none 0 0]⟩
theorem teok22 : TEok Try.prog 22 te22 := ⟨⟨_, Try.underlying22, rfl⟩, Try.t22, _, (by kernel_rfl : Try.prog.info? 22 = some Try.t22), rfl, rfl, rfl, rfl, (fun h => by cases h), rfl, by decide⟩
def te24 : TE := ⟨.st [(0, 3), (1, 3), (2, 3), (3, 22), (4, 22)], 5, 72, [.int .i64 0, .int .i64 0, .int .i64 0, .slice none 0 0, .slice none 0 0]⟩
theorem teok24 : TEok Try.prog 24 te24 := ⟨⟨_, Try.underlying24, ⟨_, rfl, rfl⟩⟩, Try.t24, _, (by kernel_rfl : Try.prog.info? 24 = some Try.t24), rfl, rfl, rfl, rfl, (fun _ => ⟨_, rfl⟩), rfl, by decide⟩
def te25 : TE := ⟨.sl 53, 1, 24, [.slice none 0 0]⟩
theorem teok25 : TEok Try.prog 25 te25 := ⟨⟨_, Try.underlying25, rfl⟩, Try.t25, _, (by kernel_rfl : Try.prog.info? 25 = some Try.t25), rfl, rfl, rfl, rfl, (fun h => by cases h), rfl, by decide⟩
def te26 : TE := ⟨.sl 87, 1, 24, [.slice none 0 0]⟩
theorem teok26 : TEok Try.prog 26 te26 := ⟨⟨_, Try.underlying26, rfl⟩, Try.t26, _, (by kernel_rfl : Try.prog.info? 26 = some Try.t26), rfl, rfl, rfl, rfl, (fun h => by cases h), rfl, by decide⟩
def te27 : TE := ⟨.sl 89, 1, 24, [.slice none 0 0]⟩
theorem teok27 : TEok Try.prog 27 te27 := ⟨⟨_, Try.underlying27, rfl⟩, Try.t27, _, (by kernel_rfl : Try.prog.info? 27 = some Try.t27), rfl, rfl, rfl, rfl, (fun h => by cases h), rfl, by decide⟩
def te28 : TE := ⟨.sl 95, 1, 24, [.slice none 0 0]⟩
theorem teok28 : TEok Try.prog 28 te28 := ⟨⟨_, Try.underlying28, rfl⟩, Try.t28, _, (by kernel_rfl : Try.prog.info? 28 = some Try.t28), rfl, rfl, rfl, rfl, (fun h => by cases h), rfl, by decide⟩
def te30 : TE := ⟨.st [(0, 24), (5, 25), (6, 26), (7, 27), (8, 28)], 9, 168, [.int .i64 0, .int .i64 0, .int .i64 0, .slice none 0 0, .slice none 0 0, .slice none 0 0, .slice none 0 0, .slice none 0 0, .slice none 0 0]⟩
theorem teok30 : TEok Try.prog 30 te30 := ⟨⟨_, Try.underlying30, ⟨_, rfl, rfl⟩⟩, Try.t30, _, (by kernel_rfl : Try.prog.info? 30 = some Try.t30), rfl, rfl, rfl, rfl, (fun _ => ⟨_, rfl⟩), rfl, by decide⟩
def te31 : TE := ⟨.sl 42, 1, 24, [.slice none 0 0]⟩
theorem teok31 : TEok Try.prog 31 te31 := ⟨⟨_, Try.underlying31, rfl⟩, Try.t31, _, (by kernel_rfl : Try.prog.info? 31 = some Try.t31), rfl, rfl, rfl, rfl, (fun h => by cases h), rfl, by decide⟩
def te34 : TE := ⟨.int .i64, 1, 8, [.int .i64 0]⟩
theorem teok34 : TEok Try.prog 34 te34 := ⟨⟨_, Try.underlying34, rfl⟩, Try.t34, _, (by kernel_rfl : Try.prog.info? 34 = some Try.t34), rfl, rfl, rfl, rfl, (fun h => by cases h), rfl, by decide⟩
def te40 : TE := ⟨.st [(0, 3), (1, 3)], 2, 16, [.int .i64 0, .int .i64 0]⟩
theorem teok40 : TEok Try.prog 40 te40 := ⟨⟨_, Try.underlying40, ⟨_, rfl, rfl⟩⟩, Try.t40, _, (by kernel_rfl : Try.prog.info? 40 = some Try.t40), rfl, rfl, rfl, rfl, (fun _ => ⟨_, rfl⟩), rfl, by decide⟩
def te42 : TE := ⟨.st [(0, 3), (1, 40)], 3, 24, [.int .i64 0, .int .i64 0, .int .i64 0]⟩
theorem teok42 : TEok Try.prog 42 te42 := ⟨⟨_, Try.underlying42, ⟨_, rfl, rfl⟩⟩, Try.t42, _, (by kernel_rfl : Try.prog.info? 42 = some Try.t42), rfl, rfl, rfl, rfl, (fun _ => ⟨_, rfl⟩), rfl, by decide⟩
def te51 : TE := ⟨.sl 40, 1, 24, [.slice none 0 0]⟩
theorem teok51 : TEok Try.prog 51 te51 := ⟨⟨_, Try.underlying51, rfl⟩, Try.t51, _, (by kernel_rfl : Try.prog.info? 51 = some Try.t51), rfl, rfl, rfl, rfl, (fun h => by cases h), rfl, by decide⟩
def te53 : TE := ⟨.st [(0, 9), (1, 22), (2, 3), (3, 3), (4, 51)], 5, 80, [.string ByteArray.empty, .slice none 0 0, .int .i64 0, .int .i64 0, .slice none 0 0]⟩
theorem teok53 : TEok Try.prog 53 te53 := ⟨⟨_, Try.underlying53, ⟨_, rfl, rfl⟩⟩, Try.t53, _, (by kernel_rfl : Try.prog.info? 53 = some Try.t53), rfl, rfl, rfl, rfl, (fun _ => ⟨_, rfl⟩), rfl, by decide⟩
def te57 : TE := ⟨.mp 3 51, 1, 8, [.map none]⟩
theorem teok57 : TEok Try.prog 57 te57 := ⟨⟨_, Try.underlying57, rfl⟩, Try.t57, _, (by kernel_rfl : Try.prog.info? 57 = some Try.t57), rfl, rfl, rfl, rfl, (fun h => by cases h), rfl, by decide⟩
def te59 : TE := ⟨.st [(0, 30), (9, 3), (10, 22), (11, 57)], 12, 208, [.int .i64 0, .int .i64 0, .int .i64 0, .slice none 0 0, .slice none 0 0, .slice none 0 0, .slice none 0 0, .slice none 0 0, .slice none 0 0, .int .i64 0, .slice none 0 0, .map none]⟩
theorem teok59 : TEok Try.prog 59 te59 := ⟨⟨_, Try.underlying59, ⟨_, rfl, rfl⟩⟩, Try.t59, _, (by kernel_rfl : Try.prog.info? 59 = some Try.t59), rfl, rfl, rfl, rfl, (fun _ => ⟨_, rfl⟩), rfl, by decide⟩
def te61 : TE := ⟨.sl 64, 1, 24, [.slice none 0 0]⟩
theorem teok61 : TEok Try.prog 61 te61 := ⟨⟨_, Try.underlying61, rfl⟩, Try.t61, _, (by kernel_rfl : Try.prog.info? 61 = some Try.t61), rfl, rfl, rfl, rfl, (fun h => by cases h), rfl, by decide⟩
def te64 : TE := ⟨.mp 66 4, 1, 8, [.map none]⟩
theorem teok64 : TEok Try.prog 64 te64 := ⟨⟨_, Try.underlying64, rfl⟩, Try.t64, _, (by kernel_rfl : Try.prog.info? 64 = some Try.t64), rfl, rfl, rfl, rfl, (fun h => by cases h), rfl, by decide⟩
def te66 : TE := ⟨.st [(0, 3), (1, 3)], 2, 16, [.int .i64 0, .int .i64 0]⟩
theorem teok66 : TEok Try.prog 66 te66 := ⟨⟨_, Try.underlying66, ⟨_, rfl, rfl⟩⟩, Try.t66, _, (by kernel_rfl : Try.prog.info? 66 = some Try.t66), rfl, rfl, rfl, rfl, (fun _ => ⟨_, rfl⟩), rfl, by decide⟩
def te69 : TE := ⟨.fn, 1, 8, [.nilFunc]⟩
theorem teok69 : TEok Try.prog 69 te69 := ⟨⟨_, Try.underlying69, ⟨_, _, _, rfl⟩⟩, Try.t69, _, (by kernel_rfl : Try.prog.info? 69 = some Try.t69), rfl, rfl, rfl, rfl, (fun h => by cases h), rfl, by decide⟩
def te87 : TE := ⟨.st [(0, 9), (1, 9)], 2, 32, [.string ByteArray.empty, .string ByteArray.empty]⟩
theorem teok87 : TEok Try.prog 87 te87 := ⟨⟨_, Try.underlying87, ⟨_, rfl, rfl⟩⟩, Try.t87, _, (by kernel_rfl : Try.prog.info? 87 = some Try.t87), rfl, rfl, rfl, rfl, (fun _ => ⟨_, rfl⟩), rfl, by decide⟩
def te89 : TE := ⟨.st [(0, 3), (1, 9)], 2, 24, [.int .i64 0, .string ByteArray.empty]⟩
theorem teok89 : TEok Try.prog 89 te89 := ⟨⟨_, Try.underlying89, ⟨_, rfl, rfl⟩⟩, Try.t89, _, (by kernel_rfl : Try.prog.info? 89 = some Try.t89), rfl, rfl, rfl, rfl, (fun _ => ⟨_, rfl⟩), rfl, by decide⟩
def te95 : TE := ⟨.st [(0, 3), (1, 3)], 2, 16, [.int .i64 0, .int .i64 0]⟩
theorem teok95 : TEok Try.prog 95 te95 := ⟨⟨_, Try.underlying95, ⟨_, rfl, rfl⟩⟩, Try.t95, _, (by kernel_rfl : Try.prog.info? 95 = some Try.t95), rfl, rfl, rfl, rfl, (fun _ => ⟨_, rfl⟩), rfl, by decide⟩
def te102 : TE := ⟨.fn, 1, 8, [.nilFunc]⟩
theorem teok102 : TEok Try.prog 102 te102 := ⟨⟨_, Try.underlying102, ⟨_, _, _, rfl⟩⟩, Try.t102, _, (by kernel_rfl : Try.prog.info? 102 = some Try.t102), rfl, rfl, rfl, rfl, (fun h => by cases h), rfl, by decide⟩
def te103 : TE := ⟨.int .u64, 1, 8, [.int .u64 0]⟩
theorem teok103 : TEok Try.prog 103 te103 := ⟨⟨_, Try.underlying103, rfl⟩, Try.t103, _, (by kernel_rfl : Try.prog.info? 103 = some Try.t103), rfl, rfl, rfl, rfl, (fun h => by cases h), rfl, by decide⟩
def te108 : TE := ⟨.st [(0, 3), (1, 3), (2, 3)], 3, 24, [.int .i64 0, .int .i64 0, .int .i64 0]⟩
theorem teok108 : TEok Try.prog 108 te108 := ⟨⟨_, Try.underlying108, ⟨_, rfl, rfl⟩⟩, Try.t108, _, (by kernel_rfl : Try.prog.info? 108 = some Try.t108), rfl, rfl, rfl, rfl, (fun _ => ⟨_, rfl⟩), rfl, by decide⟩
def te109 : TE := ⟨.ar 6 108, 18, 144, List.replicate 18 (.int .i64 0)⟩
theorem teok109 : TEok Try.prog 109 te109 := ⟨⟨_, Try.underlying109, rfl⟩, Try.t109, _, (by kernel_rfl : Try.prog.info? 109 = some Try.t109), rfl, rfl, rfl, rfl, (fun _ => ⟨_, rfl⟩), rfl, by decide⟩
def te120 : TE := ⟨.fn, 1, 8, [.nilFunc]⟩
theorem teok120 : TEok Try.prog 120 te120 := ⟨⟨_, Try.underlying120, ⟨_, _, _, rfl⟩⟩, Try.t120, _, (by kernel_rfl : Try.prog.info? 120 = some Try.t120), rfl, rfl, rfl, rfl, (fun h => by cases h), rfl, by decide⟩
theorem eqt66 : EqT Try.prog 66 [(0, 3), (1, 3)] := ⟨by kernel_rfl, by kernel_rfl, by kernel_rfl, by kernel_rfl, by kernel_rfl⟩
def tab : Tab := [(3, te3), (4, te4), (5, te5), (9, te9), (22, te22), (24, te24), (25, te25), (26, te26), (27, te27), (28, te28), (30, te30), (31, te31), (34, te34), (40, te40), (42, te42), (51, te51), (53, te53), (57, te57), (59, te59), (61, te61), (64, te64), (66, te66), (69, te69), (87, te87), (89, te89), (95, te95), (102, te102), (103, te103), (108, te108), (109, te109), (120, te120)]
theorem T : TabOk Try.prog tab := (.cons teok3 (.cons teok4 (.cons teok5 (.cons teok9 (.cons teok22 (.cons teok24 (.cons teok25 (.cons teok26 (.cons teok27 (.cons teok28 (.cons teok30 (.cons teok31 (.cons teok34 (.cons teok40 (.cons teok42 (.cons teok51 (.cons teok53 (.cons teok57 (.cons teok59 (.cons teok61 (.cons teok64 (.cons teok66 (.cons teok69 (.cons teok87 (.cons teok89 (.cons teok95 (.cons teok102 (.cons teok103 (.cons teok108 (.cons teok109 (.cons teok120 TabOk.nil)))))))))))))))))))))))))))))))
theorem kt3 : KeyT Try.prog 3 kI := KeyT.int Try.underlying3
theorem kt66 : KeyT Try.prog 66 kRouteStand := KeyT.st (kc := kRouteStandc) T eqt66 (fun x y => by
  obtain ⟨x0, x1⟩ := x; obtain ⟨y0, y1⟩ := y
  show some (((x0 == y0) && ((x1 == y1) && true))) = some (decide _)
  congr 1; rw [Bool.eq_iff_iff]; simp only [Bool.and_eq_true, beq_iff_eq, decide_eq_true_eq, RouteStand.mk.injEq, and_true]
  constructor <;> intro h <;> simp_all) rfl (fun _ => rfl) (fun _ => rfl)
theorem zt4 : ZeroT Try.prog 4 veB false := ⟨(.bool false), fun w => by kernel_rfl, fun _ _ => (.v _)⟩
theorem zt51 : ZeroT Try.prog 51 veLeApiSpan [] := ⟨(.slice none 0 0), fun w => by kernel_rfl, fun _ _ => (.slNil _ _ _)⟩
theorem mix : Try.prog.follows .mixedOrders = true := by kernel_rfl
theorem en7 : Entered Try.prog 7 := fun args w => Try.call7 args w
theorem en8 : Entered Try.prog 8 := fun args w => Try.call8 args w
theorem en9 : Entered Try.prog 9 := fun args w => Try.call9 args w
theorem en10 : Entered Try.prog 10 := fun args w => Try.call10 args w
theorem en11 : Entered Try.prog 11 := fun args w => Try.call11 args w
theorem en17 : Entered Try.prog 17 := fun args w => Try.call17 args w
theorem en18 : Entered Try.prog 18 := fun args w => Try.call18 args w
theorem en19 : Entered Try.prog 19 := fun args w => Try.call19 args w
theorem en20 : Entered Try.prog 20 := fun args w => Try.call20 args w
theorem en21 : Entered Try.prog 21 := fun args w => Try.call21 args w
theorem en22 : Entered Try.prog 22 := fun args w => Try.call22 args w
theorem en23 : Entered Try.prog 23 := fun args w => Try.call23 args w
theorem en24 : Entered Try.prog 24 := fun args w => Try.call24 args w
theorem en25 : Entered Try.prog 25 := fun args w => Try.call25 args w
theorem en26 : Entered Try.prog 26 := fun args w => Try.call26 args w
theorem en27 : Entered Try.prog 27 := fun args w => Try.call27 args w
theorem en28 : Entered Try.prog 28 := fun args w => Try.call28 args w
theorem en31 : Entered Try.prog 31 := fun args w => Try.call31 args w
theorem en34 : Entered Try.prog 34 := fun args w => Try.call34 args w
theorem en37 : Entered Try.prog 37 := fun args w => Try.call37 args w
theorem en38 : Entered Try.prog 38 := fun args w => Try.call38 args w
theorem en39 : Entered Try.prog 39 := fun args w => Try.call39 args w
theorem en40 : Entered Try.prog 40 := fun args w => Try.call40 args w
theorem en41 : Entered Try.prog 41 := fun args w => Try.call41 args w
theorem en42 : Entered Try.prog 42 := fun args w => Try.call42 args w
theorem en43 : Entered Try.prog 43 := fun args w => Try.call43 args w
theorem en44 : Entered Try.prog 44 := fun args w => Try.call44 args w
theorem en45 : Entered Try.prog 45 := fun args w => Try.call45 args w
theorem en46 : Entered Try.prog 46 := fun args w => Try.call46 args w
theorem en47 : Entered Try.prog 47 := fun args w => Try.call47 args w
theorem en48 : Entered Try.prog 48 := fun args w => Try.call48 args w
theorem en49 : Entered Try.prog 49 := fun args w => Try.call49 args w
theorem en50 : Entered Try.prog 50 := fun args w => Try.call50 args w
theorem en51 : Entered Try.prog 51 := fun args w => Try.call51 args w
theorem en52 : Entered Try.prog 52 := fun args w => Try.call52 args w
theorem en53 : Entered Try.prog 53 := fun args w => Try.call53 args w
theorem en54 : Entered Try.prog 54 := fun args w => Try.call54 args w
theorem en55 : Entered Try.prog 55 := fun args w => Try.call55 args w
theorem en58 : Entered Try.prog 58 := fun args w => Try.call58 args w
theorem en59 : Entered Try.prog 59 := fun args w => Try.call59 args w
theorem en60 : Entered Try.prog 60 := fun args w => Try.call60 args w
theorem en62 : Entered Try.prog 62 := fun args w => Try.call62 args w
theorem en63 : Entered Try.prog 63 := fun args w => Try.call63 args w
theorem en64 : Entered Try.prog 64 := fun args w => Try.call64 args w
theorem en65 : Entered Try.prog 65 := fun args w => Try.call65 args w
theorem en66 : Entered Try.prog 66 := fun args w => Try.call66 args w
theorem en67 : Entered Try.prog 67 := fun args w => Try.call67 args w
theorem en68 : Entered Try.prog 68 := fun args w => Try.call68 args w
theorem en69 : Entered Try.prog 69 := fun args w => Try.call69 args w
theorem en70 : Entered Try.prog 70 := fun args w => Try.call70 args w
theorem en71 : Entered Try.prog 71 := fun args w => Try.call71 args w
theorem en72 : Entered Try.prog 72 := fun args w => Try.call72 args w
theorem en73 : Entered Try.prog 73 := fun args w => Try.call73 args w
theorem en75 : Entered Try.prog 75 := fun args w => Try.call75 args w
theorem en76 : Entered Try.prog 76 := fun args w => Try.call76 args w
theorem en77 : Entered Try.prog 77 := fun args w => Try.call77 args w
theorem en78 : Entered Try.prog 78 := fun args w => Try.call78 args w
theorem en79 : Entered Try.prog 79 := fun args w => Try.call79 args w
theorem en81 : Entered Try.prog 81 := fun args w => Try.call81 args w
theorem en82 : Entered Try.prog 82 := fun args w => Try.call82 args w
theorem en83 : Entered Try.prog 83 := fun args w => Try.call83 args w
theorem op3 : Opens Try.prog 3 eI I64 := Opens.i64 Try.underlying3
theorem op22 : Opens Try.prog 22 eLeI (OkL I64) := Opens.slice Try.underlying22 (n := 1) (by kernel_rfl) (by decide) op3
theorem op24 : Opens Try.prog 24 eApiFloor OkApiFloor := fun enc w held fuel cells d ps ht => by
  obtain ⟨fuel', hl, hf⟩ := Opens.st (N := 5) Try.underlying24 (by kernel_rfl) ht
  obtain ⟨x0, k0, l0, c0⟩ := Opens.fld op3 (n := 1) (off := 0) (by kernel_rfl) (by omega) (hf _ (List.mem_of_getElem? (i := 0) rfl))
  obtain ⟨x1, k1, l1, c1⟩ := Opens.fld op3 (n := 1) (off := 1) (by kernel_rfl) (by omega) (hf _ (List.mem_of_getElem? (i := 1) rfl))
  obtain ⟨x2, k2, l2, c2⟩ := Opens.fld op3 (n := 1) (off := 2) (by kernel_rfl) (by omega) (hf _ (List.mem_of_getElem? (i := 2) rfl))
  obtain ⟨x3, k3, l3, c3⟩ := Opens.fld op22 (n := 1) (off := 3) (by kernel_rfl) (by omega) (hf _ (List.mem_of_getElem? (i := 3) rfl))
  obtain ⟨x4, k4, l4, c4⟩ := Opens.fld op22 (n := 1) (off := 4) (by kernel_rfl) (by omega) (hf _ (List.mem_of_getElem? (i := 4) rfl))
  have hc : Cov w cells 0 (eApiFloor ⟨x0, x1, x2, x3, x4⟩) := (c0.app (c1.app (c2.app (c3.app (c4.app Cov.nil)))))
  exact ⟨⟨x0, x1, x2, x3, x4⟩, ⟨k0, k1, k2, k3, k4⟩, by rw [hl]; rfl, fun j A v hA hv => hc j A v hA (by simpa using hv)⟩
theorem op9 : Opens Try.prog 9 eS OkS := Opens.str Try.underlying9
theorem op40 : Opens Try.prog 40 eApiSpan OkApiSpan := fun enc w held fuel cells d ps ht => by
  obtain ⟨fuel', hl, hf⟩ := Opens.st (N := 2) Try.underlying40 (by kernel_rfl) ht
  obtain ⟨x0, k0, l0, c0⟩ := Opens.fld op3 (n := 1) (off := 0) (by kernel_rfl) (by omega) (hf _ (List.mem_of_getElem? (i := 0) rfl))
  obtain ⟨x1, k1, l1, c1⟩ := Opens.fld op3 (n := 1) (off := 1) (by kernel_rfl) (by omega) (hf _ (List.mem_of_getElem? (i := 1) rfl))
  have hc : Cov w cells 0 (eApiSpan ⟨x0, x1⟩) := (c0.app (c1.app Cov.nil))
  exact ⟨⟨x0, x1⟩, ⟨k0, k1⟩, by rw [hl]; rfl, fun j A v hA hv => hc j A v hA (by simpa using hv)⟩
theorem op51 : Opens Try.prog 51 eLeApiSpan (OkL OkApiSpan) := Opens.slice Try.underlying51 (n := 2) (by kernel_rfl) (by decide) op40
theorem op53 : Opens Try.prog 53 eApiZone OkApiZone := fun enc w held fuel cells d ps ht => by
  obtain ⟨fuel', hl, hf⟩ := Opens.st (N := 5) Try.underlying53 (by kernel_rfl) ht
  obtain ⟨x0, k0, l0, c0⟩ := Opens.fld op9 (n := 1) (off := 0) (by kernel_rfl) (by omega) (hf _ (List.mem_of_getElem? (i := 0) rfl))
  obtain ⟨x1, k1, l1, c1⟩ := Opens.fld op22 (n := 1) (off := 1) (by kernel_rfl) (by omega) (hf _ (List.mem_of_getElem? (i := 1) rfl))
  obtain ⟨x2, k2, l2, c2⟩ := Opens.fld op3 (n := 1) (off := 2) (by kernel_rfl) (by omega) (hf _ (List.mem_of_getElem? (i := 2) rfl))
  obtain ⟨x3, k3, l3, c3⟩ := Opens.fld op3 (n := 1) (off := 3) (by kernel_rfl) (by omega) (hf _ (List.mem_of_getElem? (i := 3) rfl))
  obtain ⟨x4, k4, l4, c4⟩ := Opens.fld op51 (n := 1) (off := 4) (by kernel_rfl) (by omega) (hf _ (List.mem_of_getElem? (i := 4) rfl))
  have hc : Cov w cells 0 (eApiZone ⟨x0, x1, x2, x3, x4⟩) := (c0.app (c1.app (c2.app (c3.app (c4.app Cov.nil)))))
  exact ⟨⟨x0, x1, x2, x3, x4⟩, ⟨k0, k1, k2, k3, k4⟩, by rw [hl]; rfl, fun j A v hA hv => hc j A v hA (by simpa using hv)⟩
theorem op25 : Opens Try.prog 25 eLeApiZone (OkL OkApiZone) := Opens.slice Try.underlying25 (n := 5) (by kernel_rfl) (by decide) op53
theorem op87 : Opens Try.prog 87 eApiApart OkApiApart := fun enc w held fuel cells d ps ht => by
  obtain ⟨fuel', hl, hf⟩ := Opens.st (N := 2) Try.underlying87 (by kernel_rfl) ht
  obtain ⟨x0, k0, l0, c0⟩ := Opens.fld op9 (n := 1) (off := 0) (by kernel_rfl) (by omega) (hf _ (List.mem_of_getElem? (i := 0) rfl))
  obtain ⟨x1, k1, l1, c1⟩ := Opens.fld op9 (n := 1) (off := 1) (by kernel_rfl) (by omega) (hf _ (List.mem_of_getElem? (i := 1) rfl))
  have hc : Cov w cells 0 (eApiApart ⟨x0, x1⟩) := (c0.app (c1.app Cov.nil))
  exact ⟨⟨x0, x1⟩, ⟨k0, k1⟩, by rw [hl]; rfl, fun j A v hA hv => hc j A v hA (by simpa using hv)⟩
theorem op26 : Opens Try.prog 26 eLeApiApart (OkL OkApiApart) := Opens.slice Try.underlying26 (n := 2) (by kernel_rfl) (by decide) op87
theorem op89 : Opens Try.prog 89 eApiShelf OkApiShelf := fun enc w held fuel cells d ps ht => by
  obtain ⟨fuel', hl, hf⟩ := Opens.st (N := 2) Try.underlying89 (by kernel_rfl) ht
  obtain ⟨x0, k0, l0, c0⟩ := Opens.fld op3 (n := 1) (off := 0) (by kernel_rfl) (by omega) (hf _ (List.mem_of_getElem? (i := 0) rfl))
  obtain ⟨x1, k1, l1, c1⟩ := Opens.fld op9 (n := 1) (off := 1) (by kernel_rfl) (by omega) (hf _ (List.mem_of_getElem? (i := 1) rfl))
  have hc : Cov w cells 0 (eApiShelf ⟨x0, x1⟩) := (c0.app (c1.app Cov.nil))
  exact ⟨⟨x0, x1⟩, ⟨k0, k1⟩, by rw [hl]; rfl, fun j A v hA hv => hc j A v hA (by simpa using hv)⟩
theorem op27 : Opens Try.prog 27 eLeApiShelf (OkL OkApiShelf) := Opens.slice Try.underlying27 (n := 2) (by kernel_rfl) (by decide) op89
theorem op95 : Opens Try.prog 95 eApiStart OkApiStart := fun enc w held fuel cells d ps ht => by
  obtain ⟨fuel', hl, hf⟩ := Opens.st (N := 2) Try.underlying95 (by kernel_rfl) ht
  obtain ⟨x0, k0, l0, c0⟩ := Opens.fld op3 (n := 1) (off := 0) (by kernel_rfl) (by omega) (hf _ (List.mem_of_getElem? (i := 0) rfl))
  obtain ⟨x1, k1, l1, c1⟩ := Opens.fld op3 (n := 1) (off := 1) (by kernel_rfl) (by omega) (hf _ (List.mem_of_getElem? (i := 1) rfl))
  have hc : Cov w cells 0 (eApiStart ⟨x0, x1⟩) := (c0.app (c1.app Cov.nil))
  exact ⟨⟨x0, x1⟩, ⟨k0, k1⟩, by rw [hl]; rfl, fun j A v hA hv => hc j A v hA (by simpa using hv)⟩
theorem op28 : Opens Try.prog 28 eLeApiStart (OkL OkApiStart) := Opens.slice Try.underlying28 (n := 2) (by kernel_rfl) (by decide) op95
theorem op30 : Opens Try.prog 30 eApiSite OkApiSite := fun enc w held fuel cells d ps ht => by
  obtain ⟨fuel', hl, hf⟩ := Opens.st (N := 9) Try.underlying30 (by kernel_rfl) ht
  obtain ⟨x0, k0, l0, c0⟩ := Opens.fld op24 (n := 5) (off := 0) (by kernel_rfl) (by omega) (hf _ (List.mem_of_getElem? (i := 0) rfl))
  obtain ⟨x1, k1, l1, c1⟩ := Opens.fld op25 (n := 1) (off := 5) (by kernel_rfl) (by omega) (hf _ (List.mem_of_getElem? (i := 1) rfl))
  obtain ⟨x2, k2, l2, c2⟩ := Opens.fld op26 (n := 1) (off := 6) (by kernel_rfl) (by omega) (hf _ (List.mem_of_getElem? (i := 2) rfl))
  obtain ⟨x3, k3, l3, c3⟩ := Opens.fld op27 (n := 1) (off := 7) (by kernel_rfl) (by omega) (hf _ (List.mem_of_getElem? (i := 3) rfl))
  obtain ⟨x4, k4, l4, c4⟩ := Opens.fld op28 (n := 1) (off := 8) (by kernel_rfl) (by omega) (hf _ (List.mem_of_getElem? (i := 4) rfl))
  have hc : Cov w cells 0 (eApiSite ⟨x0, x1, x2, x3, x4⟩) := (c0.app (c1.app (c2.app (c3.app (c4.app Cov.nil)))))
  exact ⟨⟨x0, x1, x2, x3, x4⟩, ⟨k0, k1, k2, k3, k4⟩, by rw [hl]; rfl, fun j A v hA hv => hc j A v hA (by simpa using hv)⟩
theorem op42 : Opens Try.prog 42 eApiTaken OkApiTaken := fun enc w held fuel cells d ps ht => by
  obtain ⟨fuel', hl, hf⟩ := Opens.st (N := 3) Try.underlying42 (by kernel_rfl) ht
  obtain ⟨x0, k0, l0, c0⟩ := Opens.fld op3 (n := 1) (off := 0) (by kernel_rfl) (by omega) (hf _ (List.mem_of_getElem? (i := 0) rfl))
  obtain ⟨x1, k1, l1, c1⟩ := Opens.fld op40 (n := 2) (off := 1) (by kernel_rfl) (by omega) (hf _ (List.mem_of_getElem? (i := 1) rfl))
  have hc : Cov w cells 0 (eApiTaken ⟨x0, x1⟩) := (c0.app (c1.app Cov.nil))
  exact ⟨⟨x0, x1⟩, ⟨k0, k1⟩, by rw [hl]; rfl, fun j A v hA hv => hc j A v hA (by simpa using hv)⟩
theorem op31 : Opens Try.prog 31 eLeApiTaken (OkL OkApiTaken) := Opens.slice Try.underlying31 (n := 3) (by kernel_rfl) (by decide) op42
end Go.Proofs.Ytliikemkgfjpaaa
