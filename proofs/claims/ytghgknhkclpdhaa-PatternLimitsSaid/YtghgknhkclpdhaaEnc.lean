/- The encodings of the data, and the types' table (written by a program of the prover). -/
import Derived.Test.YtghgknhkclpdhaaLibZN
import Derived.Test.YtghgknhkclpdhaaLibZX
import Derived.Test.YtghgknhkclpdhaaVc
import Derived.Test.YtghgknhkclpdhaaChecked
import Derived.Test.YtghgknhkclpdhaaLibZB
import Derived.Test.YtghgknhkclpdhaaLibZY
import Derived.Test.YtghgknhkclpdhaaLibZS
import Derived.Test.YtghgknhkclpdhaaLibZT
import Derived.KernelRfl
set_option maxRecDepth 100000
set_option maxHeartbeats 8000000
set_option linter.unusedVariables false
set_option linter.unusedSimpArgs false
namespace Go.Proofs.Ytghgknhkclpdhaa
open Go Go.Taq
@[reducible] def eI (x : Int) : List AVal := [.i x]
@[reducible] def eApiFloor (x : ApiFloor) : List AVal := [.i x.W, .i x.H, .i x.D, .sl 1 eI x.Kind, .sl 1 eI x.Out]
@[reducible] def eB (x : Bool) : List AVal := [.b x]
@[reducible] def eFloorStep (x : FloorStep) : List AVal := [.i x.x, .i x.y, .i x.z]
@[reducible] def eApiShift (x : ApiShift) : List AVal := [.i x.From, .i x.To]
@[reducible] def eOeI (x : List Int) : List AVal := [.os 1 eI x]
@[reducible] def eLeI (x : List Int) : List AVal := [.sl 1 eI x]
def kI (x : Int) : Value := .int .i64 x
def veI (x : Int) : AVal := .i x
def te3 : TE := ⟨.int .i64, 1, 8, [.int .i64 0]⟩
theorem teok3 : TEok Try.prog 3 te3 := ⟨⟨_, Try.underlying3, rfl⟩, Try.t3, _, (by kernel_rfl : Try.prog.info? 3 = some Try.t3), rfl, rfl, rfl, rfl, (fun h => by cases h), rfl, by decide⟩
def te4 : TE := ⟨.bool, 1, 1, [.bool false]⟩
theorem teok4 : TEok Try.prog 4 te4 := ⟨⟨_, Try.underlying4, rfl⟩, Try.t4, _, (by kernel_rfl : Try.prog.info? 4 = some Try.t4), rfl, rfl, rfl, rfl, (fun h => by cases h), rfl, by decide⟩
def te22 : TE := ⟨.sl 3, 1, 24, [.slice none 0 0]⟩
theorem teok22 : TEok Try.prog 22 te22 := ⟨⟨_, Try.underlying22, rfl⟩, Try.t22, _, (by kernel_rfl : Try.prog.info? 22 = some Try.t22), rfl, rfl, rfl, rfl, (fun h => by cases h), rfl, by decide⟩
def te24 : TE := ⟨.st [(0, 3), (1, 3), (2, 3), (3, 22), (4, 22)], 5, 72, [.int .i64 0, .int .i64 0, .int .i64 0, .slice none 0 0, .slice none 0 0]⟩
theorem teok24 : TEok Try.prog 24 te24 := ⟨⟨_, Try.underlying24, ⟨_, rfl, rfl⟩⟩, Try.t24, _, (by kernel_rfl : Try.prog.info? 24 = some Try.t24), rfl, rfl, rfl, rfl, (fun _ => ⟨_, rfl⟩), rfl, by decide⟩
def te25 : TE := ⟨.sl 4, 1, 24, [.slice none 0 0]⟩
theorem teok25 : TEok Try.prog 25 te25 := ⟨⟨_, Try.underlying25, rfl⟩, Try.t25, _, (by kernel_rfl : Try.prog.info? 25 = some Try.t25), rfl, rfl, rfl, rfl, (fun h => by cases h), rfl, by decide⟩
def te27 : TE := ⟨.st [(0, 25), (1, 3)], 2, 32, [.slice none 0 0, .int .i64 0]⟩
theorem teok27 : TEok Try.prog 27 te27 := ⟨⟨_, Try.underlying27, ⟨_, rfl, rfl⟩⟩, Try.t27, _, (by kernel_rfl : Try.prog.info? 27 = some Try.t27), rfl, rfl, rfl, rfl, (fun _ => ⟨_, rfl⟩), rfl, by decide⟩
def te30 : TE := ⟨.pt 66, 1, 8, [.pointer none]⟩
theorem teok30 : TEok Try.prog 30 te30 := ⟨⟨_, Try.underlying30, rfl⟩, Try.t30, _, (by kernel_rfl : Try.prog.info? 30 = some Try.t30), rfl, rfl, rfl, rfl, (fun h => by cases h), rfl, by decide⟩
def te31 : TE := ⟨.int .i64, 1, 8, [.int .i64 0]⟩
theorem teok31 : TEok Try.prog 31 te31 := ⟨⟨_, Try.underlying31, rfl⟩, Try.t31, _, (by kernel_rfl : Try.prog.info? 31 = some Try.t31), rfl, rfl, rfl, rfl, (fun h => by cases h), rfl, by decide⟩
def te37 : TE := ⟨.sl 42, 1, 24, [.slice none 0 0]⟩
theorem teok37 : TEok Try.prog 37 te37 := ⟨⟨_, Try.underlying37, rfl⟩, Try.t37, _, (by kernel_rfl : Try.prog.info? 37 = some Try.t37), rfl, rfl, rfl, rfl, (fun h => by cases h), rfl, by decide⟩
def te42 : TE := ⟨.st [(0, 3), (1, 3)], 2, 16, [.int .i64 0, .int .i64 0]⟩
theorem teok42 : TEok Try.prog 42 te42 := ⟨⟨_, Try.underlying42, ⟨_, rfl, rfl⟩⟩, Try.t42, _, (by kernel_rfl : Try.prog.info? 42 = some Try.t42), rfl, rfl, rfl, rfl, (fun _ => ⟨_, rfl⟩), rfl, by decide⟩
def te50 : TE := ⟨.sl 22, 1, 24, [.slice none 0 0]⟩
theorem teok50 : TEok Try.prog 50 te50 := ⟨⟨_, Try.underlying50, rfl⟩, Try.t50, _, (by kernel_rfl : Try.prog.info? 50 = some Try.t50), rfl, rfl, rfl, rfl, (fun h => by cases h), rfl, by decide⟩
def te64 : TE := ⟨.fn, 1, 8, [.nilFunc]⟩
theorem teok64 : TEok Try.prog 64 te64 := ⟨⟨_, Try.underlying64, ⟨_, _, _, rfl⟩⟩, Try.t64, _, (by kernel_rfl : Try.prog.info? 64 = some Try.t64), rfl, rfl, rfl, rfl, (fun h => by cases h), rfl, by decide⟩
def te66 : TE := ⟨.st [(0, 3), (1, 3), (2, 50)], 3, 40, [.int .i64 0, .int .i64 0, .slice none 0 0]⟩
theorem teok66 : TEok Try.prog 66 te66 := ⟨⟨_, Try.underlying66, ⟨_, rfl, rfl⟩⟩, Try.t66, _, (by kernel_rfl : Try.prog.info? 66 = some Try.t66), rfl, rfl, rfl, rfl, (fun _ => ⟨_, rfl⟩), rfl, by decide⟩
def te75 : TE := ⟨.mp 3 3, 1, 8, [.map none]⟩
theorem teok75 : TEok Try.prog 75 te75 := ⟨⟨_, Try.underlying75, rfl⟩, Try.t75, _, (by kernel_rfl : Try.prog.info? 75 = some Try.t75), rfl, rfl, rfl, rfl, (fun h => by cases h), rfl, by decide⟩
def te80 : TE := ⟨.ar 25 3, 25, 200, List.replicate 25 (.int .i64 0)⟩
theorem teok80 : TEok Try.prog 80 te80 := ⟨⟨_, Try.underlying80, rfl⟩, Try.t80, _, (by kernel_rfl : Try.prog.info? 80 = some Try.t80), rfl, rfl, rfl, rfl, (fun _ => ⟨_, rfl⟩), rfl, by decide⟩
def te88 : TE := ⟨.fn, 1, 8, [.nilFunc]⟩
theorem teok88 : TEok Try.prog 88 te88 := ⟨⟨_, Try.underlying88, ⟨_, _, _, rfl⟩⟩, Try.t88, _, (by kernel_rfl : Try.prog.info? 88 = some Try.t88), rfl, rfl, rfl, rfl, (fun h => by cases h), rfl, by decide⟩
def te90 : TE := ⟨.fn, 1, 8, [.nilFunc]⟩
theorem teok90 : TEok Try.prog 90 te90 := ⟨⟨_, Try.underlying90, ⟨_, _, _, rfl⟩⟩, Try.t90, _, (by kernel_rfl : Try.prog.info? 90 = some Try.t90), rfl, rfl, rfl, rfl, (fun h => by cases h), rfl, by decide⟩
def te97 : TE := ⟨.ar 25 80, 625, 5000, List.replicate 625 (.int .i64 0)⟩
theorem teok97 : TEok Try.prog 97 te97 := ⟨⟨_, Try.underlying97, rfl⟩, Try.t97, _, (by kernel_rfl : Try.prog.info? 97 = some Try.t97), rfl, rfl, rfl, (by kernel_rfl), (fun _ => ⟨_, rfl⟩), rfl, by (intro x hx; obtain ⟨_, rfl⟩ := List.mem_replicate.1 hx; rfl)⟩
def te98 : TE := ⟨.int .u64, 1, 8, [.int .u64 0]⟩
theorem teok98 : TEok Try.prog 98 te98 := ⟨⟨_, Try.underlying98, rfl⟩, Try.t98, _, (by kernel_rfl : Try.prog.info? 98 = some Try.t98), rfl, rfl, rfl, rfl, (fun h => by cases h), rfl, by decide⟩
def te107 : TE := ⟨.st [(0, 3), (1, 3), (2, 3)], 3, 24, [.int .i64 0, .int .i64 0, .int .i64 0]⟩
theorem teok107 : TEok Try.prog 107 te107 := ⟨⟨_, Try.underlying107, ⟨_, rfl, rfl⟩⟩, Try.t107, _, (by kernel_rfl : Try.prog.info? 107 = some Try.t107), rfl, rfl, rfl, rfl, (fun _ => ⟨_, rfl⟩), rfl, by decide⟩
def te108 : TE := ⟨.ar 6 107, 18, 144, List.replicate 18 (.int .i64 0)⟩
theorem teok108 : TEok Try.prog 108 te108 := ⟨⟨_, Try.underlying108, rfl⟩, Try.t108, _, (by kernel_rfl : Try.prog.info? 108 = some Try.t108), rfl, rfl, rfl, rfl, (fun _ => ⟨_, rfl⟩), rfl, by decide⟩
def te114 : TE := ⟨.int .u64, 1, 8, [.int .u64 0]⟩
theorem teok114 : TEok Try.prog 114 te114 := ⟨⟨_, Try.underlying114, rfl⟩, Try.t114, _, (by kernel_rfl : Try.prog.info? 114 = some Try.t114), rfl, rfl, rfl, rfl, (fun h => by cases h), rfl, by decide⟩
theorem eqt42 : EqT Try.prog 42 [(0, 3), (1, 3)] := ⟨by kernel_rfl, by kernel_rfl, by kernel_rfl, by kernel_rfl, by kernel_rfl⟩
def tab : Tab := [(3, te3), (4, te4), (22, te22), (24, te24), (25, te25), (27, te27), (30, te30), (31, te31), (37, te37), (42, te42), (50, te50), (64, te64), (66, te66), (75, te75), (80, te80), (88, te88), (90, te90), (97, te97), (98, te98), (107, te107), (108, te108), (114, te114)]
theorem T : TabOk Try.prog tab := (.cons teok3 (.cons teok4 (.cons teok22 (.cons teok24 (.cons teok25 (.cons teok27 (.cons teok30 (.cons teok31 (.cons teok37 (.cons teok42 (.cons teok50 (.cons teok64 (.cons teok66 (.cons teok75 (.cons teok80 (.cons teok88 (.cons teok90 (.cons teok97 (.cons teok98 (.cons teok107 (.cons teok108 (.cons teok114 TabOk.nil))))))))))))))))))))))
theorem kt3 : KeyT Try.prog 3 kI := KeyT.int Try.underlying3
theorem zt3 : ZeroT Try.prog 3 veI 0 := ⟨(.int .i64 0), fun w => by kernel_rfl, fun _ _ => (.v _)⟩
theorem mix : Try.prog.follows .mixedOrders = true := by kernel_rfl
theorem en8 : Entered Try.prog 8 := fun args w => Try.call8 args w
theorem en10 : Entered Try.prog 10 := fun args w => Try.call10 args w
theorem en11 : Entered Try.prog 11 := fun args w => Try.call11 args w
theorem en14 : Entered Try.prog 14 := fun args w => Try.call14 args w
theorem en16 : Entered Try.prog 16 := fun args w => Try.call16 args w
theorem en22 : Entered Try.prog 22 := fun args w => Try.call22 args w
theorem en23 : Entered Try.prog 23 := fun args w => Try.call23 args w
theorem en24 : Entered Try.prog 24 := fun args w => Try.call24 args w
theorem en25 : Entered Try.prog 25 := fun args w => Try.call25 args w
theorem en26 : Entered Try.prog 26 := fun args w => Try.call26 args w
theorem en27 : Entered Try.prog 27 := fun args w => Try.call27 args w
theorem en29 : Entered Try.prog 29 := fun args w => Try.call29 args w
theorem en30 : Entered Try.prog 30 := fun args w => Try.call30 args w
theorem en31 : Entered Try.prog 31 := fun args w => Try.call31 args w
theorem en33 : Entered Try.prog 33 := fun args w => Try.call33 args w
theorem en34 : Entered Try.prog 34 := fun args w => Try.call34 args w
theorem en35 : Entered Try.prog 35 := fun args w => Try.call35 args w
theorem en36 : Entered Try.prog 36 := fun args w => Try.call36 args w
theorem en37 : Entered Try.prog 37 := fun args w => Try.call37 args w
theorem en39 : Entered Try.prog 39 := fun args w => Try.call39 args w
theorem en42 : Entered Try.prog 42 := fun args w => Try.call42 args w
theorem en43 : Entered Try.prog 43 := fun args w => Try.call43 args w
theorem en44 : Entered Try.prog 44 := fun args w => Try.call44 args w
theorem en45 : Entered Try.prog 45 := fun args w => Try.call45 args w
theorem en46 : Entered Try.prog 46 := fun args w => Try.call46 args w
theorem en48 : Entered Try.prog 48 := fun args w => Try.call48 args w
theorem en49 : Entered Try.prog 49 := fun args w => Try.call49 args w
theorem en50 : Entered Try.prog 50 := fun args w => Try.call50 args w
theorem en51 : Entered Try.prog 51 := fun args w => Try.call51 args w
theorem en52 : Entered Try.prog 52 := fun args w => Try.call52 args w
theorem en53 : Entered Try.prog 53 := fun args w => Try.call53 args w
theorem en54 : Entered Try.prog 54 := fun args w => Try.call54 args w
theorem en55 : Entered Try.prog 55 := fun args w => Try.call55 args w
theorem en56 : Entered Try.prog 56 := fun args w => Try.call56 args w
theorem en60 : Entered Try.prog 60 := fun args w => Try.call60 args w
theorem en61 : Entered Try.prog 61 := fun args w => Try.call61 args w
theorem en62 : Entered Try.prog 62 := fun args w => Try.call62 args w
theorem en64 : Entered Try.prog 64 := fun args w => Try.call64 args w
theorem en65 : Entered Try.prog 65 := fun args w => Try.call65 args w
theorem en66 : Entered Try.prog 66 := fun args w => Try.call66 args w
theorem en70 : Entered Try.prog 70 := fun args w => Try.call70 args w
theorem en71 : Entered Try.prog 71 := fun args w => Try.call71 args w
theorem en72 : Entered Try.prog 72 := fun args w => Try.call72 args w
theorem en73 : Entered Try.prog 73 := fun args w => Try.call73 args w
theorem en76 : Entered Try.prog 76 := fun args w => Try.call76 args w
theorem en77 : Entered Try.prog 77 := fun args w => Try.call77 args w
theorem op3 : Opens Try.prog 3 eI I64 := Opens.i64 Try.underlying3
theorem op22 : Opens Try.prog 22 eLeI (OkL I64) := Opens.slice Try.underlying22 (n := 1) (by kernel_rfl) (by decide) op3
theorem op24 : Opens Try.prog 24 eApiFloor OkApiFloor := fun enc w held fuel cells d ps ht => by
  obtain ⟨fuel', hl, hf⟩ := Opens.st (N := 5) Try.underlying24 (by kernel_rfl) ht
  obtain ⟨x0, k0, l0, c0⟩ := Opens.fld op3 (n := 1) (off := 0) (by kernel_rfl) (by omega) (hf _ (List.mem_of_getElem? (i := 0) rfl))
  obtain ⟨x1, k1, l1, c1⟩ := Opens.fld op3 (n := 1) (off := 1) (by kernel_rfl) (by omega) (hf _ (List.mem_of_getElem? (i := 1) rfl))
  obtain ⟨x2, k2, l2, c2⟩ := Opens.fld op3 (n := 1) (off := 2) (by kernel_rfl) (by omega) (hf _ (List.mem_of_getElem? (i := 2) rfl))
  obtain ⟨x3, k3, l3, c3⟩ := Opens.fld op22 (n := 1) (off := 3) (by kernel_rfl) (by omega) (hf _ (List.mem_of_getElem? (i := 3) rfl))
  obtain ⟨x4, k4, l4, c4⟩ := Opens.fld op22 (n := 1) (off := 4) (by kernel_rfl) (by omega) (hf _ (List.mem_of_getElem? (i := 4) rfl))
  have hc : Cov w cells 0 (eApiFloor ⟨x0, x1, x2, x3, x4⟩) := (c0.app (c1.app (c2.app (c3.app (c4.app Cov.nil)))))
  exact ⟨⟨x0, x1, x2, x3, x4⟩, ⟨k0, k1, k2, k3, k4⟩, by rw [hl]; rfl, fun j A v hA hv => hc j A v hA (by simpa using hv)⟩
end Go.Proofs.Ytghgknhkclpdhaa
