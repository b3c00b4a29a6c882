/- The encodings of the data, and the types' table (written by a program of the prover). -/
import Derived.Test.YtenplejkcfhplaaVc
import Derived.Test.YtenplejkcfhplaaChecked
import Derived.Test.YtenplejkcfhplaaLibZB
import Derived.KernelRfl
set_option maxRecDepth 100000
set_option maxHeartbeats 8000000
set_option linter.unusedVariables false
namespace Go.Proofs.Ytenplejkcfhplaa
open Go Go.Taq
@[reducible] def eI (x : Int) : List AVal := [.i x]
@[reducible] def eB (x : Bool) : List AVal := [.b x]
@[reducible] def eApiFloor (x : ApiFloor) : List AVal := [.i x.W, .i x.H, .i x.D, .sl 1 eI x.Kind, .sl 1 eI x.Out]
@[reducible] def eFloorStep (x : FloorStep) : List AVal := [.i x.x, .i x.y, .i x.z]
@[reducible] def eApiShift (x : ApiShift) : List AVal := [.i x.From, .i x.To]
@[reducible] def eLeI (x : List Int) : List AVal := [.sl 1 eI x]
@[reducible] def eLeB (x : List Bool) : List AVal := [.sl 1 eB x]
@[reducible] def eApiLayout (x : ApiLayout) : List AVal := [.sl 1 eB x.Full, .i x.Target]
def te3 : TE := ⟨.int .i64, 1, 8, [.int .i64 0]⟩
theorem teok3 : TEok Try.prog 3 te3 := ⟨⟨_, Try.underlying3, rfl⟩, Try.t3, _, (by kernel_rfl : Try.prog.info? 3 = some Try.t3), rfl, rfl, rfl, rfl, (fun h => by cases h), rfl, by decide⟩
def te4 : TE := ⟨.bool, 1, 1, [.bool false]⟩
theorem teok4 : TEok Try.prog 4 te4 := ⟨⟨_, Try.underlying4, rfl⟩, Try.t4, _, (by kernel_rfl : Try.prog.info? 4 = some Try.t4), rfl, rfl, rfl, rfl, (fun h => by cases h), rfl, by decide⟩
def te22 : TE := ⟨.sl 3, 1, 24, [.slice none 0 0]⟩
theorem teok22 : TEok Try.prog 22 te22 := ⟨⟨_, Try.underlying22, rfl⟩, Try.t22, _, (by kernel_rfl : Try.prog.info? 22 = some Try.t22), rfl, rfl, rfl, rfl, (fun h => by cases h), rfl, by decide⟩
def te24 : TE := ⟨.st [(0, 3), (1, 3), (2, 3), (3, 22), (4, 22)], 5, 72, [.int .i64 0, .int .i64 0, .int .i64 0, .slice none 0 0, .slice none 0 0]⟩
theorem teok24 : TEok Try.prog 24 te24 := ⟨⟨_, Try.underlying24, ⟨_, rfl, rfl⟩⟩, Try.t24, _, (by kernel_rfl : Try.prog.info? 24 = some Try.t24), rfl, rfl, rfl, rfl, (fun _ => ⟨_, rfl⟩), rfl, by decide⟩
def te25 : TE := ⟨.sl 4, 1, 24, [.slice none 0 0]⟩
theorem teok25 : TEok Try.prog 25 te25 := ⟨⟨_, Try.underlying25, rfl⟩, Try.t25, _, (by kernel_rfl : Try.prog.info? 25 = some Try.t25), rfl, rfl, rfl, rfl, (fun h => by cases h), rfl, by decide⟩
def te27 : TE := ⟨.st [(0, 25), (1, 3)], 2, 32, [.slice none 0 0, .int .i64 0]⟩
theorem teok27 : TEok Try.prog 27 te27 := ⟨⟨_, Try.underlying27, ⟨_, rfl, rfl⟩⟩, Try.t27, _, (by kernel_rfl : Try.prog.info? 27 = some Try.t27), rfl, rfl, rfl, rfl, (fun _ => ⟨_, rfl⟩), rfl, by decide⟩
def te30 : TE := ⟨.int .i64, 1, 8, [.int .i64 0]⟩
theorem teok30 : TEok Try.prog 30 te30 := ⟨⟨_, Try.underlying30, rfl⟩, Try.t30, _, (by kernel_rfl : Try.prog.info? 30 = some Try.t30), rfl, rfl, rfl, rfl, (fun h => by cases h), rfl, by decide⟩
def te35 : TE := ⟨.sl 51, 1, 24, [.slice none 0 0]⟩
theorem teok35 : TEok Try.prog 35 te35 := ⟨⟨_, Try.underlying35, rfl⟩, Try.t35, _, (by kernel_rfl : Try.prog.info? 35 = some Try.t35), rfl, rfl, rfl, rfl, (fun h => by cases h), rfl, by decide⟩
def te51 : TE := ⟨.st [(0, 3), (1, 3)], 2, 16, [.int .i64 0, .int .i64 0]⟩
theorem teok51 : TEok Try.prog 51 te51 := ⟨⟨_, Try.underlying51, ⟨_, rfl, rfl⟩⟩, Try.t51, _, (by kernel_rfl : Try.prog.info? 51 = some Try.t51), rfl, rfl, rfl, rfl, (fun _ => ⟨_, rfl⟩), rfl, by decide⟩
def te62 : TE := ⟨.ar 25 3, 25, 200, List.replicate 25 (.int .i64 0)⟩
theorem teok62 : TEok Try.prog 62 te62 := ⟨⟨_, Try.underlying62, rfl⟩, Try.t62, _, (by kernel_rfl : Try.prog.info? 62 = some Try.t62), rfl, rfl, rfl, rfl, (fun _ => ⟨_, rfl⟩), rfl, by decide⟩
def te69 : TE := ⟨.ar 25 62, 625, 5000, List.replicate 625 (.int .i64 0)⟩
theorem teok69 : TEok Try.prog 69 te69 := ⟨⟨_, Try.underlying69, rfl⟩, Try.t69, _, (by kernel_rfl : Try.prog.info? 69 = some Try.t69), rfl, rfl, rfl, (by kernel_rfl), (fun _ => ⟨_, rfl⟩), rfl, by (intro x hx; obtain ⟨_, rfl⟩ := List.mem_replicate.1 hx; rfl)⟩
def te74 : TE := ⟨.fn, 1, 8, [.nilFunc]⟩
theorem teok74 : TEok Try.prog 74 te74 := ⟨⟨_, Try.underlying74, ⟨_, _, _, rfl⟩⟩, Try.t74, _, (by kernel_rfl : Try.prog.info? 74 = some Try.t74), rfl, rfl, rfl, rfl, (fun h => by cases h), rfl, by decide⟩
def te77 : TE := ⟨.int .u64, 1, 8, [.int .u64 0]⟩
theorem teok77 : TEok Try.prog 77 te77 := ⟨⟨_, Try.underlying77, rfl⟩, Try.t77, _, (by kernel_rfl : Try.prog.info? 77 = some Try.t77), rfl, rfl, rfl, rfl, (fun h => by cases h), rfl, by decide⟩
def te85 : TE := ⟨.st [(0, 3), (1, 3), (2, 3)], 3, 24, [.int .i64 0, .int .i64 0, .int .i64 0]⟩
theorem teok85 : TEok Try.prog 85 te85 := ⟨⟨_, Try.underlying85, ⟨_, rfl, rfl⟩⟩, Try.t85, _, (by kernel_rfl : Try.prog.info? 85 = some Try.t85), rfl, rfl, rfl, rfl, (fun _ => ⟨_, rfl⟩), rfl, by decide⟩
def te86 : TE := ⟨.ar 6 85, 18, 144, List.replicate 18 (.int .i64 0)⟩
theorem teok86 : TEok Try.prog 86 te86 := ⟨⟨_, Try.underlying86, rfl⟩, Try.t86, _, (by kernel_rfl : Try.prog.info? 86 = some Try.t86), rfl, rfl, rfl, rfl, (fun _ => ⟨_, rfl⟩), rfl, by decide⟩
theorem eqt51 : EqT Try.prog 51 [(0, 3), (1, 3)] := ⟨by kernel_rfl, by kernel_rfl, by kernel_rfl, by kernel_rfl, by kernel_rfl⟩
def tab : Tab := [(3, te3), (4, te4), (22, te22), (24, te24), (25, te25), (27, te27), (30, te30), (35, te35), (51, te51), (62, te62), (69, te69), (74, te74), (77, te77), (85, te85), (86, te86)]
theorem T : TabOk Try.prog tab := (.cons teok3 (.cons teok4 (.cons teok22 (.cons teok24 (.cons teok25 (.cons teok27 (.cons teok30 (.cons teok35 (.cons teok51 (.cons teok62 (.cons teok69 (.cons teok74 (.cons teok77 (.cons teok85 (.cons teok86 TabOk.nil)))))))))))))))
theorem mix : Try.prog.follows .mixedOrders = true := by kernel_rfl
theorem en8 : Entered Try.prog 8 := fun args w => Try.call8 args w
theorem en9 : Entered Try.prog 9 := fun args w => Try.call9 args w
theorem en10 : Entered Try.prog 10 := fun args w => Try.call10 args w
theorem en12 : Entered Try.prog 12 := fun args w => Try.call12 args w
theorem en14 : Entered Try.prog 14 := fun args w => Try.call14 args w
theorem en17 : Entered Try.prog 17 := fun args w => Try.call17 args w
theorem en18 : Entered Try.prog 18 := fun args w => Try.call18 args w
theorem en19 : Entered Try.prog 19 := fun args w => Try.call19 args w
theorem en20 : Entered Try.prog 20 := fun args w => Try.call20 args w
theorem en21 : Entered Try.prog 21 := fun args w => Try.call21 args w
theorem en22 : Entered Try.prog 22 := fun args w => Try.call22 args w
theorem en23 : Entered Try.prog 23 := fun args w => Try.call23 args w
theorem en24 : Entered Try.prog 24 := fun args w => Try.call24 args w
theorem en25 : Entered Try.prog 25 := fun args w => Try.call25 args w
theorem en26 : Entered Try.prog 26 := fun args w => Try.call26 args w
theorem en28 : Entered Try.prog 28 := fun args w => Try.call28 args w
theorem en29 : Entered Try.prog 29 := fun args w => Try.call29 args w
theorem en30 : Entered Try.prog 30 := fun args w => Try.call30 args w
theorem en31 : Entered Try.prog 31 := fun args w => Try.call31 args w
theorem en37 : Entered Try.prog 37 := fun args w => Try.call37 args w
theorem en40 : Entered Try.prog 40 := fun args w => Try.call40 args w
theorem en41 : Entered Try.prog 41 := fun args w => Try.call41 args w
theorem en42 : Entered Try.prog 42 := fun args w => Try.call42 args w
theorem en46 : Entered Try.prog 46 := fun args w => Try.call46 args w
theorem en47 : Entered Try.prog 47 := fun args w => Try.call47 args w
theorem en48 : Entered Try.prog 48 := fun args w => Try.call48 args w
theorem en49 : Entered Try.prog 49 := fun args w => Try.call49 args w
theorem en50 : Entered Try.prog 50 := fun args w => Try.call50 args w
theorem en52 : Entered Try.prog 52 := fun args w => Try.call52 args w
theorem en53 : Entered Try.prog 53 := fun args w => Try.call53 args w
theorem en54 : Entered Try.prog 54 := fun args w => Try.call54 args w
theorem en58 : Entered Try.prog 58 := fun args w => Try.call58 args w
theorem en59 : Entered Try.prog 59 := fun args w => Try.call59 args w
theorem en60 : Entered Try.prog 60 := fun args w => Try.call60 args w
theorem en61 : Entered Try.prog 61 := fun args w => Try.call61 args w
theorem en62 : Entered Try.prog 62 := fun args w => Try.call62 args w
theorem en76 : Entered Try.prog 76 := fun args w => Try.call76 args w
theorem op3 : Opens Try.prog 3 eI I64 := Opens.i64 Try.underlying3
theorem op22 : Opens Try.prog 22 eLeI (OkL I64) := Opens.slice Try.underlying22 (n := 1) (by kernel_rfl) (by decide) op3
theorem op24 : Opens Try.prog 24 eApiFloor OkApiFloor := fun enc w held fuel cells d ps ht => by
  obtain ⟨fuel', hl, hf⟩ := Opens.st (N := 5) Try.underlying24 (by kernel_rfl) ht
  obtain ⟨x0, k0, l0, c0⟩ := Opens.fld op3 (n := 1) (off := 0) (by kernel_rfl) (by omega) (hf _ (List.mem_of_getElem? (i := 0) rfl))
  obtain ⟨x1, k1, l1, c1⟩ := Opens.fld op3 (n := 1) (off := 1) (by kernel_rfl) (by omega) (hf _ (List.mem_of_getElem? (i := 1) rfl))
  obtain ⟨x2, k2, l2, c2⟩ := Opens.fld op3 (n := 1) (off := 2) (by kernel_rfl) (by omega) (hf _ (List.mem_of_getElem? (i := 2) rfl))
  obtain ⟨x3, k3, l3, c3⟩ := Opens.fld op22 (n := 1) (off := 3) (by kernel_rfl) (by omega) (hf _ (List.mem_of_getElem? (i := 3) rfl))
  obtain ⟨x4, k4, l4, c4⟩ := Opens.fld op22 (n := 1) (off := 4) (by kernel_rfl) (by omega) (hf _ (List.mem_of_getElem? (i := 4) rfl))
  have hc : Cov w cells 0 (eApiFloor ⟨x0, x1, x2, x3, x4⟩) := (c0.app (c1.app (c2.app (c3.app (c4.app Cov.nil)))))
  exact ⟨⟨x0, x1, x2, x3, x4⟩, ⟨k0, k1, k2, k3, k4⟩, by rw [hl]; rfl, fun j A v hA hv => hc j A v hA (by simpa using hv)⟩
theorem op4 : Opens Try.prog 4 eB (fun (_ : Bool) => True) := Opens.bool Try.underlying4
theorem op25 : Opens Try.prog 25 eLeB (OkL (fun (_ : Bool) => True)) := Opens.slice Try.underlying25 (n := 1) (by kernel_rfl) (by decide) op4
theorem op27 : Opens Try.prog 27 eApiLayout OkApiLayout := fun enc w held fuel cells d ps ht => by
  obtain ⟨fuel', hl, hf⟩ := Opens.st (N := 2) Try.underlying27 (by kernel_rfl) ht
  obtain ⟨x0, k0, l0, c0⟩ := Opens.fld op25 (n := 1) (off := 0) (by kernel_rfl) (by omega) (hf _ (List.mem_of_getElem? (i := 0) rfl))
  obtain ⟨x1, k1, l1, c1⟩ := Opens.fld op3 (n := 1) (off := 1) (by kernel_rfl) (by omega) (hf _ (List.mem_of_getElem? (i := 1) rfl))
  have hc : Cov w cells 0 (eApiLayout ⟨x0, x1⟩) := (c0.app (c1.app Cov.nil))
  exact ⟨⟨x0, x1⟩, ⟨k0, k1⟩, by rw [hl]; rfl, fun j A v hA hv => hc j A v hA (by simpa using hv)⟩
end Go.Proofs.Ytenplejkcfhplaa
