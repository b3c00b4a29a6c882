/- The encodings of the data, and the types' table (written by a program of the prover). -/
import Derived.Test.YthbeknnkokooiaaLibZJ
import Derived.Test.YthbeknnkokooiaaLibZN
import Derived.Test.YthbeknnkokooiaaLibZX
import Derived.Test.YthbeknnkokooiaaVc
import Derived.Test.YthbeknnkokooiaaChecked
import Derived.Test.YthbeknnkokooiaaLibZB
import Derived.Test.YthbeknnkokooiaaLibZY
import Derived.Test.YthbeknnkokooiaaLibZS
import Derived.Test.YthbeknnkokooiaaLibZT
import Derived.Test.YthbeknnkokooiaaLibZI
import Derived.WalkKit
import Derived.Lib.Walk
import Derived.Laws.Externs
import Derived.Laws.IdiomCopy
import Derived.Deep.RegionLaw
import Derived.IntWalk
import Derived.KernelRfl
set_option maxRecDepth 100000
set_option maxHeartbeats 8000000
set_option linter.unusedVariables false
set_option linter.unusedSimpArgs false
namespace Go.Proofs.Ythbeknnkokooiaa
open Go Go.Taq
@[reducible] def eApiShift (x : ApiShift) : List AVal := [.i x.From, .i x.To]
@[reducible] def eI (x : Int) : List AVal := [.i x]
@[reducible] def eB (x : Bool) : List AVal := [.b x]
@[reducible] def eApiFloor (x : ApiFloor) : List AVal := [.i x.W, .i x.H, .i x.D, .sl 1 eI x.Kind, .sl 1 eI x.Out]
@[reducible] def eFloorStep (x : FloorStep) : List AVal := [.i x.x, .i x.y, .i x.z]
@[reducible] def eOeI (x : List Int) : List AVal := [.os 1 eI x]
@[reducible] def eLeI (x : List Int) : List AVal := [.sl 1 eI x]
def kI (x : Int) : Value := .int .i64 x
def vRelocateNode (x : RelocateNode) : AVal := .sv [.sl 1 eB x.l.Full, .i x.l.Target, .i x.rank, .i x.did, .i x.whole, .i x.before, .i x.shift.From, .i x.shift.To]
def veI (x : Int) : AVal := .i x
@[reducible] def eRelocateNode (x : RelocateNode) : List AVal := [.sl 1 eB x.l.Full, .i x.l.Target, .i x.rank, .i x.did, .i x.whole, .i x.before, .i x.shift.From, .i x.shift.To]
@[reducible] def eLeApiShift (x : List ApiShift) : List AVal := [.sl 2 eApiShift x]
def te3 : TE := ⟨.int .i64, 1, 8, [.int .i64 0]⟩
theorem teok3 : TEok Try.prog 3 te3 := ⟨⟨_, Try.underlying3, rfl⟩, Try.t3, _, (by kernel_rfl : Try.prog.info? 3 = some Try.t3), rfl, rfl, rfl, rfl, (fun h => by cases h), rfl, by decide⟩
def te4 : TE := ⟨.bool, 1, 1, [.bool false]⟩
theorem teok4 : TEok Try.prog 4 te4 := ⟨⟨_, Try.underlying4, rfl⟩, Try.t4, _, (by kernel_rfl : Try.prog.info? 4 = some Try.t4), rfl, rfl, rfl, rfl, (fun h => by cases h), rfl, by decide⟩
def te22 : TE := ⟨.sl 28, 1, 24, [.slice none 0 0]⟩
theorem teok22 : TEok Try.prog 22 te22 := ⟨⟨_, Try.underlying22, rfl⟩, Try.t22, _, (by kernel_rfl : Try.prog.info? 22 = some Try.t22), rfl, rfl, rfl, rfl, (fun h => by cases h), rfl, by decide⟩
def te24 : TE := ⟨.sl 26, 1, 24, [.slice none 0 0]⟩
theorem teok24 : TEok Try.prog 24 te24 := ⟨⟨_, Try.underlying24, rfl⟩, Try.t24, _, (by kernel_rfl : Try.prog.info? 24 = some Try.t24), rfl, rfl, rfl, rfl, (fun h => by cases h), rfl, by decide⟩
def te26 : TE := ⟨.sl 3, 1, 24, [.slice none 0 0]⟩
theorem teok26 : TEok Try.prog 26 te26 := ⟨⟨_, Try.underlying26, rfl⟩, Try.t26, _, (by kernel_rfl : Try.prog.info? 26 = some Try.t26), rfl, rfl, rfl, rfl, (fun h => by cases h), rfl, by decide⟩
def te28 : TE := ⟨.st [(0, 3), (1, 3)], 2, 16, [.int .i64 0, .int .i64 0]⟩
theorem teok28 : TEok Try.prog 28 te28 := ⟨⟨_, Try.underlying28, ⟨_, rfl, rfl⟩⟩, Try.t28, _, (by kernel_rfl : Try.prog.info? 28 = some Try.t28), rfl, rfl, rfl, rfl, (fun _ => ⟨_, rfl⟩), rfl, by decide⟩
def te31 : TE := ⟨.st [(0, 3), (1, 3), (2, 3), (3, 26), (4, 26)], 5, 72, [.int .i64 0, .int .i64 0, .int .i64 0, .slice none 0 0, .slice none 0 0]⟩
theorem teok31 : TEok Try.prog 31 te31 := ⟨⟨_, Try.underlying31, ⟨_, rfl, rfl⟩⟩, Try.t31, _, (by kernel_rfl : Try.prog.info? 31 = some Try.t31), rfl, rfl, rfl, rfl, (fun _ => ⟨_, rfl⟩), rfl, by decide⟩
def te33 : TE := ⟨.sl 4, 1, 24, [.slice none 0 0]⟩
theorem teok33 : TEok Try.prog 33 te33 := ⟨⟨_, Try.underlying33, rfl⟩, Try.t33, _, (by kernel_rfl : Try.prog.info? 33 = some Try.t33), rfl, rfl, rfl, rfl, (fun h => by cases h), rfl, by decide⟩
def te35 : TE := ⟨.st [(0, 33), (1, 3)], 2, 32, [.slice none 0 0, .int .i64 0]⟩
theorem teok35 : TEok Try.prog 35 te35 := ⟨⟨_, Try.underlying35, ⟨_, rfl, rfl⟩⟩, Try.t35, _, (by kernel_rfl : Try.prog.info? 35 = some Try.t35), rfl, rfl, rfl, rfl, (fun _ => ⟨_, rfl⟩), rfl, by decide⟩
def te36 : TE := ⟨.int .i64, 1, 8, [.int .i64 0]⟩
theorem teok36 : TEok Try.prog 36 te36 := ⟨⟨_, Try.underlying36, rfl⟩, Try.t36, _, (by kernel_rfl : Try.prog.info? 36 = some Try.t36), rfl, rfl, rfl, rfl, (fun h => by cases h), rfl, by decide⟩
def te42 : TE := ⟨.pt 60, 1, 8, [.pointer none]⟩
theorem teok42 : TEok Try.prog 42 te42 := ⟨⟨_, Try.underlying42, rfl⟩, Try.t42, _, (by kernel_rfl : Try.prog.info? 42 = some Try.t42), rfl, rfl, rfl, rfl, (fun h => by cases h), rfl, by decide⟩
def te47 : TE := ⟨.pt 52, 1, 8, [.pointer none]⟩
theorem teok47 : TEok Try.prog 47 te47 := ⟨⟨_, Try.underlying47, rfl⟩, Try.t47, _, (by kernel_rfl : Try.prog.info? 47 = some Try.t47), rfl, rfl, rfl, rfl, (fun h => by cases h), rfl, by decide⟩
def te48 : TE := ⟨.mp 3 67, 1, 8, [.map none]⟩
theorem teok48 : TEok Try.prog 48 te48 := ⟨⟨_, Try.underlying48, rfl⟩, Try.t48, _, (by kernel_rfl : Try.prog.info? 48 = some Try.t48), rfl, rfl, rfl, rfl, (fun h => by cases h), rfl, by decide⟩
def te49 : TE := ⟨.mp 3 3, 1, 8, [.map none]⟩
theorem teok49 : TEok Try.prog 49 te49 := ⟨⟨_, Try.underlying49, rfl⟩, Try.t49, _, (by kernel_rfl : Try.prog.info? 49 = some Try.t49), rfl, rfl, rfl, rfl, (fun h => by cases h), rfl, by decide⟩
def te50 : TE := ⟨.sl 67, 1, 24, [.slice none 0 0]⟩
theorem teok50 : TEok Try.prog 50 te50 := ⟨⟨_, Try.underlying50, rfl⟩, Try.t50, _, (by kernel_rfl : Try.prog.info? 50 = some Try.t50), rfl, rfl, rfl, rfl, (fun h => by cases h), rfl, by decide⟩
def te52 : TE := ⟨.st [(0, 31), (5, 26), (6, 3), (7, 42), (8, 50), (9, 48), (10, 49)], 11, 152, [.int .i64 0, .int .i64 0, .int .i64 0, .slice none 0 0, .slice none 0 0, .slice none 0 0, .int .i64 0, .pointer none, .slice none 0 0, .map none, .map none]⟩
theorem teok52 : TEok Try.prog 52 te52 := ⟨⟨_, Try.underlying52, ⟨_, rfl, rfl⟩⟩, Try.t52, _, (by kernel_rfl : Try.prog.info? 52 = some Try.t52), rfl, rfl, rfl, rfl, (fun _ => ⟨_, rfl⟩), rfl, by decide⟩
def te60 : TE := ⟨.st [(0, 3), (1, 3), (2, 24)], 3, 40, [.int .i64 0, .int .i64 0, .slice none 0 0]⟩
theorem teok60 : TEok Try.prog 60 te60 := ⟨⟨_, Try.underlying60, ⟨_, rfl, rfl⟩⟩, Try.t60, _, (by kernel_rfl : Try.prog.info? 60 = some Try.t60), rfl, rfl, rfl, rfl, (fun _ => ⟨_, rfl⟩), rfl, by decide⟩
def te62 : TE := ⟨.ar 25 3, 25, 200, List.replicate 25 (.int .i64 0)⟩
theorem teok62 : TEok Try.prog 62 te62 := ⟨⟨_, Try.underlying62, rfl⟩, Try.t62, _, (by kernel_rfl : Try.prog.info? 62 = some Try.t62), rfl, rfl, rfl, rfl, (fun _ => ⟨_, rfl⟩), rfl, by decide⟩
def te67 : TE := ⟨.st [(0, 35), (2, 3), (3, 3), (4, 3), (5, 3), (6, 28)], 8, 80, [.slice none 0 0, .int .i64 0, .int .i64 0, .int .i64 0, .int .i64 0, .int .i64 0, .int .i64 0, .int .i64 0]⟩
theorem teok67 : TEok Try.prog 67 te67 := ⟨⟨_, Try.underlying67, ⟨_, rfl, rfl⟩⟩, Try.t67, _, (by kernel_rfl : Try.prog.info? 67 = some Try.t67), rfl, rfl, rfl, rfl, (fun _ => ⟨_, rfl⟩), rfl, by decide⟩
def te76 : TE := ⟨.ar 25 62, 625, 5000, List.replicate 625 (.int .i64 0)⟩
theorem teok76 : TEok Try.prog 76 te76 := ⟨⟨_, Try.underlying76, rfl⟩, Try.t76, _, (by kernel_rfl : Try.prog.info? 76 = some Try.t76), rfl, rfl, rfl, (by kernel_rfl), (fun _ => ⟨_, rfl⟩), rfl, by (intro x hx; obtain ⟨_, rfl⟩ := List.mem_replicate.1 hx; rfl)⟩
def te79 : TE := ⟨.fn, 1, 8, [.nilFunc]⟩
theorem teok79 : TEok Try.prog 79 te79 := ⟨⟨_, Try.underlying79, ⟨_, _, _, rfl⟩⟩, Try.t79, _, (by kernel_rfl : Try.prog.info? 79 = some Try.t79), rfl, rfl, rfl, rfl, (fun h => by cases h), rfl, by decide⟩
def te85 : TE := ⟨.fn, 1, 8, [.nilFunc]⟩
theorem teok85 : TEok Try.prog 85 te85 := ⟨⟨_, Try.underlying85, ⟨_, _, _, rfl⟩⟩, Try.t85, _, (by kernel_rfl : Try.prog.info? 85 = some Try.t85), rfl, rfl, rfl, rfl, (fun h => by cases h), rfl, by decide⟩
def te87 : TE := ⟨.int .u64, 1, 8, [.int .u64 0]⟩
theorem teok87 : TEok Try.prog 87 te87 := ⟨⟨_, Try.underlying87, rfl⟩, Try.t87, _, (by kernel_rfl : Try.prog.info? 87 = some Try.t87), rfl, rfl, rfl, rfl, (fun h => by cases h), rfl, by decide⟩
def te104 : TE := ⟨.int .u64, 1, 8, [.int .u64 0]⟩
theorem teok104 : TEok Try.prog 104 te104 := ⟨⟨_, Try.underlying104, rfl⟩, Try.t104, _, (by kernel_rfl : Try.prog.info? 104 = some Try.t104), rfl, rfl, rfl, rfl, (fun h => by cases h), rfl, by decide⟩
def te107 : TE := ⟨.fn, 1, 8, [.nilFunc]⟩
theorem teok107 : TEok Try.prog 107 te107 := ⟨⟨_, Try.underlying107, ⟨_, _, _, rfl⟩⟩, Try.t107, _, (by kernel_rfl : Try.prog.info? 107 = some Try.t107), rfl, rfl, rfl, rfl, (fun h => by cases h), rfl, by decide⟩
def te112 : TE := ⟨.st [(0, 3), (1, 3), (2, 3)], 3, 24, [.int .i64 0, .int .i64 0, .int .i64 0]⟩
theorem teok112 : TEok Try.prog 112 te112 := ⟨⟨_, Try.underlying112, ⟨_, rfl, rfl⟩⟩, Try.t112, _, (by kernel_rfl : Try.prog.info? 112 = some Try.t112), rfl, rfl, rfl, rfl, (fun _ => ⟨_, rfl⟩), rfl, by decide⟩
def te113 : TE := ⟨.ar 6 112, 18, 144, List.replicate 18 (.int .i64 0)⟩
theorem teok113 : TEok Try.prog 113 te113 := ⟨⟨_, Try.underlying113, rfl⟩, Try.t113, _, (by kernel_rfl : Try.prog.info? 113 = some Try.t113), rfl, rfl, rfl, rfl, (fun _ => ⟨_, rfl⟩), rfl, by decide⟩
theorem eqt28 : EqT Try.prog 28 [(0, 3), (1, 3)] := ⟨by kernel_rfl, by kernel_rfl, by kernel_rfl, by kernel_rfl, by kernel_rfl⟩
def tab : Tab := [(3, te3), (4, te4), (22, te22), (24, te24), (26, te26), (28, te28), (31, te31), (33, te33), (35, te35), (36, te36), (42, te42), (47, te47), (48, te48), (49, te49), (50, te50), (52, te52), (60, te60), (62, te62), (67, te67), (76, te76), (79, te79), (85, te85), (87, te87), (104, te104), (107, te107), (112, te112), (113, te113)]
theorem T : TabOk Try.prog tab := (.cons teok3 (.cons teok4 (.cons teok22 (.cons teok24 (.cons teok26 (.cons teok28 (.cons teok31 (.cons teok33 (.cons teok35 (.cons teok36 (.cons teok42 (.cons teok47 (.cons teok48 (.cons teok49 (.cons teok50 (.cons teok52 (.cons teok60 (.cons teok62 (.cons teok67 (.cons teok76 (.cons teok79 (.cons teok85 (.cons teok87 (.cons teok104 (.cons teok107 (.cons teok112 (.cons teok113 TabOk.nil)))))))))))))))))))))))))))
theorem kt3 : KeyT Try.prog 3 kI := KeyT.int Try.underlying3
theorem zt3 : ZeroT Try.prog 3 veI 0 := ⟨(.int .i64 0), fun w => by kernel_rfl, fun _ _ => (.v _)⟩
theorem zt67 : ZeroT Try.prog 67 vRelocateNode ({ l := ({ Full := [], Target := 0 : ApiLayout }), rank := 0, did := 0, whole := 0, before := 0, shift := ({ From := 0, To := 0 : ApiShift }) : RelocateNode }) := ⟨.agg #[.slice none 0 0, .int .i64 0, .int .i64 0, .int .i64 0, .int .i64 0, .int .i64 0, .int .i64 0, .int .i64 0], fun w => by kernel_rfl, fun _ _ => (SvZ.ro (.sl _ _ (.v _ (.v _ (.v _ (.v _ (.v _ (.v _ (.v _ .nil)))))))))⟩
theorem mix : Try.prog.follows .mixedOrders = true := by kernel_rfl
theorem en4 : Entered Try.prog 4 := fun args w => Try.call4 args w
theorem en5 : Entered Try.prog 5 := fun args w => Try.call5 args w
theorem en6 : Entered Try.prog 6 := fun args w => Try.call6 args w
theorem en7 : Entered Try.prog 7 := fun args w => Try.call7 args w
theorem en8 : Entered Try.prog 8 := fun args w => Try.call8 args w
theorem en9 : Entered Try.prog 9 := fun args w => Try.call9 args w
theorem en10 : Entered Try.prog 10 := fun args w => Try.call10 args w
theorem en11 : Entered Try.prog 11 := fun args w => Try.call11 args w
theorem en12 : Entered Try.prog 12 := fun args w => Try.call12 args w
theorem en13 : Entered Try.prog 13 := fun args w => Try.call13 args w
theorem en14 : Entered Try.prog 14 := fun args w => Try.call14 args w
theorem en15 : Entered Try.prog 15 := fun args w => Try.call15 args w
theorem en16 : Entered Try.prog 16 := fun args w => Try.call16 args w
theorem en17 : Entered Try.prog 17 := fun args w => Try.call17 args w
theorem en18 : Entered Try.prog 18 := fun args w => Try.call18 args w
theorem en19 : Entered Try.prog 19 := fun args w => Try.call19 args w
theorem en20 : Entered Try.prog 20 := fun args w => Try.call20 args w
theorem en21 : Entered Try.prog 21 := fun args w => Try.call21 args w
theorem en22 : Entered Try.prog 22 := fun args w => Try.call22 args w
theorem en23 : Entered Try.prog 23 := fun args w => Try.call23 args w
theorem en24 : Entered Try.prog 24 := fun args w => Try.call24 args w
theorem en25 : Entered Try.prog 25 := fun args w => Try.call25 args w
theorem en26 : Entered Try.prog 26 := fun args w => Try.call26 args w
theorem en27 : Entered Try.prog 27 := fun args w => Try.call27 args w
theorem en28 : Entered Try.prog 28 := fun args w => Try.call28 args w
theorem en29 : Entered Try.prog 29 := fun args w => Try.call29 args w
theorem en30 : Entered Try.prog 30 := fun args w => Try.call30 args w
theorem en31 : Entered Try.prog 31 := fun args w => Try.call31 args w
theorem en32 : Entered Try.prog 32 := fun args w => Try.call32 args w
theorem en33 : Entered Try.prog 33 := fun args w => Try.call33 args w
theorem en34 : Entered Try.prog 34 := fun args w => Try.call34 args w
theorem en35 : Entered Try.prog 35 := fun args w => Try.call35 args w
theorem en36 : Entered Try.prog 36 := fun args w => Try.call36 args w
theorem en37 : Entered Try.prog 37 := fun args w => Try.call37 args w
theorem en38 : Entered Try.prog 38 := fun args w => Try.call38 args w
theorem en39 : Entered Try.prog 39 := fun args w => Try.call39 args w
theorem en40 : Entered Try.prog 40 := fun args w => Try.call40 args w
theorem en43 : Entered Try.prog 43 := fun args w => Try.call43 args w
theorem en44 : Entered Try.prog 44 := fun args w => Try.call44 args w
theorem en45 : Entered Try.prog 45 := fun args w => Try.call45 args w
theorem en49 : Entered Try.prog 49 := fun args w => Try.call49 args w
theorem en50 : Entered Try.prog 50 := fun args w => Try.call50 args w
theorem en52 : Entered Try.prog 52 := fun args w => Try.call52 args w
theorem en53 : Entered Try.prog 53 := fun args w => Try.call53 args w
theorem en54 : Entered Try.prog 54 := fun args w => Try.call54 args w
theorem en55 : Entered Try.prog 55 := fun args w => Try.call55 args w
theorem en56 : Entered Try.prog 56 := fun args w => Try.call56 args w
theorem en68 : Entered Try.prog 68 := fun args w => Try.call68 args w
theorem op3 : Opens Try.prog 3 eI I64 := Opens.i64 Try.underlying3
theorem op28 : Opens Try.prog 28 eApiShift OkApiShift := fun enc w held fuel cells d ps ht => by
  obtain ⟨fuel', hl, hf⟩ := Opens.st (N := 2) Try.underlying28 (by kernel_rfl) ht
  obtain ⟨x0, k0, l0, c0⟩ := Opens.fld op3 (n := 1) (off := 0) (by kernel_rfl) (by omega) (hf _ (List.mem_of_getElem? (i := 0) rfl))
  obtain ⟨x1, k1, l1, c1⟩ := Opens.fld op3 (n := 1) (off := 1) (by kernel_rfl) (by omega) (hf _ (List.mem_of_getElem? (i := 1) rfl))
  have hc : Cov w cells 0 (eApiShift ⟨x0, x1⟩) := (c0.app (c1.app Cov.nil))
  exact ⟨⟨x0, x1⟩, ⟨k0, k1⟩, by rw [hl]; rfl, fun j A v hA hv => hc j A v hA (by simpa using hv)⟩
theorem op22 : Opens Try.prog 22 eLeApiShift (OkL OkApiShift) := Opens.slice Try.underlying22 (n := 2) (by kernel_rfl) (by decide) op28
end Go.Proofs.Ythbeknnkokooiaa
