/- The encodings of the data, and the types' table (written by a program of the prover). -/
import Derived.Test.YtghoacejnmgldaaLibZO
import Derived.Test.YtghoacejnmgldaaLibZX
import Derived.Test.YtghoacejnmgldaaVc
import Derived.Test.YtghoacejnmgldaaChecked
import Derived.Test.YtghoacejnmgldaaLibZD
import Derived.Test.YtghoacejnmgldaaLibZC
import Derived.Test.YtghoacejnmgldaaLibZS
import Derived.Test.YtghoacejnmgldaaLibZI
import Derived.WalkKit
import Derived.Lib.Walk
import Derived.Laws.Externs
import Derived.Laws.IdiomCopy
import Derived.Deep.RegionLaw
import Derived.IntWalk
import Derived.KernelRfl
set_option maxRecDepth 100000
set_option maxHeartbeats 8000000
set_option linter.unusedVariables false
set_option linter.unusedSimpArgs false
namespace Go.Proofs.Ytghoacejnmgldaa
open Go Go.Taq
@[reducible] def eApiJob (x : ApiJob) : List AVal := [.i x.Shelf, .i x.Work, .i x.Due]
@[reducible] def eI (x : Int) : List AVal := [.i x]
def kI (x : Int) : Value := .int .i64 x
def veI (x : Int) : AVal := .i x
@[reducible] def eOeI (x : List Int) : List AVal := [.os 1 eI x]
@[reducible] def eLeI (x : List Int) : List AVal := [.sl 1 eI x]
@[reducible] def eB (x : Bool) : List AVal := [.b x]
@[reducible] def eLeApiJob (x : List ApiJob) : List AVal := [.sl 3 eApiJob x]
def te3 : TE := ⟨.int .i64, 1, 8, [.int .i64 0]⟩
theorem teok3 : TEok Try.prog 3 te3 := ⟨⟨_, Try.underlying3, rfl⟩, Try.t3, _, (by kernel_rfl : Try.prog.info? 3 = some Try.t3), rfl, rfl, rfl, rfl, (fun h => by cases h), rfl, by decide⟩
def te4 : TE := ⟨.bool, 1, 1, [.bool false]⟩
theorem teok4 : TEok Try.prog 4 te4 := ⟨⟨_, Try.underlying4, rfl⟩, Try.t4, _, (by kernel_rfl : Try.prog.info? 4 = some Try.t4), rfl, rfl, rfl, rfl, (fun h => by cases h), rfl, by decide⟩
def te22 : TE := ⟨.sl 29, 1, 24, [.slice none 0 0]⟩
theorem teok22 : TEok Try.prog 22 te22 := ⟨⟨_, Try.underlying22, rfl⟩, Try.t22, _, (by kernel_rfl : Try.prog.info? 22 = some Try.t22), rfl, rfl, rfl, rfl, (fun h => by cases h), rfl, by decide⟩
def te23 : TE := ⟨.sl 3, 1, 24, [.slice none 0 0]⟩
theorem teok23 : TEok Try.prog 23 te23 := ⟨⟨_, Try.underlying23, rfl⟩, Try.t23, _, (by kernel_rfl : Try.prog.info? 23 = some Try.t23), rfl, rfl, rfl, rfl, (fun h => by cases h), rfl, by decide⟩
def te29 : TE := ⟨.st [(0, 3), (1, 3), (2, 3)], 3, 24, [.int .i64 0, .int .i64 0, .int .i64 0]⟩
theorem teok29 : TEok Try.prog 29 te29 := ⟨⟨_, Try.underlying29, ⟨_, rfl, rfl⟩⟩, Try.t29, _, (by kernel_rfl : Try.prog.info? 29 = some Try.t29), rfl, rfl, rfl, rfl, (fun _ => ⟨_, rfl⟩), rfl, by decide⟩
def te34 : TE := ⟨.sl 4, 1, 24, [.slice none 0 0]⟩
theorem teok34 : TEok Try.prog 34 te34 := ⟨⟨_, Try.underlying34, rfl⟩, Try.t34, _, (by kernel_rfl : Try.prog.info? 34 = some Try.t34), rfl, rfl, rfl, rfl, (fun h => by cases h), rfl, by decide⟩
def te35 : TE := ⟨.sl 23, 1, 24, [.slice none 0 0]⟩
theorem teok35 : TEok Try.prog 35 te35 := ⟨⟨_, Try.underlying35, rfl⟩, Try.t35, _, (by kernel_rfl : Try.prog.info? 35 = some Try.t35), rfl, rfl, rfl, rfl, (fun h => by cases h), rfl, by decide⟩
def te45 : TE := ⟨.fn, 1, 8, [.nilFunc]⟩
theorem teok45 : TEok Try.prog 45 te45 := ⟨⟨_, Try.underlying45, ⟨_, _, _, rfl⟩⟩, Try.t45, _, (by kernel_rfl : Try.prog.info? 45 = some Try.t45), rfl, rfl, rfl, rfl, (fun h => by cases h), rfl, by decide⟩
def te54 : TE := ⟨.mp 3 3, 1, 8, [.map none]⟩
theorem teok54 : TEok Try.prog 54 te54 := ⟨⟨_, Try.underlying54, rfl⟩, Try.t54, _, (by kernel_rfl : Try.prog.info? 54 = some Try.t54), rfl, rfl, rfl, rfl, (fun h => by cases h), rfl, by decide⟩
def te56 : TE := ⟨.fn, 1, 8, [.nilFunc]⟩
theorem teok56 : TEok Try.prog 56 te56 := ⟨⟨_, Try.underlying56, ⟨_, _, _, rfl⟩⟩, Try.t56, _, (by kernel_rfl : Try.prog.info? 56 = some Try.t56), rfl, rfl, rfl, rfl, (fun h => by cases h), rfl, by decide⟩
def te57 : TE := ⟨.fn, 1, 8, [.nilFunc]⟩
theorem teok57 : TEok Try.prog 57 te57 := ⟨⟨_, Try.underlying57, ⟨_, _, _, rfl⟩⟩, Try.t57, _, (by kernel_rfl : Try.prog.info? 57 = some Try.t57), rfl, rfl, rfl, rfl, (fun h => by cases h), rfl, by decide⟩
def te61 : TE := ⟨.fn, 1, 8, [.nilFunc]⟩
theorem teok61 : TEok Try.prog 61 te61 := ⟨⟨_, Try.underlying61, ⟨_, _, _, rfl⟩⟩, Try.t61, _, (by kernel_rfl : Try.prog.info? 61 = some Try.t61), rfl, rfl, rfl, rfl, (fun h => by cases h), rfl, by decide⟩
def te63 : TE := ⟨.int .u64, 1, 8, [.int .u64 0]⟩
theorem teok63 : TEok Try.prog 63 te63 := ⟨⟨_, Try.underlying63, rfl⟩, Try.t63, _, (by kernel_rfl : Try.prog.info? 63 = some Try.t63), rfl, rfl, rfl, rfl, (fun h => by cases h), rfl, by decide⟩
theorem eqt29 : EqT Try.prog 29 [(0, 3), (1, 3), (2, 3)] := ⟨by kernel_rfl, by kernel_rfl, by kernel_rfl, by kernel_rfl, by kernel_rfl⟩
def tab : Tab := [(3, te3), (4, te4), (22, te22), (23, te23), (29, te29), (34, te34), (35, te35), (45, te45), (54, te54), (56, te56), (57, te57), (61, te61), (63, te63)]
theorem T : TabOk Try.prog tab := (.cons teok3 (.cons teok4 (.cons teok22 (.cons teok23 (.cons teok29 (.cons teok34 (.cons teok35 (.cons teok45 (.cons teok54 (.cons teok56 (.cons teok57 (.cons teok61 (.cons teok63 TabOk.nil)))))))))))))
theorem kt3 : KeyT Try.prog 3 kI := KeyT.int Try.underlying3
theorem zt3 : ZeroT Try.prog 3 veI 0 := ⟨(.int .i64 0), fun w => by kernel_rfl, fun _ _ => (.v _)⟩
theorem mix : Try.prog.follows .mixedOrders = true := by kernel_rfl
theorem en8 : Entered Try.prog 8 := fun args w => Try.call8 args w
theorem en9 : Entered Try.prog 9 := fun args w => Try.call9 args w
theorem en10 : Entered Try.prog 10 := fun args w => Try.call10 args w
theorem en12 : Entered Try.prog 12 := fun args w => Try.call12 args w
theorem en13 : Entered Try.prog 13 := fun args w => Try.call13 args w
theorem en15 : Entered Try.prog 15 := fun args w => Try.call15 args w
theorem en16 : Entered Try.prog 16 := fun args w => Try.call16 args w
theorem en17 : Entered Try.prog 17 := fun args w => Try.call17 args w
theorem en18 : Entered Try.prog 18 := fun args w => Try.call18 args w
theorem en19 : Entered Try.prog 19 := fun args w => Try.call19 args w
theorem en20 : Entered Try.prog 20 := fun args w => Try.call20 args w
theorem en21 : Entered Try.prog 21 := fun args w => Try.call21 args w
theorem en22 : Entered Try.prog 22 := fun args w => Try.call22 args w
theorem en23 : Entered Try.prog 23 := fun args w => Try.call23 args w
theorem en24 : Entered Try.prog 24 := fun args w => Try.call24 args w
theorem en25 : Entered Try.prog 25 := fun args w => Try.call25 args w
theorem en26 : Entered Try.prog 26 := fun args w => Try.call26 args w
theorem en27 : Entered Try.prog 27 := fun args w => Try.call27 args w
theorem en28 : Entered Try.prog 28 := fun args w => Try.call28 args w
theorem en29 : Entered Try.prog 29 := fun args w => Try.call29 args w
theorem en30 : Entered Try.prog 30 := fun args w => Try.call30 args w
theorem en31 : Entered Try.prog 31 := fun args w => Try.call31 args w
theorem en32 : Entered Try.prog 32 := fun args w => Try.call32 args w
theorem en33 : Entered Try.prog 33 := fun args w => Try.call33 args w
theorem en34 : Entered Try.prog 34 := fun args w => Try.call34 args w
theorem en35 : Entered Try.prog 35 := fun args w => Try.call35 args w
theorem en36 : Entered Try.prog 36 := fun args w => Try.call36 args w
theorem en37 : Entered Try.prog 37 := fun args w => Try.call37 args w
theorem en38 : Entered Try.prog 38 := fun args w => Try.call38 args w
theorem en40 : Entered Try.prog 40 := fun args w => Try.call40 args w
theorem en41 : Entered Try.prog 41 := fun args w => Try.call41 args w
theorem en42 : Entered Try.prog 42 := fun args w => Try.call42 args w
theorem en43 : Entered Try.prog 43 := fun args w => Try.call43 args w
theorem en44 : Entered Try.prog 44 := fun args w => Try.call44 args w
theorem en45 : Entered Try.prog 45 := fun args w => Try.call45 args w
theorem en46 : Entered Try.prog 46 := fun args w => Try.call46 args w
theorem en47 : Entered Try.prog 47 := fun args w => Try.call47 args w
theorem en48 : Entered Try.prog 48 := fun args w => Try.call48 args w
theorem en49 : Entered Try.prog 49 := fun args w => Try.call49 args w
theorem en55 : Entered Try.prog 55 := fun args w => Try.call55 args w
theorem en56 : Entered Try.prog 56 := fun args w => Try.call56 args w
theorem en57 : Entered Try.prog 57 := fun args w => Try.call57 args w
theorem en58 : Entered Try.prog 58 := fun args w => Try.call58 args w
theorem en79 : Entered Try.prog 79 := fun args w => Try.call79 args w
theorem en89 : Entered Try.prog 89 := fun args w => Try.call89 args w
theorem op3 : Opens Try.prog 3 eI I64 := Opens.i64 Try.underlying3
theorem op29 : Opens Try.prog 29 eApiJob OkApiJob := fun enc w held fuel cells d ps ht => by
  obtain ⟨fuel', hl, hf⟩ := Opens.st (N := 3) Try.underlying29 (by kernel_rfl) ht
  obtain ⟨x0, k0, l0, c0⟩ := Opens.fld op3 (n := 1) (off := 0) (by kernel_rfl) (by omega) (hf _ (List.mem_of_getElem? (i := 0) rfl))
  obtain ⟨x1, k1, l1, c1⟩ := Opens.fld op3 (n := 1) (off := 1) (by kernel_rfl) (by omega) (hf _ (List.mem_of_getElem? (i := 1) rfl))
  obtain ⟨x2, k2, l2, c2⟩ := Opens.fld op3 (n := 1) (off := 2) (by kernel_rfl) (by omega) (hf _ (List.mem_of_getElem? (i := 2) rfl))
  have hc : Cov w cells 0 (eApiJob ⟨x0, x1, x2⟩) := (c0.app (c1.app (c2.app Cov.nil)))
  exact ⟨⟨x0, x1, x2⟩, ⟨k0, k1, k2⟩, by rw [hl]; rfl, fun j A v hA hv => hc j A v hA (by simpa using hv)⟩
theorem op22 : Opens Try.prog 22 eLeApiJob (OkL OkApiJob) := Opens.slice Try.underlying22 (n := 3) (by kernel_rfl) (by decide) op29
theorem op23 : Opens Try.prog 23 eLeI (OkL I64) := Opens.slice Try.underlying23 (n := 1) (by kernel_rfl) (by decide) op3
end Go.Proofs.Ytghoacejnmgldaa
