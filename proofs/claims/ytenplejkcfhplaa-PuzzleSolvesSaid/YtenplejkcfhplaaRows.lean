/-
  No cell of these rows narrows 'for every input' (looked for: loops, veiled, ifaces, maps, wideKeys, modest, calm, conditions, laid).
  DERIVED. THE GIVEN ROWS OF THIS SEAT. 5 by the template 'for every input the law returns true; each argument reads behind the call as it read before'; 0 by the template 'total and deterministic' (their statements: YtenplejkcfhplaaTotals.lean).
  GIVEN WITH THE SEED: the statements are not yours to turn. If you find one false, say at which input.
  Laid BY PROGRAM, IN A SANDBOX (cutbox-rows.mjs): the forced cells as the released guide's own fill.sh prints them over the translation 1950f9faeee1768c… (all of the seat's roots in one cut). By AI agents, Wed Nov 11 2026. No macro, syntax, notation, axiom, sorry.
-/
import Derived.Test.YtenplejkcfhplaaChecked
import GoSem.Claim
import GoSem.ClaimJoined
import GoSem.ClaimMapViews
import Derived.JoinedTies
import Derived.KernelRfl
namespace Go.Proofs.Ytenplejkcfhplaa
/- THE CELL 'sum', in the pinned program and in every row, IS THE sha256 OF THE DUMP (.gsa) THAT YtenplejkcfhplaaProg.lean LOADS. Nothing in Lean hashes anything: it is a label: what it is worth is what the hold of that sum in a sandbox is worth. -/
noncomputable def Try.pinned : Pinned := { name := "ytenplejkcfhplaa", sum := "1950f9faeee1768c2de714f395943807887923818f1df4488645f878b4df6f95", checked := Try.checked }
namespace Rows
def none {H : Type} : Left H := { results := [], args := [] }

/-- 'taquinlaw26.PuzzleTells': WHATEVER THE INPUT: true; the input reads as it did. -/
def puzzleTellsSpec : ChangeSpec := { name := "puzzleTells", fn := fun _ => fun
  | [d1, d2, d3, d4, d5] => { results := [.lit (.bool true)], args := [d1, d2, d3, d4, d5] }
  | _ => none }
def puzzleTellsRow : OpenClaim := { program := "ytenplejkcfhplaa", sum := "1950f9faeee1768c2de714f395943807887923818f1df4488645f878b4df6f95", func := "taquin/taquinlaw26.PuzzleTells", spec := "puzzleTells", unfollowed := true, recurses := true, apart := false }
def PuzzleTellsSaid : Prop := puzzleTellsRow.holds Try.pinned (OpenSpec.ofChange puzzleTellsSpec)

/-- ITS FALSE NEIGHBOUR: 'it returns false'. Refute it at one input. -/
def puzzleTellsWrong : ChangeSpec := { name := "puzzleTells", fn := fun _ => fun
  | [d1, d2, d3, d4, d5] => { results := [.lit (.bool false)], args := [d1, d2, d3, d4, d5] }
  | _ => none }
def PuzzleTellsWrongFalsely : Prop := puzzleTellsRow.holds Try.pinned (OpenSpec.ofChange puzzleTellsWrong)

/-- 'taquinlaw26.PuzzleSteps': WHATEVER THE INPUT: true; the input reads as it did. -/
def puzzleStepsSpec : ChangeSpec := { name := "puzzleSteps", fn := fun _ => fun
  | [d1, d2, d3, d4] => { results := [.lit (.bool true)], args := [d1, d2, d3, d4] }
  | _ => none }
def puzzleStepsRow : OpenClaim := { program := "ytenplejkcfhplaa", sum := "1950f9faeee1768c2de714f395943807887923818f1df4488645f878b4df6f95", func := "taquin/taquinlaw26.PuzzleSteps", spec := "puzzleSteps", unfollowed := true, recurses := true, apart := false }
def PuzzleStepsSaid : Prop := puzzleStepsRow.holds Try.pinned (OpenSpec.ofChange puzzleStepsSpec)

/-- ITS FALSE NEIGHBOUR: 'it returns false'. Refute it at one input. -/
def puzzleStepsWrong : ChangeSpec := { name := "puzzleSteps", fn := fun _ => fun
  | [d1, d2, d3, d4] => { results := [.lit (.bool false)], args := [d1, d2, d3, d4] }
  | _ => none }
def PuzzleStepsWrongFalsely : Prop := puzzleStepsRow.holds Try.pinned (OpenSpec.ofChange puzzleStepsWrong)

/-- 'taquinlaw26.PuzzleSolves': WHATEVER THE INPUT: true; the input reads as it did. -/
def puzzleSolvesSpec : ChangeSpec := { name := "puzzleSolves", fn := fun _ => fun
  | [d1, d2, d3, d4] => { results := [.lit (.bool true)], args := [d1, d2, d3, d4] }
  | _ => none }
def puzzleSolvesRow : OpenClaim := { program := "ytenplejkcfhplaa", sum := "1950f9faeee1768c2de714f395943807887923818f1df4488645f878b4df6f95", func := "taquin/taquinlaw26.PuzzleSolves", spec := "puzzleSolves", unfollowed := true, recurses := true, apart := false }
def PuzzleSolvesSaid : Prop := puzzleSolvesRow.holds Try.pinned (OpenSpec.ofChange puzzleSolvesSpec)

/-- ITS FALSE NEIGHBOUR: 'it returns false'. Refute it at one input. -/
def puzzleSolvesWrong : ChangeSpec := { name := "puzzleSolves", fn := fun _ => fun
  | [d1, d2, d3, d4] => { results := [.lit (.bool false)], args := [d1, d2, d3, d4] }
  | _ => none }
def PuzzleSolvesWrongFalsely : Prop := puzzleSolvesRow.holds Try.pinned (OpenSpec.ofChange puzzleSolvesWrong)

/-- 'taquinlaw26.PuzzleWalks': WHATEVER THE INPUT: true; the input reads as it did. -/
def puzzleWalksSpec : ChangeSpec := { name := "puzzleWalks", fn := fun _ => fun
  | [d1, d2, d3, d4, d5] => { results := [.lit (.bool true)], args := [d1, d2, d3, d4, d5] }
  | _ => none }
def puzzleWalksRow : OpenClaim := { program := "ytenplejkcfhplaa", sum := "1950f9faeee1768c2de714f395943807887923818f1df4488645f878b4df6f95", func := "taquin/taquinlaw26.PuzzleWalks", spec := "puzzleWalks", unfollowed := true, recurses := true, apart := false }
def PuzzleWalksSaid : Prop := puzzleWalksRow.holds Try.pinned (OpenSpec.ofChange puzzleWalksSpec)

/-- ITS FALSE NEIGHBOUR: 'it returns false'. Refute it at one input. -/
def puzzleWalksWrong : ChangeSpec := { name := "puzzleWalks", fn := fun _ => fun
  | [d1, d2, d3, d4, d5] => { results := [.lit (.bool false)], args := [d1, d2, d3, d4, d5] }
  | _ => none }
def PuzzleWalksWrongFalsely : Prop := puzzleWalksRow.holds Try.pinned (OpenSpec.ofChange puzzleWalksWrong)

/-- 'taquinlaw26.PuzzleBack': WHATEVER THE INPUT: true; the input reads as it did. -/
def puzzleBackSpec : ChangeSpec := { name := "puzzleBack", fn := fun _ => fun
  | [d1, d2, d3, d4, d5] => { results := [.lit (.bool true)], args := [d1, d2, d3, d4, d5] }
  | _ => none }
def puzzleBackRow : OpenClaim := { program := "ytenplejkcfhplaa", sum := "1950f9faeee1768c2de714f395943807887923818f1df4488645f878b4df6f95", func := "taquin/taquinlaw26.PuzzleBack", spec := "puzzleBack", unfollowed := true, recurses := true, apart := false }
def PuzzleBackSaid : Prop := puzzleBackRow.holds Try.pinned (OpenSpec.ofChange puzzleBackSpec)

/-- ITS FALSE NEIGHBOUR: 'it returns false'. Refute it at one input. -/
def puzzleBackWrong : ChangeSpec := { name := "puzzleBack", fn := fun _ => fun
  | [d1, d2, d3, d4, d5] => { results := [.lit (.bool false)], args := [d1, d2, d3, d4, d5] }
  | _ => none }
def PuzzleBackWrongFalsely : Prop := puzzleBackRow.holds Try.pinned (OpenSpec.ofChange puzzleBackWrong)

/- THE SECOND FORM. 'bulk': how many values and letters a reading holds, each counted each time it is reached (what is shared counts as often as it is met; a slice's spare places count too). A statement '..UptoSaid' is the law's where the arguments, and the package variables that the reading takes, are together of bulk at most 1048576: NARROWER than '..Said'. Prove '..Said' where nothing that the law and all that it calls make is longer than what came in: it says more and counts as full. Else prove '..UptoSaid'. A law counts once. -/
mutual
def uptoBulk {H : Type} : DataW H → Nat
  | .lit (.string bytes) => bytes.length + 1
  | .lit _ => 1
  | .nil => 1
  | .ptr d => uptoBulk d + 1
  | .slice elems spare => uptoBulkAll elems + uptoBulkAll spare + 1
  | .agg parts => uptoBulkAll parts + 1
  | .iface _ d => uptoBulk d + 1
  | .map entries => uptoBulkEntries entries + 1
  | .held _ => 1
def uptoBulkAll {H : Type} : List (DataW H) → Nat
  | [] => 0
  | d :: r => uptoBulk d + uptoBulkAll r
def uptoBulkEntries {H : Type} : List (Lit × DataW H) → Nat
  | [] => 0
  | x :: r => uptoBulkEntry x + uptoBulkEntries r
def uptoBulkEntry {H : Type} : Lit × DataW H → Nat
  | (.string bytes, d) => bytes.length + uptoBulk d + 1
  | (_, d) => uptoBulk d + 1
 end
def uptoSmall : (H : Type) → List (DataW H) → Bool := fun _ ds => decide (uptoBulkAll ds ≤ 1048576)
def OpenSpec.upto (s : _root_.Go.ChangeSpec) : _root_.Go.OpenSpec := { _root_.Go.OpenSpec.ofChange s with cond := some uptoSmall }

/-- 'taquinlaw26.PuzzleTells', WHERE WHAT IT READS IS OF BULK AT MOST 1048576: true; the input reads as it did. -/
def puzzleTellsUptoRow : OpenClaim := { program := "ytenplejkcfhplaa", sum := "1950f9faeee1768c2de714f395943807887923818f1df4488645f878b4df6f95", func := "taquin/taquinlaw26.PuzzleTells", spec := "puzzleTells", unfollowed := true, recurses := true, apart := false, narrowed := true }
def PuzzleTellsUptoSaid : Prop := puzzleTellsUptoRow.holds Try.pinned (OpenSpec.upto puzzleTellsSpec)

/-- 'taquinlaw26.PuzzleSteps', WHERE WHAT IT READS IS OF BULK AT MOST 1048576: true; the input reads as it did. -/
def puzzleStepsUptoRow : OpenClaim := { program := "ytenplejkcfhplaa", sum := "1950f9faeee1768c2de714f395943807887923818f1df4488645f878b4df6f95", func := "taquin/taquinlaw26.PuzzleSteps", spec := "puzzleSteps", unfollowed := true, recurses := true, apart := false, narrowed := true }
def PuzzleStepsUptoSaid : Prop := puzzleStepsUptoRow.holds Try.pinned (OpenSpec.upto puzzleStepsSpec)

/-- 'taquinlaw26.PuzzleSolves', WHERE WHAT IT READS IS OF BULK AT MOST 1048576: true; the input reads as it did. -/
def puzzleSolvesUptoRow : OpenClaim := { program := "ytenplejkcfhplaa", sum := "1950f9faeee1768c2de714f395943807887923818f1df4488645f878b4df6f95", func := "taquin/taquinlaw26.PuzzleSolves", spec := "puzzleSolves", unfollowed := true, recurses := true, apart := false, narrowed := true }
def PuzzleSolvesUptoSaid : Prop := puzzleSolvesUptoRow.holds Try.pinned (OpenSpec.upto puzzleSolvesSpec)

/-- 'taquinlaw26.PuzzleWalks', WHERE WHAT IT READS IS OF BULK AT MOST 1048576: true; the input reads as it did. -/
def puzzleWalksUptoRow : OpenClaim := { program := "ytenplejkcfhplaa", sum := "1950f9faeee1768c2de714f395943807887923818f1df4488645f878b4df6f95", func := "taquin/taquinlaw26.PuzzleWalks", spec := "puzzleWalks", unfollowed := true, recurses := true, apart := false, narrowed := true }
def PuzzleWalksUptoSaid : Prop := puzzleWalksUptoRow.holds Try.pinned (OpenSpec.upto puzzleWalksSpec)

/-- 'taquinlaw26.PuzzleBack', WHERE WHAT IT READS IS OF BULK AT MOST 1048576: true; the input reads as it did. -/
def puzzleBackUptoRow : OpenClaim := { program := "ytenplejkcfhplaa", sum := "1950f9faeee1768c2de714f395943807887923818f1df4488645f878b4df6f95", func := "taquin/taquinlaw26.PuzzleBack", spec := "puzzleBack", unfollowed := true, recurses := true, apart := false, narrowed := true }
def PuzzleBackUptoSaid : Prop := puzzleBackUptoRow.holds Try.pinned (OpenSpec.upto puzzleBackSpec)

end Rows
end Go.Proofs.Ytenplejkcfhplaa
