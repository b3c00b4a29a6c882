/-
  No cell of these rows narrows 'for every input' (looked for: loops, veiled, ifaces, maps, wideKeys, modest, calm, conditions, laid).
  DERIVED. THE GIVEN ROWS OF THIS SEAT. 5 by the template 'for every input the law returns true; each argument reads behind the call as it read before'; 0 by the template 'total and deterministic' (their statements: YtghoacejnmgldaaTotals.lean).
  GIVEN WITH THE SEED: the statements are not yours to turn. If you find one false, say at which input.
  Laid BY PROGRAM, IN A SANDBOX (cutbox-rows.mjs): the forced cells as the released guide's own fill.sh prints them over the translation cc7e3a21dc6aae4d… (all of the seat's roots in one cut). By AI agents, Wed Nov 11 2026. No macro, syntax, notation, axiom, sorry.
-/
import Derived.Test.YtghoacejnmgldaaChecked
import GoSem.Claim
import GoSem.ClaimJoined
import GoSem.ClaimMapViews
import Derived.JoinedTies
import Derived.KernelRfl
namespace Go.Proofs.Ytghoacejnmgldaa
/- THE CELL 'sum', in the pinned program and in every row, IS THE sha256 OF THE DUMP (.gsa) THAT YtghoacejnmgldaaProg.lean LOADS. Nothing in Lean hashes anything: it is a label: what it is worth is what the hold of that sum in a sandbox is worth. -/
noncomputable def Try.pinned : Pinned := { name := "ytghoacejnmgldaa", sum := "cc7e3a21dc6aae4dc356defc8d97dce8788c74cd5ea3637a9a90e088bf01ed53", checked := Try.checked }
namespace Rows
def none {H : Type} : Left H := { results := [], args := [] }

/-- 'taquinlaw43.BatchDue': WHATEVER THE INPUT: true; the input reads as it did. -/
def batchDueSpec : ChangeSpec := { name := "batchDue", fn := fun _ => fun
  | [d1, d2, d3] => { results := [.lit (.bool true)], args := [d1, d2, d3] }
  | _ => none }
def batchDueRow : OpenClaim := { program := "ytghoacejnmgldaa", sum := "cc7e3a21dc6aae4dc356defc8d97dce8788c74cd5ea3637a9a90e088bf01ed53", func := "taquin/taquinlaw43.BatchDue", spec := "batchDue", inPlace := ["slices.overlaps[int]"], unfollowed := true, recurses := true, apart := false }
def BatchDueSaid : Prop := batchDueRow.holds Try.pinned (OpenSpec.ofChange batchDueSpec)

/-- ITS FALSE NEIGHBOUR: 'it returns false'. Refute it at one input. -/
def batchDueWrong : ChangeSpec := { name := "batchDue", fn := fun _ => fun
  | [d1, d2, d3] => { results := [.lit (.bool false)], args := [d1, d2, d3] }
  | _ => none }
def BatchDueWrongFalsely : Prop := batchDueRow.holds Try.pinned (OpenSpec.ofChange batchDueWrong)

/-- 'taquinlaw43.BatchInTime': WHATEVER THE INPUT: true; the input reads as it did. -/
def batchInTimeSpec : ChangeSpec := { name := "batchInTime", fn := fun _ => fun
  | [d1, d2, d3] => { results := [.lit (.bool true)], args := [d1, d2, d3] }
  | _ => none }
def batchInTimeRow : OpenClaim := { program := "ytghoacejnmgldaa", sum := "cc7e3a21dc6aae4dc356defc8d97dce8788c74cd5ea3637a9a90e088bf01ed53", func := "taquin/taquinlaw43.BatchInTime", spec := "batchInTime", inPlace := ["slices.overlaps[int]"], unfollowed := true, recurses := true, apart := false }
def BatchInTimeSaid : Prop := batchInTimeRow.holds Try.pinned (OpenSpec.ofChange batchInTimeSpec)

/-- ITS FALSE NEIGHBOUR: 'it returns false'. Refute it at one input. -/
def batchInTimeWrong : ChangeSpec := { name := "batchInTime", fn := fun _ => fun
  | [d1, d2, d3] => { results := [.lit (.bool false)], args := [d1, d2, d3] }
  | _ => none }
def BatchInTimeWrongFalsely : Prop := batchInTimeRow.holds Try.pinned (OpenSpec.ofChange batchInTimeWrong)

/-- 'taquinlaw43.BatchMerges': WHATEVER THE INPUT: true; the input reads as it did. -/
def batchMergesSpec : ChangeSpec := { name := "batchMerges", fn := fun _ => fun
  | [d1, d2] => { results := [.lit (.bool true)], args := [d1, d2] }
  | _ => none }
def batchMergesRow : OpenClaim := { program := "ytghoacejnmgldaa", sum := "cc7e3a21dc6aae4dc356defc8d97dce8788c74cd5ea3637a9a90e088bf01ed53", func := "taquin/taquinlaw43.BatchMerges", spec := "batchMerges", inPlace := ["slices.overlaps[int]"], unfollowed := true, recurses := true, apart := false }
def BatchMergesSaid : Prop := batchMergesRow.holds Try.pinned (OpenSpec.ofChange batchMergesSpec)

/-- ITS FALSE NEIGHBOUR: 'it returns false'. Refute it at one input. -/
def batchMergesWrong : ChangeSpec := { name := "batchMerges", fn := fun _ => fun
  | [d1, d2] => { results := [.lit (.bool false)], args := [d1, d2] }
  | _ => none }
def BatchMergesWrongFalsely : Prop := batchMergesRow.holds Try.pinned (OpenSpec.ofChange batchMergesWrong)

/-- 'taquinlaw43.BatchMore': WHATEVER THE INPUT: true; the input reads as it did. -/
def batchMoreSpec : ChangeSpec := { name := "batchMore", fn := fun _ => fun
  | [d1, d2, d3, d4] => { results := [.lit (.bool true)], args := [d1, d2, d3, d4] }
  | _ => none }
def batchMoreRow : OpenClaim := { program := "ytghoacejnmgldaa", sum := "cc7e3a21dc6aae4dc356defc8d97dce8788c74cd5ea3637a9a90e088bf01ed53", func := "taquin/taquinlaw43.BatchMore", spec := "batchMore", inPlace := ["slices.overlaps[int]"], unfollowed := true, recurses := true, apart := false }
def BatchMoreSaid : Prop := batchMoreRow.holds Try.pinned (OpenSpec.ofChange batchMoreSpec)

/-- ITS FALSE NEIGHBOUR: 'it returns false'. Refute it at one input. -/
def batchMoreWrong : ChangeSpec := { name := "batchMore", fn := fun _ => fun
  | [d1, d2, d3, d4] => { results := [.lit (.bool false)], args := [d1, d2, d3, d4] }
  | _ => none }
def BatchMoreWrongFalsely : Prop := batchMoreRow.holds Try.pinned (OpenSpec.ofChange batchMoreWrong)

/-- 'taquinlaw43.BatchTells': WHATEVER THE INPUT: true; the input reads as it did. -/
def batchTellsSpec : ChangeSpec := { name := "batchTells", fn := fun _ => fun
  | [d1, d2, d3, d4] => { results := [.lit (.bool true)], args := [d1, d2, d3, d4] }
  | _ => none }
def batchTellsRow : OpenClaim := { program := "ytghoacejnmgldaa", sum := "cc7e3a21dc6aae4dc356defc8d97dce8788c74cd5ea3637a9a90e088bf01ed53", func := "taquin/taquinlaw43.BatchTells", spec := "batchTells", inPlace := ["slices.overlaps[int]"], unfollowed := true, recurses := true, apart := false }
def BatchTellsSaid : Prop := batchTellsRow.holds Try.pinned (OpenSpec.ofChange batchTellsSpec)

/-- ITS FALSE NEIGHBOUR: 'it returns false'. Refute it at one input. -/
def batchTellsWrong : ChangeSpec := { name := "batchTells", fn := fun _ => fun
  | [d1, d2, d3, d4] => { results := [.lit (.bool false)], args := [d1, d2, d3, d4] }
  | _ => none }
def BatchTellsWrongFalsely : Prop := batchTellsRow.holds Try.pinned (OpenSpec.ofChange batchTellsWrong)

/- THE SECOND FORM. 'bulk': how many values and letters a reading holds, each counted each time it is reached (what is shared counts as often as it is met; a slice's spare places count too). A statement '..UptoSaid' is the law's where the arguments, and the package variables that the reading takes, are together of bulk at most 1048576: NARROWER than '..Said'. Prove '..Said' where nothing that the law and all that it calls make is longer than what came in: it says more and counts as full. Else prove '..UptoSaid'. A law counts once. -/
mutual
def uptoBulk {H : Type} : DataW H → Nat
  | .lit (.string bytes) => bytes.length + 1
  | .lit _ => 1
  | .nil => 1
  | .ptr d => uptoBulk d + 1
  | .slice elems spare => uptoBulkAll elems + uptoBulkAll spare + 1
  | .agg parts => uptoBulkAll parts + 1
  | .iface _ d => uptoBulk d + 1
  | .map entries => uptoBulkEntries entries + 1
  | .held _ => 1
def uptoBulkAll {H : Type} : List (DataW H) → Nat
  | [] => 0
  | d :: r => uptoBulk d + uptoBulkAll r
def uptoBulkEntries {H : Type} : List (Lit × DataW H) → Nat
  | [] => 0
  | x :: r => uptoBulkEntry x + uptoBulkEntries r
def uptoBulkEntry {H : Type} : Lit × DataW H → Nat
  | (.string bytes, d) => bytes.length + uptoBulk d + 1
  | (_, d) => uptoBulk d + 1
 end
def uptoSmall : (H : Type) → List (DataW H) → Bool := fun _ ds => decide (uptoBulkAll ds ≤ 1048576)
def OpenSpec.upto (s : _root_.Go.ChangeSpec) : _root_.Go.OpenSpec := { _root_.Go.OpenSpec.ofChange s with cond := some uptoSmall }

/-- 'taquinlaw43.BatchDue', WHERE WHAT IT READS IS OF BULK AT MOST 1048576: true; the input reads as it did. -/
def batchDueUptoRow : OpenClaim := { program := "ytghoacejnmgldaa", sum := "cc7e3a21dc6aae4dc356defc8d97dce8788c74cd5ea3637a9a90e088bf01ed53", func := "taquin/taquinlaw43.BatchDue", spec := "batchDue", inPlace := ["slices.overlaps[int]"], unfollowed := true, recurses := true, apart := false, narrowed := true }
def BatchDueUptoSaid : Prop := batchDueUptoRow.holds Try.pinned (OpenSpec.upto batchDueSpec)

/-- 'taquinlaw43.BatchInTime', WHERE WHAT IT READS IS OF BULK AT MOST 1048576: true; the input reads as it did. -/
def batchInTimeUptoRow : OpenClaim := { program := "ytghoacejnmgldaa", sum := "cc7e3a21dc6aae4dc356defc8d97dce8788c74cd5ea3637a9a90e088bf01ed53", func := "taquin/taquinlaw43.BatchInTime", spec := "batchInTime", inPlace := ["slices.overlaps[int]"], unfollowed := true, recurses := true, apart := false, narrowed := true }
def BatchInTimeUptoSaid : Prop := batchInTimeUptoRow.holds Try.pinned (OpenSpec.upto batchInTimeSpec)

/-- 'taquinlaw43.BatchMerges', WHERE WHAT IT READS IS OF BULK AT MOST 1048576: true; the input reads as it did. -/
def batchMergesUptoRow : OpenClaim := { program := "ytghoacejnmgldaa", sum := "cc7e3a21dc6aae4dc356defc8d97dce8788c74cd5ea3637a9a90e088bf01ed53", func := "taquin/taquinlaw43.BatchMerges", spec := "batchMerges", inPlace := ["slices.overlaps[int]"], unfollowed := true, recurses := true, apart := false, narrowed := true }
def BatchMergesUptoSaid : Prop := batchMergesUptoRow.holds Try.pinned (OpenSpec.upto batchMergesSpec)

/-- 'taquinlaw43.BatchMore', WHERE WHAT IT READS IS OF BULK AT MOST 1048576: true; the input reads as it did. -/
def batchMoreUptoRow : OpenClaim := { program := "ytghoacejnmgldaa", sum := "cc7e3a21dc6aae4dc356defc8d97dce8788c74cd5ea3637a9a90e088bf01ed53", func := "taquin/taquinlaw43.BatchMore", spec := "batchMore", inPlace := ["slices.overlaps[int]"], unfollowed := true, recurses := true, apart := false, narrowed := true }
def BatchMoreUptoSaid : Prop := batchMoreUptoRow.holds Try.pinned (OpenSpec.upto batchMoreSpec)

/-- 'taquinlaw43.BatchTells', WHERE WHAT IT READS IS OF BULK AT MOST 1048576: true; the input reads as it did. -/
def batchTellsUptoRow : OpenClaim := { program := "ytghoacejnmgldaa", sum := "cc7e3a21dc6aae4dc356defc8d97dce8788c74cd5ea3637a9a90e088bf01ed53", func := "taquin/taquinlaw43.BatchTells", spec := "batchTells", inPlace := ["slices.overlaps[int]"], unfollowed := true, recurses := true, apart := false, narrowed := true }
def BatchTellsUptoSaid : Prop := batchTellsUptoRow.holds Try.pinned (OpenSpec.upto batchTellsSpec)

end Rows
end Go.Proofs.Ytghoacejnmgldaa
