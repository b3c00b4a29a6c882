/-
  No cell of these rows narrows 'for every input' (looked for: loops, veiled, ifaces, maps, wideKeys, modest, calm, conditions, laid).
  DERIVED. THE GIVEN ROWS OF THIS SEAT. 5 by the template 'for every input the law returns true; each argument reads behind the call as it read before'; 0 by the template 'total and deterministic' (their statements: YtghgknhkclpdhaaTotals.lean).
  GIVEN WITH THE SEED: the statements are not yours to turn. If you find one false, say at which input.
  Laid BY PROGRAM, IN A SANDBOX (cutbox-rows.mjs): the forced cells as the released guide's own fill.sh prints them over the translation 19e03e6eef5b7422… (all of the seat's roots in one cut). By AI agents, Wed Nov 11 2026. No macro, syntax, notation, axiom, sorry.
-/
import Derived.Test.YtghgknhkclpdhaaChecked
import GoSem.Claim
import GoSem.ClaimJoined
import GoSem.ClaimMapViews
import Derived.JoinedTies
import Derived.KernelRfl
namespace Go.Proofs.Ytghgknhkclpdhaa
/- THE CELL 'sum', in the pinned program and in every row, IS THE sha256 OF THE DUMP (.gsa) THAT YtghgknhkclpdhaaProg.lean LOADS. Nothing in Lean hashes anything: it is a label: what it is worth is what the hold of that sum in a sandbox is worth. -/
noncomputable def Try.pinned : Pinned := { name := "ytghgknhkclpdhaa", sum := "19e03e6eef5b7422c591690b8a2e90a9b1b8566e5488f703b73e3fc4e6d4dcfc", checked := Try.checked }
namespace Rows
def none {H : Type} : Left H := { results := [], args := [] }

/-- 'taquinlaw27.PatternMore': WHATEVER THE INPUT: true; the input reads as it did. -/
def patternMoreSpec : ChangeSpec := { name := "patternMore", fn := fun _ => fun
  | [d1, d2, d3, d4, d5] => { results := [.lit (.bool true)], args := [d1, d2, d3, d4, d5] }
  | _ => none }
def patternMoreRow : OpenClaim := { program := "ytghgknhkclpdhaa", sum := "19e03e6eef5b7422c591690b8a2e90a9b1b8566e5488f703b73e3fc4e6d4dcfc", func := "taquin/taquinlaw27.PatternMore", spec := "patternMore", unfollowed := true, recurses := true, apart := false }
def PatternMoreSaid : Prop := patternMoreRow.holds Try.pinned (OpenSpec.ofChange patternMoreSpec)

/-- ITS FALSE NEIGHBOUR: 'it returns false'. Refute it at one input. -/
def patternMoreWrong : ChangeSpec := { name := "patternMore", fn := fun _ => fun
  | [d1, d2, d3, d4, d5] => { results := [.lit (.bool false)], args := [d1, d2, d3, d4, d5] }
  | _ => none }
def PatternMoreWrongFalsely : Prop := patternMoreRow.holds Try.pinned (OpenSpec.ofChange patternMoreWrong)

/-- 'taquinlaw27.PatternConsistent': WHATEVER THE INPUT: true; the input reads as it did. -/
def patternConsistentSpec : ChangeSpec := { name := "patternConsistent", fn := fun _ => fun
  | [d1, d2, d3, d4, d5] => { results := [.lit (.bool true)], args := [d1, d2, d3, d4, d5] }
  | _ => none }
def patternConsistentRow : OpenClaim := { program := "ytghgknhkclpdhaa", sum := "19e03e6eef5b7422c591690b8a2e90a9b1b8566e5488f703b73e3fc4e6d4dcfc", func := "taquin/taquinlaw27.PatternConsistent", spec := "patternConsistent", unfollowed := true, recurses := true, apart := false }
def PatternConsistentSaid : Prop := patternConsistentRow.holds Try.pinned (OpenSpec.ofChange patternConsistentSpec)

/-- ITS FALSE NEIGHBOUR: 'it returns false'. Refute it at one input. -/
def patternConsistentWrong : ChangeSpec := { name := "patternConsistent", fn := fun _ => fun
  | [d1, d2, d3, d4, d5] => { results := [.lit (.bool false)], args := [d1, d2, d3, d4, d5] }
  | _ => none }
def PatternConsistentWrongFalsely : Prop := patternConsistentRow.holds Try.pinned (OpenSpec.ofChange patternConsistentWrong)

/-- 'taquinlaw27.PatternTells': WHATEVER THE INPUT: true; the input reads as it did. -/
def patternTellsSpec : ChangeSpec := { name := "patternTells", fn := fun _ => fun
  | [d1, d2, d3, d4, d5] => { results := [.lit (.bool true)], args := [d1, d2, d3, d4, d5] }
  | _ => none }
def patternTellsRow : OpenClaim := { program := "ytghgknhkclpdhaa", sum := "19e03e6eef5b7422c591690b8a2e90a9b1b8566e5488f703b73e3fc4e6d4dcfc", func := "taquin/taquinlaw27.PatternTells", spec := "patternTells", unfollowed := true, recurses := true, apart := false }
def PatternTellsSaid : Prop := patternTellsRow.holds Try.pinned (OpenSpec.ofChange patternTellsSpec)

/-- ITS FALSE NEIGHBOUR: 'it returns false'. Refute it at one input. -/
def patternTellsWrong : ChangeSpec := { name := "patternTells", fn := fun _ => fun
  | [d1, d2, d3, d4, d5] => { results := [.lit (.bool false)], args := [d1, d2, d3, d4, d5] }
  | _ => none }
def PatternTellsWrongFalsely : Prop := patternTellsRow.holds Try.pinned (OpenSpec.ofChange patternTellsWrong)

/-- 'taquinlaw27.PatternLimits': WHATEVER THE INPUT: true; the input reads as it did. -/
def patternLimitsSpec : ChangeSpec := { name := "patternLimits", fn := fun _ => fun
  | [d1, d2, d3, d4] => { results := [.lit (.bool true)], args := [d1, d2, d3, d4] }
  | _ => none }
def patternLimitsRow : OpenClaim := { program := "ytghgknhkclpdhaa", sum := "19e03e6eef5b7422c591690b8a2e90a9b1b8566e5488f703b73e3fc4e6d4dcfc", func := "taquin/taquinlaw27.PatternLimits", spec := "patternLimits", unfollowed := true, recurses := true, apart := false }
def PatternLimitsSaid : Prop := patternLimitsRow.holds Try.pinned (OpenSpec.ofChange patternLimitsSpec)

/-- ITS FALSE NEIGHBOUR: 'it returns false'. Refute it at one input. -/
def patternLimitsWrong : ChangeSpec := { name := "patternLimits", fn := fun _ => fun
  | [d1, d2, d3, d4] => { results := [.lit (.bool false)], args := [d1, d2, d3, d4] }
  | _ => none }
def PatternLimitsWrongFalsely : Prop := patternLimitsRow.holds Try.pinned (OpenSpec.ofChange patternLimitsWrong)

/-- 'taquinlaw27.PatternBounds': WHATEVER THE INPUT: true; the input reads as it did. -/
def patternBoundsSpec : ChangeSpec := { name := "patternBounds", fn := fun _ => fun
  | [d1, d2, d3, d4, d5] => { results := [.lit (.bool true)], args := [d1, d2, d3, d4, d5] }
  | _ => none }
def patternBoundsRow : OpenClaim := { program := "ytghgknhkclpdhaa", sum := "19e03e6eef5b7422c591690b8a2e90a9b1b8566e5488f703b73e3fc4e6d4dcfc", func := "taquin/taquinlaw27.PatternBounds", spec := "patternBounds", unfollowed := true, recurses := true, apart := false }
def PatternBoundsSaid : Prop := patternBoundsRow.holds Try.pinned (OpenSpec.ofChange patternBoundsSpec)

/-- ITS FALSE NEIGHBOUR: 'it returns false'. Refute it at one input. -/
def patternBoundsWrong : ChangeSpec := { name := "patternBounds", fn := fun _ => fun
  | [d1, d2, d3, d4, d5] => { results := [.lit (.bool false)], args := [d1, d2, d3, d4, d5] }
  | _ => none }
def PatternBoundsWrongFalsely : Prop := patternBoundsRow.holds Try.pinned (OpenSpec.ofChange patternBoundsWrong)

/- THE SECOND FORM. 'bulk': how many values and letters a reading holds, each counted each time it is reached (what is shared counts as often as it is met; a slice's spare places count too). A statement '..UptoSaid' is the law's where the arguments, and the package variables that the reading takes, are together of bulk at most 1048576: NARROWER than '..Said'. Prove '..Said' where nothing that the law and all that it calls make is longer than what came in: it says more and counts as full. Else prove '..UptoSaid'. A law counts once. -/
mutual
def uptoBulk {H : Type} : DataW H → Nat
  | .lit (.string bytes) => bytes.length + 1
  | .lit _ => 1
  | .nil => 1
  | .ptr d => uptoBulk d + 1
  | .slice elems spare => uptoBulkAll elems + uptoBulkAll spare + 1
  | .agg parts => uptoBulkAll parts + 1
  | .iface _ d => uptoBulk d + 1
  | .map entries => uptoBulkEntries entries + 1
  | .held _ => 1
def uptoBulkAll {H : Type} : List (DataW H) → Nat
  | [] => 0
  | d :: r => uptoBulk d + uptoBulkAll r
def uptoBulkEntries {H : Type} : List (Lit × DataW H) → Nat
  | [] => 0
  | x :: r => uptoBulkEntry x + uptoBulkEntries r
def uptoBulkEntry {H : Type} : Lit × DataW H → Nat
  | (.string bytes, d) => bytes.length + uptoBulk d + 1
  | (_, d) => uptoBulk d + 1
 end
def uptoSmall : (H : Type) → List (DataW H) → Bool := fun _ ds => decide (uptoBulkAll ds ≤ 1048576)
def OpenSpec.upto (s : _root_.Go.ChangeSpec) : _root_.Go.OpenSpec := { _root_.Go.OpenSpec.ofChange s with cond := some uptoSmall }

/-- 'taquinlaw27.PatternMore', WHERE WHAT IT READS IS OF BULK AT MOST 1048576: true; the input reads as it did. -/
def patternMoreUptoRow : OpenClaim := { program := "ytghgknhkclpdhaa", sum := "19e03e6eef5b7422c591690b8a2e90a9b1b8566e5488f703b73e3fc4e6d4dcfc", func := "taquin/taquinlaw27.PatternMore", spec := "patternMore", unfollowed := true, recurses := true, apart := false, narrowed := true }
def PatternMoreUptoSaid : Prop := patternMoreUptoRow.holds Try.pinned (OpenSpec.upto patternMoreSpec)

/-- 'taquinlaw27.PatternConsistent', WHERE WHAT IT READS IS OF BULK AT MOST 1048576: true; the input reads as it did. -/
def patternConsistentUptoRow : OpenClaim := { program := "ytghgknhkclpdhaa", sum := "19e03e6eef5b7422c591690b8a2e90a9b1b8566e5488f703b73e3fc4e6d4dcfc", func := "taquin/taquinlaw27.PatternConsistent", spec := "patternConsistent", unfollowed := true, recurses := true, apart := false, narrowed := true }
def PatternConsistentUptoSaid : Prop := patternConsistentUptoRow.holds Try.pinned (OpenSpec.upto patternConsistentSpec)

/-- 'taquinlaw27.PatternTells', WHERE WHAT IT READS IS OF BULK AT MOST 1048576: true; the input reads as it did. -/
def patternTellsUptoRow : OpenClaim := { program := "ytghgknhkclpdhaa", sum := "19e03e6eef5b7422c591690b8a2e90a9b1b8566e5488f703b73e3fc4e6d4dcfc", func := "taquin/taquinlaw27.PatternTells", spec := "patternTells", unfollowed := true, recurses := true, apart := false, narrowed := true }
def PatternTellsUptoSaid : Prop := patternTellsUptoRow.holds Try.pinned (OpenSpec.upto patternTellsSpec)

/-- 'taquinlaw27.PatternLimits', WHERE WHAT IT READS IS OF BULK AT MOST 1048576: true; the input reads as it did. -/
def patternLimitsUptoRow : OpenClaim := { program := "ytghgknhkclpdhaa", sum := "19e03e6eef5b7422c591690b8a2e90a9b1b8566e5488f703b73e3fc4e6d4dcfc", func := "taquin/taquinlaw27.PatternLimits", spec := "patternLimits", unfollowed := true, recurses := true, apart := false, narrowed := true }
def PatternLimitsUptoSaid : Prop := patternLimitsUptoRow.holds Try.pinned (OpenSpec.upto patternLimitsSpec)

/-- 'taquinlaw27.PatternBounds', WHERE WHAT IT READS IS OF BULK AT MOST 1048576: true; the input reads as it did. -/
def patternBoundsUptoRow : OpenClaim := { program := "ytghgknhkclpdhaa", sum := "19e03e6eef5b7422c591690b8a2e90a9b1b8566e5488f703b73e3fc4e6d4dcfc", func := "taquin/taquinlaw27.PatternBounds", spec := "patternBounds", unfollowed := true, recurses := true, apart := false, narrowed := true }
def PatternBoundsUptoSaid : Prop := patternBoundsUptoRow.holds Try.pinned (OpenSpec.upto patternBoundsSpec)

end Rows
end Go.Proofs.Ytghgknhkclpdhaa
