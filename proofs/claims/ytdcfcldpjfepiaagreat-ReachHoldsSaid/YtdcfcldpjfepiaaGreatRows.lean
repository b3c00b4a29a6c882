/-
  No cell of these rows narrows 'for every input' (looked for: loops, veiled, ifaces, maps, wideKeys, modest, calm, conditions, laid).
  DERIVED. THE GIVEN ROWS OF THIS SEAT. 3 by the template 'for every input the law returns true; each argument reads behind the call as it read before'; 0 by the template 'total and deterministic' (their statements: YtdcfcldpjfepiaaGreatTotals.lean).
  GIVEN WITH THE SEED: the statements are not yours to turn. If you find one false, say at which input.
  Laid BY PROGRAM, IN A SANDBOX (cutbox-rows.mjs): the forced cells as the released guide's own fill.sh prints them over the translation e892a958bda5485e… (all of the seat's roots in one cut). By AI agents, Wed Nov 11 2026. No macro, syntax, notation, axiom, sorry.
-/
import Derived.Test.YtdcfcldpjfepiaaGreatChecked
import GoSem.Claim
import GoSem.ClaimJoined
import GoSem.ClaimMapViews
import Derived.JoinedTies
import Derived.KernelRfl
namespace Go.Proofs.YtdcfcldpjfepiaaGreat
/- THE CELL 'sum', in the pinned program and in every row, IS THE sha256 OF THE DUMP (.gsa) THAT YtdcfcldpjfepiaaGreatProg.lean LOADS. Nothing in Lean hashes anything: it is a label: what it is worth is what the hold of that sum in a sandbox is worth. -/
noncomputable def Tryz.pinned : Pinned := { name := "ytdcfcldpjfepiaagreat", sum := "e892a958bda5485e920eb6d9646e2873d87f6cfca2faef4ac0c2eb0c519ac4a7", checked := Tryz.checked }
namespace Rows
def none {H : Type} : Left H := { results := [], args := [] }

/-- 'taquinlaw33.ReachGrants': WHATEVER THE INPUT: true; the input reads as it did. -/
def reachGrantsSpec : ChangeSpec := { name := "reachGrants", fn := fun _ => fun
  | [d1, d2, d3, d4, d5] => { results := [.lit (.bool true)], args := [d1, d2, d3, d4, d5] }
  | _ => none }
def reachGrantsRow : OpenClaim := { program := "ytdcfcldpjfepiaagreat", sum := "e892a958bda5485e920eb6d9646e2873d87f6cfca2faef4ac0c2eb0c519ac4a7", func := "taquin/taquinlaw33.ReachGrants", spec := "reachGrants", inPlace := ["internal/bytealg.IndexByteString"], unfollowed := true, recurses := true, plainKeys := false, apart := false }
def ReachGrantsSaid : Prop := reachGrantsRow.holds Tryz.pinned (OpenSpec.ofChange reachGrantsSpec)

/-- ITS FALSE NEIGHBOUR: 'it returns false'. Refute it at one input. -/
def reachGrantsWrong : ChangeSpec := { name := "reachGrants", fn := fun _ => fun
  | [d1, d2, d3, d4, d5] => { results := [.lit (.bool false)], args := [d1, d2, d3, d4, d5] }
  | _ => none }
def ReachGrantsWrongFalsely : Prop := reachGrantsRow.holds Tryz.pinned (OpenSpec.ofChange reachGrantsWrong)

/-- 'taquinlaw33.ReachTells': WHATEVER THE INPUT: true; the input reads as it did. -/
def reachTellsSpec : ChangeSpec := { name := "reachTells", fn := fun _ => fun
  | [d1, d2, d3, d4, d5, d6, d7] => { results := [.lit (.bool true)], args := [d1, d2, d3, d4, d5, d6, d7] }
  | _ => none }
def reachTellsRow : OpenClaim := { program := "ytdcfcldpjfepiaagreat", sum := "e892a958bda5485e920eb6d9646e2873d87f6cfca2faef4ac0c2eb0c519ac4a7", func := "taquin/taquinlaw33.ReachTells", spec := "reachTells", inPlace := ["internal/bytealg.IndexByteString"], unfollowed := true, recurses := true, plainKeys := false, apart := false }
def ReachTellsSaid : Prop := reachTellsRow.holds Tryz.pinned (OpenSpec.ofChange reachTellsSpec)

/-- ITS FALSE NEIGHBOUR: 'it returns false'. Refute it at one input. -/
def reachTellsWrong : ChangeSpec := { name := "reachTells", fn := fun _ => fun
  | [d1, d2, d3, d4, d5, d6, d7] => { results := [.lit (.bool false)], args := [d1, d2, d3, d4, d5, d6, d7] }
  | _ => none }
def ReachTellsWrongFalsely : Prop := reachTellsRow.holds Tryz.pinned (OpenSpec.ofChange reachTellsWrong)

/-- 'taquinlaw33.ReachHolds': WHATEVER THE INPUT: true; the input reads as it did. -/
def reachHoldsSpec : ChangeSpec := { name := "reachHolds", fn := fun _ => fun
  | [d1, d2, d3, d4, d5, d6, d7, d8] => { results := [.lit (.bool true)], args := [d1, d2, d3, d4, d5, d6, d7, d8] }
  | _ => none }
def reachHoldsRow : OpenClaim := { program := "ytdcfcldpjfepiaagreat", sum := "e892a958bda5485e920eb6d9646e2873d87f6cfca2faef4ac0c2eb0c519ac4a7", func := "taquin/taquinlaw33.ReachHolds", spec := "reachHolds", inPlace := ["internal/bytealg.IndexByteString", "slices.overlaps[taquin/api.Stuck]"], unfollowed := true, recurses := true, plainKeys := false, apart := false }
def ReachHoldsSaid : Prop := reachHoldsRow.holds Tryz.pinned (OpenSpec.ofChange reachHoldsSpec)

/-- ITS FALSE NEIGHBOUR: 'it returns false'. Refute it at one input. -/
def reachHoldsWrong : ChangeSpec := { name := "reachHolds", fn := fun _ => fun
  | [d1, d2, d3, d4, d5, d6, d7, d8] => { results := [.lit (.bool false)], args := [d1, d2, d3, d4, d5, d6, d7, d8] }
  | _ => none }
def ReachHoldsWrongFalsely : Prop := reachHoldsRow.holds Tryz.pinned (OpenSpec.ofChange reachHoldsWrong)

/- THE SECOND FORM. 'bulk': how many values and letters a reading holds, each counted each time it is reached (what is shared counts as often as it is met; a slice's spare places count too). A statement '..UptoSaid' is the law's where the arguments, and the package variables that the reading takes, are together of bulk at most 1048576: NARROWER than '..Said'. Prove '..Said' where nothing that the law and all that it calls make is longer than what came in: it says more and counts as full. Else prove '..UptoSaid'. A law counts once. -/
mutual
def uptoBulk {H : Type} : DataW H → Nat
  | .lit (.string bytes) => bytes.length + 1
  | .lit _ => 1
  | .nil => 1
  | .ptr d => uptoBulk d + 1
  | .slice elems spare => uptoBulkAll elems + uptoBulkAll spare + 1
  | .agg parts => uptoBulkAll parts + 1
  | .iface _ d => uptoBulk d + 1
  | .map entries => uptoBulkEntries entries + 1
  | .held _ => 1
def uptoBulkAll {H : Type} : List (DataW H) → Nat
  | [] => 0
  | d :: r => uptoBulk d + uptoBulkAll r
def uptoBulkEntries {H : Type} : List (Lit × DataW H) → Nat
  | [] => 0
  | x :: r => uptoBulkEntry x + uptoBulkEntries r
def uptoBulkEntry {H : Type} : Lit × DataW H → Nat
  | (.string bytes, d) => bytes.length + uptoBulk d + 1
  | (_, d) => uptoBulk d + 1
 end
def uptoSmall : (H : Type) → List (DataW H) → Bool := fun _ ds => decide (uptoBulkAll ds ≤ 1048576)
def OpenSpec.upto (s : _root_.Go.ChangeSpec) : _root_.Go.OpenSpec := { _root_.Go.OpenSpec.ofChange s with cond := some uptoSmall }

/-- 'taquinlaw33.ReachGrants', WHERE WHAT IT READS IS OF BULK AT MOST 1048576: true; the input reads as it did. -/
def reachGrantsUptoRow : OpenClaim := { program := "ytdcfcldpjfepiaagreat", sum := "e892a958bda5485e920eb6d9646e2873d87f6cfca2faef4ac0c2eb0c519ac4a7", func := "taquin/taquinlaw33.ReachGrants", spec := "reachGrants", inPlace := ["internal/bytealg.IndexByteString"], unfollowed := true, recurses := true, plainKeys := false, apart := false, narrowed := true }
def ReachGrantsUptoSaid : Prop := reachGrantsUptoRow.holds Tryz.pinned (OpenSpec.upto reachGrantsSpec)

/-- 'taquinlaw33.ReachTells', WHERE WHAT IT READS IS OF BULK AT MOST 1048576: true; the input reads as it did. -/
def reachTellsUptoRow : OpenClaim := { program := "ytdcfcldpjfepiaagreat", sum := "e892a958bda5485e920eb6d9646e2873d87f6cfca2faef4ac0c2eb0c519ac4a7", func := "taquin/taquinlaw33.ReachTells", spec := "reachTells", inPlace := ["internal/bytealg.IndexByteString"], unfollowed := true, recurses := true, plainKeys := false, apart := false, narrowed := true }
def ReachTellsUptoSaid : Prop := reachTellsUptoRow.holds Tryz.pinned (OpenSpec.upto reachTellsSpec)

/-- 'taquinlaw33.ReachHolds', WHERE WHAT IT READS IS OF BULK AT MOST 1048576: true; the input reads as it did. -/
def reachHoldsUptoRow : OpenClaim := { program := "ytdcfcldpjfepiaagreat", sum := "e892a958bda5485e920eb6d9646e2873d87f6cfca2faef4ac0c2eb0c519ac4a7", func := "taquin/taquinlaw33.ReachHolds", spec := "reachHolds", inPlace := ["internal/bytealg.IndexByteString", "slices.overlaps[taquin/api.Stuck]"], unfollowed := true, recurses := true, plainKeys := false, apart := false, narrowed := true }
def ReachHoldsUptoSaid : Prop := reachHoldsUptoRow.holds Tryz.pinned (OpenSpec.upto reachHoldsSpec)

end Rows
end Go.Proofs.YtdcfcldpjfepiaaGreat
