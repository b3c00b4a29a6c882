/-
  No cell of these rows narrows 'for every input' (looked for: loops, veiled, ifaces, maps, wideKeys, modest, calm, conditions, laid).
  DERIVED. THE GIVEN ROWS OF THIS SEAT. 5 by the template 'for every input the law returns true; each argument reads behind the call as it read before'; 0 by the template 'total and deterministic' (their statements: YtbkpekodmhkbdaaGreatTotals.lean).
  GIVEN WITH THE SEED: the statements are not yours to turn. If you find one false, say at which input.
  Laid BY PROGRAM, IN A SANDBOX (cutbox-rows.mjs): the forced cells as the released guide's own fill.sh prints them over the translation 20d3ab0960a40f81… (all of the seat's roots in one cut). By AI agents, Wed Nov 11 2026. No macro, syntax, notation, axiom, sorry.
-/
import Derived.Test.YtbkpekodmhkbdaaGreatChecked
import GoSem.Claim
import GoSem.ClaimJoined
import GoSem.ClaimMapViews
import Derived.JoinedTies
import Derived.KernelRfl
namespace Go.Proofs.YtbkpekodmhkbdaaGreat
/- THE CELL 'sum', in the pinned program and in every row, IS THE sha256 OF THE DUMP (.gsa) THAT YtbkpekodmhkbdaaGreatProg.lean LOADS. Nothing in Lean hashes anything: it is a label: what it is worth is what the hold of that sum in a sandbox is worth. -/
noncomputable def Tryz.pinned : Pinned := { name := "ytbkpekodmhkbdaagreat", sum := "20d3ab0960a40f81dd1848f209ebb739e617fe98f17490c5a864db979ede5ec9", checked := Tryz.checked }
namespace Rows
def none {H : Type} : Left H := { results := [], args := [] }

/-- 'taquinlaw21.BankTells': WHATEVER THE INPUT: true; the input reads as it did. -/
def bankTellsSpec : ChangeSpec := { name := "bankTells", fn := fun _ => fun
  | [d1, d2, d3, d4, d5] => { results := [.lit (.bool true)], args := [d1, d2, d3, d4, d5] }
  | _ => none }
def bankTellsRow : OpenClaim := { program := "ytbkpekodmhkbdaagreat", sum := "20d3ab0960a40f81dd1848f209ebb739e617fe98f17490c5a864db979ede5ec9", func := "taquin/taquinlaw21.BankTells", spec := "bankTells", inPlace := ["internal/bytealg.IndexByteString"], unfollowed := true, recurses := true, plainKeys := false, apart := false }
def BankTellsSaid : Prop := bankTellsRow.holds Tryz.pinned (OpenSpec.ofChange bankTellsSpec)

/-- ITS FALSE NEIGHBOUR: 'it returns false'. Refute it at one input. -/
def bankTellsWrong : ChangeSpec := { name := "bankTells", fn := fun _ => fun
  | [d1, d2, d3, d4, d5] => { results := [.lit (.bool false)], args := [d1, d2, d3, d4, d5] }
  | _ => none }
def BankTellsWrongFalsely : Prop := bankTellsRow.holds Tryz.pinned (OpenSpec.ofChange bankTellsWrong)

/-- 'taquinlaw21.BankFinds': WHATEVER THE INPUT: true; the input reads as it did. -/
def bankFindsSpec : ChangeSpec := { name := "bankFinds", fn := fun _ => fun
  | [d1, d2, d3, d4] => { results := [.lit (.bool true)], args := [d1, d2, d3, d4] }
  | _ => none }
def bankFindsRow : OpenClaim := { program := "ytbkpekodmhkbdaagreat", sum := "20d3ab0960a40f81dd1848f209ebb739e617fe98f17490c5a864db979ede5ec9", func := "taquin/taquinlaw21.BankFinds", spec := "bankFinds", inPlace := ["internal/bytealg.IndexByteString"], unfollowed := true, recurses := true, plainKeys := false, apart := false }
def BankFindsSaid : Prop := bankFindsRow.holds Tryz.pinned (OpenSpec.ofChange bankFindsSpec)

/-- ITS FALSE NEIGHBOUR: 'it returns false'. Refute it at one input. -/
def bankFindsWrong : ChangeSpec := { name := "bankFinds", fn := fun _ => fun
  | [d1, d2, d3, d4] => { results := [.lit (.bool false)], args := [d1, d2, d3, d4] }
  | _ => none }
def BankFindsWrongFalsely : Prop := bankFindsRow.holds Tryz.pinned (OpenSpec.ofChange bankFindsWrong)

/-- 'taquinlaw21.BankGrows': WHATEVER THE INPUT: true; the input reads as it did. -/
def bankGrowsSpec : ChangeSpec := { name := "bankGrows", fn := fun _ => fun
  | [d1, d2, d3, d4, d5, d6] => { results := [.lit (.bool true)], args := [d1, d2, d3, d4, d5, d6] }
  | _ => none }
def bankGrowsRow : OpenClaim := { program := "ytbkpekodmhkbdaagreat", sum := "20d3ab0960a40f81dd1848f209ebb739e617fe98f17490c5a864db979ede5ec9", func := "taquin/taquinlaw21.BankGrows", spec := "bankGrows", inPlace := ["internal/bytealg.IndexByteString"], unfollowed := true, recurses := true, plainKeys := false, apart := false }
def BankGrowsSaid : Prop := bankGrowsRow.holds Tryz.pinned (OpenSpec.ofChange bankGrowsSpec)

/-- ITS FALSE NEIGHBOUR: 'it returns false'. Refute it at one input. -/
def bankGrowsWrong : ChangeSpec := { name := "bankGrows", fn := fun _ => fun
  | [d1, d2, d3, d4, d5, d6] => { results := [.lit (.bool false)], args := [d1, d2, d3, d4, d5, d6] }
  | _ => none }
def BankGrowsWrongFalsely : Prop := bankGrowsRow.holds Tryz.pinned (OpenSpec.ofChange bankGrowsWrong)

/-- 'taquinlaw21.BankFewer': WHATEVER THE INPUT: true; the input reads as it did. -/
def bankFewerSpec : ChangeSpec := { name := "bankFewer", fn := fun _ => fun
  | [d1, d2, d3, d4] => { results := [.lit (.bool true)], args := [d1, d2, d3, d4] }
  | _ => none }
def bankFewerRow : OpenClaim := { program := "ytbkpekodmhkbdaagreat", sum := "20d3ab0960a40f81dd1848f209ebb739e617fe98f17490c5a864db979ede5ec9", func := "taquin/taquinlaw21.BankFewer", spec := "bankFewer", inPlace := ["internal/bytealg.IndexByteString"], unfollowed := true, recurses := true, plainKeys := false, apart := false }
def BankFewerSaid : Prop := bankFewerRow.holds Tryz.pinned (OpenSpec.ofChange bankFewerSpec)

/-- ITS FALSE NEIGHBOUR: 'it returns false'. Refute it at one input. -/
def bankFewerWrong : ChangeSpec := { name := "bankFewer", fn := fun _ => fun
  | [d1, d2, d3, d4] => { results := [.lit (.bool false)], args := [d1, d2, d3, d4] }
  | _ => none }
def BankFewerWrongFalsely : Prop := bankFewerRow.holds Tryz.pinned (OpenSpec.ofChange bankFewerWrong)

/-- 'taquinlaw21.BankLeads': WHATEVER THE INPUT: true; the input reads as it did. -/
def bankLeadsSpec : ChangeSpec := { name := "bankLeads", fn := fun _ => fun
  | [d1, d2, d3] => { results := [.lit (.bool true)], args := [d1, d2, d3] }
  | _ => none }
def bankLeadsRow : OpenClaim := { program := "ytbkpekodmhkbdaagreat", sum := "20d3ab0960a40f81dd1848f209ebb739e617fe98f17490c5a864db979ede5ec9", func := "taquin/taquinlaw21.BankLeads", spec := "bankLeads", inPlace := ["internal/bytealg.IndexByteString", "slices.overlaps[taquin/api.Stuck]"], unfollowed := true, recurses := true, plainKeys := false, apart := false }
def BankLeadsSaid : Prop := bankLeadsRow.holds Tryz.pinned (OpenSpec.ofChange bankLeadsSpec)

/-- ITS FALSE NEIGHBOUR: 'it returns false'. Refute it at one input. -/
def bankLeadsWrong : ChangeSpec := { name := "bankLeads", fn := fun _ => fun
  | [d1, d2, d3] => { results := [.lit (.bool false)], args := [d1, d2, d3] }
  | _ => none }
def BankLeadsWrongFalsely : Prop := bankLeadsRow.holds Tryz.pinned (OpenSpec.ofChange bankLeadsWrong)

/- THE SECOND FORM. 'bulk': how many values and letters a reading holds, each counted each time it is reached (what is shared counts as often as it is met; a slice's spare places count too). A statement '..UptoSaid' is the law's where the arguments, and the package variables that the reading takes, are together of bulk at most 1048576: NARROWER than '..Said'. Prove '..Said' where nothing that the law and all that it calls make is longer than what came in: it says more and counts as full. Else prove '..UptoSaid'. A law counts once. -/
mutual
def uptoBulk {H : Type} : DataW H → Nat
  | .lit (.string bytes) => bytes.length + 1
  | .lit _ => 1
  | .nil => 1
  | .ptr d => uptoBulk d + 1
  | .slice elems spare => uptoBulkAll elems + uptoBulkAll spare + 1
  | .agg parts => uptoBulkAll parts + 1
  | .iface _ d => uptoBulk d + 1
  | .map entries => uptoBulkEntries entries + 1
  | .held _ => 1
def uptoBulkAll {H : Type} : List (DataW H) → Nat
  | [] => 0
  | d :: r => uptoBulk d + uptoBulkAll r
def uptoBulkEntries {H : Type} : List (Lit × DataW H) → Nat
  | [] => 0
  | x :: r => uptoBulkEntry x + uptoBulkEntries r
def uptoBulkEntry {H : Type} : Lit × DataW H → Nat
  | (.string bytes, d) => bytes.length + uptoBulk d + 1
  | (_, d) => uptoBulk d + 1
 end
def uptoSmall : (H : Type) → List (DataW H) → Bool := fun _ ds => decide (uptoBulkAll ds ≤ 1048576)
def OpenSpec.upto (s : _root_.Go.ChangeSpec) : _root_.Go.OpenSpec := { _root_.Go.OpenSpec.ofChange s with cond := some uptoSmall }

/-- 'taquinlaw21.BankTells', WHERE WHAT IT READS IS OF BULK AT MOST 1048576: true; the input reads as it did. -/
def bankTellsUptoRow : OpenClaim := { program := "ytbkpekodmhkbdaagreat", sum := "20d3ab0960a40f81dd1848f209ebb739e617fe98f17490c5a864db979ede5ec9", func := "taquin/taquinlaw21.BankTells", spec := "bankTells", inPlace := ["internal/bytealg.IndexByteString"], unfollowed := true, recurses := true, plainKeys := false, apart := false, narrowed := true }
def BankTellsUptoSaid : Prop := bankTellsUptoRow.holds Tryz.pinned (OpenSpec.upto bankTellsSpec)

/-- 'taquinlaw21.BankFinds', WHERE WHAT IT READS IS OF BULK AT MOST 1048576: true; the input reads as it did. -/
def bankFindsUptoRow : OpenClaim := { program := "ytbkpekodmhkbdaagreat", sum := "20d3ab0960a40f81dd1848f209ebb739e617fe98f17490c5a864db979ede5ec9", func := "taquin/taquinlaw21.BankFinds", spec := "bankFinds", inPlace := ["internal/bytealg.IndexByteString"], unfollowed := true, recurses := true, plainKeys := false, apart := false, narrowed := true }
def BankFindsUptoSaid : Prop := bankFindsUptoRow.holds Tryz.pinned (OpenSpec.upto bankFindsSpec)

/-- 'taquinlaw21.BankGrows', WHERE WHAT IT READS IS OF BULK AT MOST 1048576: true; the input reads as it did. -/
def bankGrowsUptoRow : OpenClaim := { program := "ytbkpekodmhkbdaagreat", sum := "20d3ab0960a40f81dd1848f209ebb739e617fe98f17490c5a864db979ede5ec9", func := "taquin/taquinlaw21.BankGrows", spec := "bankGrows", inPlace := ["internal/bytealg.IndexByteString"], unfollowed := true, recurses := true, plainKeys := false, apart := false, narrowed := true }
def BankGrowsUptoSaid : Prop := bankGrowsUptoRow.holds Tryz.pinned (OpenSpec.upto bankGrowsSpec)

/-- 'taquinlaw21.BankFewer', WHERE WHAT IT READS IS OF BULK AT MOST 1048576: true; the input reads as it did. -/
def bankFewerUptoRow : OpenClaim := { program := "ytbkpekodmhkbdaagreat", sum := "20d3ab0960a40f81dd1848f209ebb739e617fe98f17490c5a864db979ede5ec9", func := "taquin/taquinlaw21.BankFewer", spec := "bankFewer", inPlace := ["internal/bytealg.IndexByteString"], unfollowed := true, recurses := true, plainKeys := false, apart := false, narrowed := true }
def BankFewerUptoSaid : Prop := bankFewerUptoRow.holds Tryz.pinned (OpenSpec.upto bankFewerSpec)

/-- 'taquinlaw21.BankLeads', WHERE WHAT IT READS IS OF BULK AT MOST 1048576: true; the input reads as it did. -/
def bankLeadsUptoRow : OpenClaim := { program := "ytbkpekodmhkbdaagreat", sum := "20d3ab0960a40f81dd1848f209ebb739e617fe98f17490c5a864db979ede5ec9", func := "taquin/taquinlaw21.BankLeads", spec := "bankLeads", inPlace := ["internal/bytealg.IndexByteString", "slices.overlaps[taquin/api.Stuck]"], unfollowed := true, recurses := true, plainKeys := false, apart := false, narrowed := true }
def BankLeadsUptoSaid : Prop := bankLeadsUptoRow.holds Tryz.pinned (OpenSpec.upto bankLeadsSpec)

end Rows
end Go.Proofs.YtbkpekodmhkbdaaGreat
