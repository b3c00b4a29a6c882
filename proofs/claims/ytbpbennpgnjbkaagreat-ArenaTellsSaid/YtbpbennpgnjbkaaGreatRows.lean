/-
  No cell of these rows narrows 'for every input' (looked for: loops, veiled, ifaces, maps, wideKeys, modest, calm, conditions, laid).
  DERIVED. THE GIVEN ROWS OF THIS SEAT. 5 by the template 'for every input the law returns true; each argument reads behind the call as it read before'; 0 by the template 'total and deterministic' (their statements: YtbpbennpgnjbkaaGreatTotals.lean).
  GIVEN WITH THE SEED: the statements are not yours to turn. If you find one false, say at which input.
  Laid BY PROGRAM, IN A SANDBOX (cutbox-rows.mjs): the forced cells as the released guide's own fill.sh prints them over the translation 646bec819623b75c… (all of the seat's roots in one cut). By AI agents, Wed Nov 11 2026. No macro, syntax, notation, axiom, sorry.
-/
import Derived.Test.YtbpbennpgnjbkaaGreatChecked
import GoSem.Claim
import GoSem.ClaimJoined
import GoSem.ClaimMapViews
import Derived.JoinedTies
import Derived.KernelRfl
namespace Go.Proofs.YtbpbennpgnjbkaaGreat
/- THE CELL 'sum', in the pinned program and in every row, IS THE sha256 OF THE DUMP (.gsa) THAT YtbpbennpgnjbkaaGreatProg.lean LOADS. Nothing in Lean hashes anything: it is a label: what it is worth is what the hold of that sum in a sandbox is worth. -/
noncomputable def Tryz.pinned : Pinned := { name := "ytbpbennpgnjbkaagreat", sum := "646bec819623b75c5d307d5a6cbadbcaec6bb6fa922eaf4018cd40b0dba70038", checked := Tryz.checked }
namespace Rows
def none {H : Type} : Left H := { results := [], args := [] }

/-- 'taquinlaw16.ArenaTells': WHATEVER THE INPUT: true; the input reads as it did. -/
def arenaTellsSpec : ChangeSpec := { name := "arenaTells", fn := fun _ => fun
  | [d1, d2, d3] => { results := [.lit (.bool true)], args := [d1, d2, d3] }
  | _ => none }
def arenaTellsRow : OpenClaim := { program := "ytbpbennpgnjbkaagreat", sum := "646bec819623b75c5d307d5a6cbadbcaec6bb6fa922eaf4018cd40b0dba70038", func := "taquin/taquinlaw16.ArenaTells", spec := "arenaTells", inPlace := ["slices.overlaps[taquin/api.Stuck]", "internal/bytealg.IndexByteString"], unfollowed := true, recurses := true, plainKeys := false, apart := false }
def ArenaTellsSaid : Prop := arenaTellsRow.holds Tryz.pinned (OpenSpec.ofChange arenaTellsSpec)

/-- ITS FALSE NEIGHBOUR: 'it returns false'. Refute it at one input. -/
def arenaTellsWrong : ChangeSpec := { name := "arenaTells", fn := fun _ => fun
  | [d1, d2, d3] => { results := [.lit (.bool false)], args := [d1, d2, d3] }
  | _ => none }
def ArenaTellsWrongFalsely : Prop := arenaTellsRow.holds Tryz.pinned (OpenSpec.ofChange arenaTellsWrong)

/-- 'taquinlaw16.ArenaHinders': WHATEVER THE INPUT: true; the input reads as it did. -/
def arenaHindersSpec : ChangeSpec := { name := "arenaHinders", fn := fun _ => fun
  | [d1, d2, d3] => { results := [.lit (.bool true)], args := [d1, d2, d3] }
  | _ => none }
def arenaHindersRow : OpenClaim := { program := "ytbpbennpgnjbkaagreat", sum := "646bec819623b75c5d307d5a6cbadbcaec6bb6fa922eaf4018cd40b0dba70038", func := "taquin/taquinlaw16.ArenaHinders", spec := "arenaHinders", inPlace := ["slices.overlaps[taquin/api.Stuck]", "internal/bytealg.IndexByteString"], unfollowed := true, recurses := true, plainKeys := false, apart := false }
def ArenaHindersSaid : Prop := arenaHindersRow.holds Tryz.pinned (OpenSpec.ofChange arenaHindersSpec)

/-- ITS FALSE NEIGHBOUR: 'it returns false'. Refute it at one input. -/
def arenaHindersWrong : ChangeSpec := { name := "arenaHinders", fn := fun _ => fun
  | [d1, d2, d3] => { results := [.lit (.bool false)], args := [d1, d2, d3] }
  | _ => none }
def ArenaHindersWrongFalsely : Prop := arenaHindersRow.holds Tryz.pinned (OpenSpec.ofChange arenaHindersWrong)

/-- 'taquinlaw16.ArenaSafe': WHATEVER THE INPUT: true; the input reads as it did. -/
def arenaSafeSpec : ChangeSpec := { name := "arenaSafe", fn := fun _ => fun
  | [d1, d2, d3] => { results := [.lit (.bool true)], args := [d1, d2, d3] }
  | _ => none }
def arenaSafeRow : OpenClaim := { program := "ytbpbennpgnjbkaagreat", sum := "646bec819623b75c5d307d5a6cbadbcaec6bb6fa922eaf4018cd40b0dba70038", func := "taquin/taquinlaw16.ArenaSafe", spec := "arenaSafe", inPlace := ["slices.overlaps[taquin/api.Stuck]", "internal/bytealg.IndexByteString"], unfollowed := true, recurses := true, plainKeys := false, apart := false }
def ArenaSafeSaid : Prop := arenaSafeRow.holds Tryz.pinned (OpenSpec.ofChange arenaSafeSpec)

/-- ITS FALSE NEIGHBOUR: 'it returns false'. Refute it at one input. -/
def arenaSafeWrong : ChangeSpec := { name := "arenaSafe", fn := fun _ => fun
  | [d1, d2, d3] => { results := [.lit (.bool false)], args := [d1, d2, d3] }
  | _ => none }
def ArenaSafeWrongFalsely : Prop := arenaSafeRow.holds Tryz.pinned (OpenSpec.ofChange arenaSafeWrong)

/-- 'taquinlaw16.ArenaFaults': WHATEVER THE INPUT: true; the input reads as it did. -/
def arenaFaultsSpec : ChangeSpec := { name := "arenaFaults", fn := fun _ => fun
  | [d1, d2, d3] => { results := [.lit (.bool true)], args := [d1, d2, d3] }
  | _ => none }
def arenaFaultsRow : OpenClaim := { program := "ytbpbennpgnjbkaagreat", sum := "646bec819623b75c5d307d5a6cbadbcaec6bb6fa922eaf4018cd40b0dba70038", func := "taquin/taquinlaw16.ArenaFaults", spec := "arenaFaults", inPlace := ["slices.overlaps[taquin/api.Stuck]", "internal/bytealg.IndexByteString"], unfollowed := true, recurses := true, plainKeys := false, apart := false }
def ArenaFaultsSaid : Prop := arenaFaultsRow.holds Tryz.pinned (OpenSpec.ofChange arenaFaultsSpec)

/-- ITS FALSE NEIGHBOUR: 'it returns false'. Refute it at one input. -/
def arenaFaultsWrong : ChangeSpec := { name := "arenaFaults", fn := fun _ => fun
  | [d1, d2, d3] => { results := [.lit (.bool false)], args := [d1, d2, d3] }
  | _ => none }
def ArenaFaultsWrongFalsely : Prop := arenaFaultsRow.holds Tryz.pinned (OpenSpec.ofChange arenaFaultsWrong)

/-- 'taquinlaw16.ArenaStays': WHATEVER THE INPUT: true; the input reads as it did. -/
def arenaStaysSpec : ChangeSpec := { name := "arenaStays", fn := fun _ => fun
  | [d1, d2, d3] => { results := [.lit (.bool true)], args := [d1, d2, d3] }
  | _ => none }
def arenaStaysRow : OpenClaim := { program := "ytbpbennpgnjbkaagreat", sum := "646bec819623b75c5d307d5a6cbadbcaec6bb6fa922eaf4018cd40b0dba70038", func := "taquin/taquinlaw16.ArenaStays", spec := "arenaStays", inPlace := ["slices.overlaps[taquin/api.Stuck]", "internal/bytealg.IndexByteString"], unfollowed := true, recurses := true, plainKeys := false, apart := false }
def ArenaStaysSaid : Prop := arenaStaysRow.holds Tryz.pinned (OpenSpec.ofChange arenaStaysSpec)

/-- ITS FALSE NEIGHBOUR: 'it returns false'. Refute it at one input. -/
def arenaStaysWrong : ChangeSpec := { name := "arenaStays", fn := fun _ => fun
  | [d1, d2, d3] => { results := [.lit (.bool false)], args := [d1, d2, d3] }
  | _ => none }
def ArenaStaysWrongFalsely : Prop := arenaStaysRow.holds Tryz.pinned (OpenSpec.ofChange arenaStaysWrong)

/- THE SECOND FORM. 'bulk': how many values and letters a reading holds, each counted each time it is reached (what is shared counts as often as it is met; a slice's spare places count too). A statement '..UptoSaid' is the law's where the arguments, and the package variables that the reading takes, are together of bulk at most 1048576: NARROWER than '..Said'. Prove '..Said' where nothing that the law and all that it calls make is longer than what came in: it says more and counts as full. Else prove '..UptoSaid'. A law counts once. -/
mutual
def uptoBulk {H : Type} : DataW H → Nat
  | .lit (.string bytes) => bytes.length + 1
  | .lit _ => 1
  | .nil => 1
  | .ptr d => uptoBulk d + 1
  | .slice elems spare => uptoBulkAll elems + uptoBulkAll spare + 1
  | .agg parts => uptoBulkAll parts + 1
  | .iface _ d => uptoBulk d + 1
  | .map entries => uptoBulkEntries entries + 1
  | .held _ => 1
def uptoBulkAll {H : Type} : List (DataW H) → Nat
  | [] => 0
  | d :: r => uptoBulk d + uptoBulkAll r
def uptoBulkEntries {H : Type} : List (Lit × DataW H) → Nat
  | [] => 0
  | x :: r => uptoBulkEntry x + uptoBulkEntries r
def uptoBulkEntry {H : Type} : Lit × DataW H → Nat
  | (.string bytes, d) => bytes.length + uptoBulk d + 1
  | (_, d) => uptoBulk d + 1
 end
def uptoSmall : (H : Type) → List (DataW H) → Bool := fun _ ds => decide (uptoBulkAll ds ≤ 1048576)
def OpenSpec.upto (s : _root_.Go.ChangeSpec) : _root_.Go.OpenSpec := { _root_.Go.OpenSpec.ofChange s with cond := some uptoSmall }

/-- 'taquinlaw16.ArenaTells', WHERE WHAT IT READS IS OF BULK AT MOST 1048576: true; the input reads as it did. -/
def arenaTellsUptoRow : OpenClaim := { program := "ytbpbennpgnjbkaagreat", sum := "646bec819623b75c5d307d5a6cbadbcaec6bb6fa922eaf4018cd40b0dba70038", func := "taquin/taquinlaw16.ArenaTells", spec := "arenaTells", inPlace := ["slices.overlaps[taquin/api.Stuck]", "internal/bytealg.IndexByteString"], unfollowed := true, recurses := true, plainKeys := false, apart := false, narrowed := true }
def ArenaTellsUptoSaid : Prop := arenaTellsUptoRow.holds Tryz.pinned (OpenSpec.upto arenaTellsSpec)

/-- 'taquinlaw16.ArenaHinders', WHERE WHAT IT READS IS OF BULK AT MOST 1048576: true; the input reads as it did. -/
def arenaHindersUptoRow : OpenClaim := { program := "ytbpbennpgnjbkaagreat", sum := "646bec819623b75c5d307d5a6cbadbcaec6bb6fa922eaf4018cd40b0dba70038", func := "taquin/taquinlaw16.ArenaHinders", spec := "arenaHinders", inPlace := ["slices.overlaps[taquin/api.Stuck]", "internal/bytealg.IndexByteString"], unfollowed := true, recurses := true, plainKeys := false, apart := false, narrowed := true }
def ArenaHindersUptoSaid : Prop := arenaHindersUptoRow.holds Tryz.pinned (OpenSpec.upto arenaHindersSpec)

/-- 'taquinlaw16.ArenaSafe', WHERE WHAT IT READS IS OF BULK AT MOST 1048576: true; the input reads as it did. -/
def arenaSafeUptoRow : OpenClaim := { program := "ytbpbennpgnjbkaagreat", sum := "646bec819623b75c5d307d5a6cbadbcaec6bb6fa922eaf4018cd40b0dba70038", func := "taquin/taquinlaw16.ArenaSafe", spec := "arenaSafe", inPlace := ["slices.overlaps[taquin/api.Stuck]", "internal/bytealg.IndexByteString"], unfollowed := true, recurses := true, plainKeys := false, apart := false, narrowed := true }
def ArenaSafeUptoSaid : Prop := arenaSafeUptoRow.holds Tryz.pinned (OpenSpec.upto arenaSafeSpec)

/-- 'taquinlaw16.ArenaFaults', WHERE WHAT IT READS IS OF BULK AT MOST 1048576: true; the input reads as it did. -/
def arenaFaultsUptoRow : OpenClaim := { program := "ytbpbennpgnjbkaagreat", sum := "646bec819623b75c5d307d5a6cbadbcaec6bb6fa922eaf4018cd40b0dba70038", func := "taquin/taquinlaw16.ArenaFaults", spec := "arenaFaults", inPlace := ["slices.overlaps[taquin/api.Stuck]", "internal/bytealg.IndexByteString"], unfollowed := true, recurses := true, plainKeys := false, apart := false, narrowed := true }
def ArenaFaultsUptoSaid : Prop := arenaFaultsUptoRow.holds Tryz.pinned (OpenSpec.upto arenaFaultsSpec)

/-- 'taquinlaw16.ArenaStays', WHERE WHAT IT READS IS OF BULK AT MOST 1048576: true; the input reads as it did. -/
def arenaStaysUptoRow : OpenClaim := { program := "ytbpbennpgnjbkaagreat", sum := "646bec819623b75c5d307d5a6cbadbcaec6bb6fa922eaf4018cd40b0dba70038", func := "taquin/taquinlaw16.ArenaStays", spec := "arenaStays", inPlace := ["slices.overlaps[taquin/api.Stuck]", "internal/bytealg.IndexByteString"], unfollowed := true, recurses := true, plainKeys := false, apart := false, narrowed := true }
def ArenaStaysUptoSaid : Prop := arenaStaysUptoRow.holds Tryz.pinned (OpenSpec.upto arenaStaysSpec)

end Rows
end Go.Proofs.YtbpbennpgnjbkaaGreat
