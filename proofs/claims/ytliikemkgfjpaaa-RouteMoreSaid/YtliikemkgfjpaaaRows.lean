/-
  No cell of these rows narrows 'for every input' (looked for: loops, veiled, ifaces, maps, wideKeys, modest, calm, conditions, laid).
  DERIVED. THE GIVEN ROWS OF THIS SEAT. 4 by the template 'for every input the law returns true; each argument reads behind the call as it read before'; 0 by the template 'total and deterministic' (their statements: YtliikemkgfjpaaaTotals.lean).
  GIVEN WITH THE SEED: the statements are not yours to turn. If you find one false, say at which input.
  Laid BY PROGRAM, IN A SANDBOX (cutbox-rows.mjs): the forced cells as the released guide's own fill.sh prints them over the translation 560dfcffb349205e… (all of the seat's roots in one cut). By AI agents, Wed Nov 11 2026. No macro, syntax, notation, axiom, sorry.
-/
import Derived.Test.YtliikemkgfjpaaaChecked
import GoSem.Claim
import GoSem.ClaimJoined
import GoSem.ClaimMapViews
import Derived.JoinedTies
import Derived.KernelRfl
namespace Go.Proofs.Ytliikemkgfjpaaa
/- THE CELL 'sum', in the pinned program and in every row, IS THE sha256 OF THE DUMP (.gsa) THAT YtliikemkgfjpaaaProg.lean LOADS. Nothing in Lean hashes anything: it is a label: what it is worth is what the hold of that sum in a sandbox is worth. -/
noncomputable def Try.pinned : Pinned := { name := "ytliikemkgfjpaaa", sum := "560dfcffb349205ed596223e5d8d4fafadae555b4838ed39907862638b1d61c7", checked := Try.checked }
namespace Rows
def none {H : Type} : Left H := { results := [], args := [] }

/-- 'taquinlaw23.RouteBest': WHATEVER THE INPUT: true; the input reads as it did. -/
def routeBestSpec : ChangeSpec := { name := "routeBest", fn := fun _ => fun
  | [d1, d2, d3, d4, d5, d6, d7, d8] => { results := [.lit (.bool true)], args := [d1, d2, d3, d4, d5, d6, d7, d8] }
  | _ => none }
def routeBestRow : OpenClaim := { program := "ytliikemkgfjpaaa", sum := "560dfcffb349205ed596223e5d8d4fafadae555b4838ed39907862638b1d61c7", func := "taquin/taquinlaw23.RouteBest", spec := "routeBest", unfollowed := true, recurses := true, plainKeys := false, apart := false }
def RouteBestSaid : Prop := routeBestRow.holds Try.pinned (OpenSpec.ofChange routeBestSpec)

/-- ITS FALSE NEIGHBOUR: 'it returns false'. Refute it at one input. -/
def routeBestWrong : ChangeSpec := { name := "routeBest", fn := fun _ => fun
  | [d1, d2, d3, d4, d5, d6, d7, d8] => { results := [.lit (.bool false)], args := [d1, d2, d3, d4, d5, d6, d7, d8] }
  | _ => none }
def RouteBestWrongFalsely : Prop := routeBestRow.holds Try.pinned (OpenSpec.ofChange routeBestWrong)

/-- 'taquinlaw23.RouteMore': WHATEVER THE INPUT: true; the input reads as it did. -/
def routeMoreSpec : ChangeSpec := { name := "routeMore", fn := fun _ => fun
  | [d1, d2, d3, d4, d5, d6, d7, d8, d9] => { results := [.lit (.bool true)], args := [d1, d2, d3, d4, d5, d6, d7, d8, d9] }
  | _ => none }
def routeMoreRow : OpenClaim := { program := "ytliikemkgfjpaaa", sum := "560dfcffb349205ed596223e5d8d4fafadae555b4838ed39907862638b1d61c7", func := "taquin/taquinlaw23.RouteMore", spec := "routeMore", unfollowed := true, recurses := true, plainKeys := false, apart := false }
def RouteMoreSaid : Prop := routeMoreRow.holds Try.pinned (OpenSpec.ofChange routeMoreSpec)

/-- ITS FALSE NEIGHBOUR: 'it returns false'. Refute it at one input. -/
def routeMoreWrong : ChangeSpec := { name := "routeMore", fn := fun _ => fun
  | [d1, d2, d3, d4, d5, d6, d7, d8, d9] => { results := [.lit (.bool false)], args := [d1, d2, d3, d4, d5, d6, d7, d8, d9] }
  | _ => none }
def RouteMoreWrongFalsely : Prop := routeMoreRow.holds Try.pinned (OpenSpec.ofChange routeMoreWrong)

/-- 'taquinlaw23.RouteTells': WHATEVER THE INPUT: true; the input reads as it did. -/
def routeTellsSpec : ChangeSpec := { name := "routeTells", fn := fun _ => fun
  | [d1, d2, d3, d4, d5, d6, d7, d8] => { results := [.lit (.bool true)], args := [d1, d2, d3, d4, d5, d6, d7, d8] }
  | _ => none }
def routeTellsRow : OpenClaim := { program := "ytliikemkgfjpaaa", sum := "560dfcffb349205ed596223e5d8d4fafadae555b4838ed39907862638b1d61c7", func := "taquin/taquinlaw23.RouteTells", spec := "routeTells", unfollowed := true, recurses := true, plainKeys := false, apart := false }
def RouteTellsSaid : Prop := routeTellsRow.holds Try.pinned (OpenSpec.ofChange routeTellsSpec)

/-- ITS FALSE NEIGHBOUR: 'it returns false'. Refute it at one input. -/
def routeTellsWrong : ChangeSpec := { name := "routeTells", fn := fun _ => fun
  | [d1, d2, d3, d4, d5, d6, d7, d8] => { results := [.lit (.bool false)], args := [d1, d2, d3, d4, d5, d6, d7, d8] }
  | _ => none }
def RouteTellsWrongFalsely : Prop := routeTellsRow.holds Try.pinned (OpenSpec.ofChange routeTellsWrong)

/-- 'taquinlaw23.RoutePlain': WHATEVER THE INPUT: true; the input reads as it did. -/
def routePlainSpec : ChangeSpec := { name := "routePlain", fn := fun _ => fun
  | [d1, d2, d3, d4, d5] => { results := [.lit (.bool true)], args := [d1, d2, d3, d4, d5] }
  | _ => none }
def routePlainRow : OpenClaim := { program := "ytliikemkgfjpaaa", sum := "560dfcffb349205ed596223e5d8d4fafadae555b4838ed39907862638b1d61c7", func := "taquin/taquinlaw23.RoutePlain", spec := "routePlain", unfollowed := true, recurses := true, plainKeys := false, apart := false }
def RoutePlainSaid : Prop := routePlainRow.holds Try.pinned (OpenSpec.ofChange routePlainSpec)

/-- ITS FALSE NEIGHBOUR: 'it returns false'. Refute it at one input. -/
def routePlainWrong : ChangeSpec := { name := "routePlain", fn := fun _ => fun
  | [d1, d2, d3, d4, d5] => { results := [.lit (.bool false)], args := [d1, d2, d3, d4, d5] }
  | _ => none }
def RoutePlainWrongFalsely : Prop := routePlainRow.holds Try.pinned (OpenSpec.ofChange routePlainWrong)

/- THE SECOND FORM. 'bulk': how many values and letters a reading holds, each counted each time it is reached (what is shared counts as often as it is met; a slice's spare places count too). A statement '..UptoSaid' is the law's where the arguments, and the package variables that the reading takes, are together of bulk at most 1048576: NARROWER than '..Said'. Prove '..Said' where nothing that the law and all that it calls make is longer than what came in: it says more and counts as full. Else prove '..UptoSaid'. A law counts once. -/
mutual
def uptoBulk {H : Type} : DataW H → Nat
  | .lit (.string bytes) => bytes.length + 1
  | .lit _ => 1
  | .nil => 1
  | .ptr d => uptoBulk d + 1
  | .slice elems spare => uptoBulkAll elems + uptoBulkAll spare + 1
  | .agg parts => uptoBulkAll parts + 1
  | .iface _ d => uptoBulk d + 1
  | .map entries => uptoBulkEntries entries + 1
  | .held _ => 1
def uptoBulkAll {H : Type} : List (DataW H) → Nat
  | [] => 0
  | d :: r => uptoBulk d + uptoBulkAll r
def uptoBulkEntries {H : Type} : List (Lit × DataW H) → Nat
  | [] => 0
  | x :: r => uptoBulkEntry x + uptoBulkEntries r
def uptoBulkEntry {H : Type} : Lit × DataW H → Nat
  | (.string bytes, d) => bytes.length + uptoBulk d + 1
  | (_, d) => uptoBulk d + 1
 end
def uptoSmall : (H : Type) → List (DataW H) → Bool := fun _ ds => decide (uptoBulkAll ds ≤ 1048576)
def OpenSpec.upto (s : _root_.Go.ChangeSpec) : _root_.Go.OpenSpec := { _root_.Go.OpenSpec.ofChange s with cond := some uptoSmall }

/-- 'taquinlaw23.RouteBest', WHERE WHAT IT READS IS OF BULK AT MOST 1048576: true; the input reads as it did. -/
def routeBestUptoRow : OpenClaim := { program := "ytliikemkgfjpaaa", sum := "560dfcffb349205ed596223e5d8d4fafadae555b4838ed39907862638b1d61c7", func := "taquin/taquinlaw23.RouteBest", spec := "routeBest", unfollowed := true, recurses := true, plainKeys := false, apart := false, narrowed := true }
def RouteBestUptoSaid : Prop := routeBestUptoRow.holds Try.pinned (OpenSpec.upto routeBestSpec)

/-- 'taquinlaw23.RouteMore', WHERE WHAT IT READS IS OF BULK AT MOST 1048576: true; the input reads as it did. -/
def routeMoreUptoRow : OpenClaim := { program := "ytliikemkgfjpaaa", sum := "560dfcffb349205ed596223e5d8d4fafadae555b4838ed39907862638b1d61c7", func := "taquin/taquinlaw23.RouteMore", spec := "routeMore", unfollowed := true, recurses := true, plainKeys := false, apart := false, narrowed := true }
def RouteMoreUptoSaid : Prop := routeMoreUptoRow.holds Try.pinned (OpenSpec.upto routeMoreSpec)

/-- 'taquinlaw23.RouteTells', WHERE WHAT IT READS IS OF BULK AT MOST 1048576: true; the input reads as it did. -/
def routeTellsUptoRow : OpenClaim := { program := "ytliikemkgfjpaaa", sum := "560dfcffb349205ed596223e5d8d4fafadae555b4838ed39907862638b1d61c7", func := "taquin/taquinlaw23.RouteTells", spec := "routeTells", unfollowed := true, recurses := true, plainKeys := false, apart := false, narrowed := true }
def RouteTellsUptoSaid : Prop := routeTellsUptoRow.holds Try.pinned (OpenSpec.upto routeTellsSpec)

/-- 'taquinlaw23.RoutePlain', WHERE WHAT IT READS IS OF BULK AT MOST 1048576: true; the input reads as it did. -/
def routePlainUptoRow : OpenClaim := { program := "ytliikemkgfjpaaa", sum := "560dfcffb349205ed596223e5d8d4fafadae555b4838ed39907862638b1d61c7", func := "taquin/taquinlaw23.RoutePlain", spec := "routePlain", unfollowed := true, recurses := true, plainKeys := false, apart := false, narrowed := true }
def RoutePlainUptoSaid : Prop := routePlainUptoRow.holds Try.pinned (OpenSpec.upto routePlainSpec)

end Rows
end Go.Proofs.Ytliikemkgfjpaaa
