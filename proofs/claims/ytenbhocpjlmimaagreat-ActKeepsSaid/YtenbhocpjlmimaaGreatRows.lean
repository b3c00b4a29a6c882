/-
  No cell of these rows narrows 'for every input' (looked for: loops, veiled, ifaces, maps, wideKeys, modest, calm, conditions, laid).
  DERIVED. THE GIVEN ROWS OF THIS SEAT. 5 by the template 'for every input the law returns true; each argument reads behind the call as it read before'; 0 by the template 'total and deterministic' (their statements: YtenbhocpjlmimaaGreatTotals.lean).
  GIVEN WITH THE SEED: the statements are not yours to turn. If you find one false, say at which input.
  Laid BY PROGRAM, IN A SANDBOX (cutbox-rows.mjs): the forced cells as the released guide's own fill.sh prints them over the translation 8205633154a6e64a… (all of the seat's roots in one cut). By AI agents, Wed Nov 11 2026. No macro, syntax, notation, axiom, sorry.
-/
import Derived.Test.YtenbhocpjlmimaaGreatChecked
import GoSem.Claim
import GoSem.ClaimJoined
import GoSem.ClaimMapViews
import Derived.JoinedTies
import Derived.KernelRfl
namespace Go.Proofs.YtenbhocpjlmimaaGreat
/- THE CELL 'sum', in the pinned program and in every row, IS THE sha256 OF THE DUMP (.gsa) THAT YtenbhocpjlmimaaGreatProg.lean LOADS. Nothing in Lean hashes anything: it is a label: what it is worth is what the hold of that sum in a sandbox is worth. -/
noncomputable def Tryz.pinned : Pinned := { name := "ytenbhocpjlmimaagreat", sum := "8205633154a6e64a1db07960bf53e279d7ddc4ace5ae63301967674e00c3a782", checked := Tryz.checked }
namespace Rows
def none {H : Type} : Left H := { results := [], args := [] }

/-- 'taquinlaw15.ActTells': WHATEVER THE INPUT: true; the input reads as it did. -/
def actTellsSpec : ChangeSpec := { name := "actTells", fn := fun _ => fun
  | [d1, d2, d3, d4] => { results := [.lit (.bool true)], args := [d1, d2, d3, d4] }
  | _ => none }
def actTellsRow : OpenClaim := { program := "ytenbhocpjlmimaagreat", sum := "8205633154a6e64a1db07960bf53e279d7ddc4ace5ae63301967674e00c3a782", func := "taquin/taquinlaw15.ActTells", spec := "actTells", unfollowed := true, recurses := true, plainKeys := false, apart := false }
def ActTellsSaid : Prop := actTellsRow.holds Tryz.pinned (OpenSpec.ofChange actTellsSpec)

/-- ITS FALSE NEIGHBOUR: 'it returns false'. Refute it at one input. -/
def actTellsWrong : ChangeSpec := { name := "actTells", fn := fun _ => fun
  | [d1, d2, d3, d4] => { results := [.lit (.bool false)], args := [d1, d2, d3, d4] }
  | _ => none }
def ActTellsWrongFalsely : Prop := actTellsRow.holds Tryz.pinned (OpenSpec.ofChange actTellsWrong)

/-- 'taquinlaw15.ActRefuses': WHATEVER THE INPUT: true; the input reads as it did. -/
def actRefusesSpec : ChangeSpec := { name := "actRefuses", fn := fun _ => fun
  | [d1, d2, d3] => { results := [.lit (.bool true)], args := [d1, d2, d3] }
  | _ => none }
def actRefusesRow : OpenClaim := { program := "ytenbhocpjlmimaagreat", sum := "8205633154a6e64a1db07960bf53e279d7ddc4ace5ae63301967674e00c3a782", func := "taquin/taquinlaw15.ActRefuses", spec := "actRefuses", unfollowed := true, recurses := true, plainKeys := false, apart := false }
def ActRefusesSaid : Prop := actRefusesRow.holds Tryz.pinned (OpenSpec.ofChange actRefusesSpec)

/-- ITS FALSE NEIGHBOUR: 'it returns false'. Refute it at one input. -/
def actRefusesWrong : ChangeSpec := { name := "actRefuses", fn := fun _ => fun
  | [d1, d2, d3] => { results := [.lit (.bool false)], args := [d1, d2, d3] }
  | _ => none }
def ActRefusesWrongFalsely : Prop := actRefusesRow.holds Tryz.pinned (OpenSpec.ofChange actRefusesWrong)

/-- 'taquinlaw15.ActAlone': WHATEVER THE INPUT: true; the input reads as it did. -/
def actAloneSpec : ChangeSpec := { name := "actAlone", fn := fun _ => fun
  | [d1, d2, d3, d4] => { results := [.lit (.bool true)], args := [d1, d2, d3, d4] }
  | _ => none }
def actAloneRow : OpenClaim := { program := "ytenbhocpjlmimaagreat", sum := "8205633154a6e64a1db07960bf53e279d7ddc4ace5ae63301967674e00c3a782", func := "taquin/taquinlaw15.ActAlone", spec := "actAlone", unfollowed := true, recurses := true, plainKeys := false, apart := false }
def ActAloneSaid : Prop := actAloneRow.holds Tryz.pinned (OpenSpec.ofChange actAloneSpec)

/-- ITS FALSE NEIGHBOUR: 'it returns false'. Refute it at one input. -/
def actAloneWrong : ChangeSpec := { name := "actAlone", fn := fun _ => fun
  | [d1, d2, d3, d4] => { results := [.lit (.bool false)], args := [d1, d2, d3, d4] }
  | _ => none }
def ActAloneWrongFalsely : Prop := actAloneRow.holds Tryz.pinned (OpenSpec.ofChange actAloneWrong)

/-- 'taquinlaw15.ActLifts': WHATEVER THE INPUT: true; the input reads as it did. -/
def actLiftsSpec : ChangeSpec := { name := "actLifts", fn := fun _ => fun
  | [d1, d2, d3] => { results := [.lit (.bool true)], args := [d1, d2, d3] }
  | _ => none }
def actLiftsRow : OpenClaim := { program := "ytenbhocpjlmimaagreat", sum := "8205633154a6e64a1db07960bf53e279d7ddc4ace5ae63301967674e00c3a782", func := "taquin/taquinlaw15.ActLifts", spec := "actLifts", unfollowed := true, recurses := true, plainKeys := false, apart := false }
def ActLiftsSaid : Prop := actLiftsRow.holds Tryz.pinned (OpenSpec.ofChange actLiftsSpec)

/-- ITS FALSE NEIGHBOUR: 'it returns false'. Refute it at one input. -/
def actLiftsWrong : ChangeSpec := { name := "actLifts", fn := fun _ => fun
  | [d1, d2, d3] => { results := [.lit (.bool false)], args := [d1, d2, d3] }
  | _ => none }
def ActLiftsWrongFalsely : Prop := actLiftsRow.holds Tryz.pinned (OpenSpec.ofChange actLiftsWrong)

/-- 'taquinlaw15.ActKeeps': WHATEVER THE INPUT: true; the input reads as it did. -/
def actKeepsSpec : ChangeSpec := { name := "actKeeps", fn := fun _ => fun
  | [d1, d2, d3] => { results := [.lit (.bool true)], args := [d1, d2, d3] }
  | _ => none }
def actKeepsRow : OpenClaim := { program := "ytenbhocpjlmimaagreat", sum := "8205633154a6e64a1db07960bf53e279d7ddc4ace5ae63301967674e00c3a782", func := "taquin/taquinlaw15.ActKeeps", spec := "actKeeps", unfollowed := true, recurses := true, plainKeys := false, apart := false }
def ActKeepsSaid : Prop := actKeepsRow.holds Tryz.pinned (OpenSpec.ofChange actKeepsSpec)

/-- ITS FALSE NEIGHBOUR: 'it returns false'. Refute it at one input. -/
def actKeepsWrong : ChangeSpec := { name := "actKeeps", fn := fun _ => fun
  | [d1, d2, d3] => { results := [.lit (.bool false)], args := [d1, d2, d3] }
  | _ => none }
def ActKeepsWrongFalsely : Prop := actKeepsRow.holds Tryz.pinned (OpenSpec.ofChange actKeepsWrong)

/- THE SECOND FORM. 'bulk': how many values and letters a reading holds, each counted each time it is reached (what is shared counts as often as it is met; a slice's spare places count too). A statement '..UptoSaid' is the law's where the arguments, and the package variables that the reading takes, are together of bulk at most 1048576: NARROWER than '..Said'. Prove '..Said' where nothing that the law and all that it calls make is longer than what came in: it says more and counts as full. Else prove '..UptoSaid'. A law counts once. -/
mutual
def uptoBulk {H : Type} : DataW H → Nat
  | .lit (.string bytes) => bytes.length + 1
  | .lit _ => 1
  | .nil => 1
  | .ptr d => uptoBulk d + 1
  | .slice elems spare => uptoBulkAll elems + uptoBulkAll spare + 1
  | .agg parts => uptoBulkAll parts + 1
  | .iface _ d => uptoBulk d + 1
  | .map entries => uptoBulkEntries entries + 1
  | .held _ => 1
def uptoBulkAll {H : Type} : List (DataW H) → Nat
  | [] => 0
  | d :: r => uptoBulk d + uptoBulkAll r
def uptoBulkEntries {H : Type} : List (Lit × DataW H) → Nat
  | [] => 0
  | x :: r => uptoBulkEntry x + uptoBulkEntries r
def uptoBulkEntry {H : Type} : Lit × DataW H → Nat
  | (.string bytes, d) => bytes.length + uptoBulk d + 1
  | (_, d) => uptoBulk d + 1
 end
def uptoSmall : (H : Type) → List (DataW H) → Bool := fun _ ds => decide (uptoBulkAll ds ≤ 1048576)
def OpenSpec.upto (s : _root_.Go.ChangeSpec) : _root_.Go.OpenSpec := { _root_.Go.OpenSpec.ofChange s with cond := some uptoSmall }

/-- 'taquinlaw15.ActTells', WHERE WHAT IT READS IS OF BULK AT MOST 1048576: true; the input reads as it did. -/
def actTellsUptoRow : OpenClaim := { program := "ytenbhocpjlmimaagreat", sum := "8205633154a6e64a1db07960bf53e279d7ddc4ace5ae63301967674e00c3a782", func := "taquin/taquinlaw15.ActTells", spec := "actTells", unfollowed := true, recurses := true, plainKeys := false, apart := false, narrowed := true }
def ActTellsUptoSaid : Prop := actTellsUptoRow.holds Tryz.pinned (OpenSpec.upto actTellsSpec)

/-- 'taquinlaw15.ActRefuses', WHERE WHAT IT READS IS OF BULK AT MOST 1048576: true; the input reads as it did. -/
def actRefusesUptoRow : OpenClaim := { program := "ytenbhocpjlmimaagreat", sum := "8205633154a6e64a1db07960bf53e279d7ddc4ace5ae63301967674e00c3a782", func := "taquin/taquinlaw15.ActRefuses", spec := "actRefuses", unfollowed := true, recurses := true, plainKeys := false, apart := false, narrowed := true }
def ActRefusesUptoSaid : Prop := actRefusesUptoRow.holds Tryz.pinned (OpenSpec.upto actRefusesSpec)

/-- 'taquinlaw15.ActAlone', WHERE WHAT IT READS IS OF BULK AT MOST 1048576: true; the input reads as it did. -/
def actAloneUptoRow : OpenClaim := { program := "ytenbhocpjlmimaagreat", sum := "8205633154a6e64a1db07960bf53e279d7ddc4ace5ae63301967674e00c3a782", func := "taquin/taquinlaw15.ActAlone", spec := "actAlone", unfollowed := true, recurses := true, plainKeys := false, apart := false, narrowed := true }
def ActAloneUptoSaid : Prop := actAloneUptoRow.holds Tryz.pinned (OpenSpec.upto actAloneSpec)

/-- 'taquinlaw15.ActLifts', WHERE WHAT IT READS IS OF BULK AT MOST 1048576: true; the input reads as it did. -/
def actLiftsUptoRow : OpenClaim := { program := "ytenbhocpjlmimaagreat", sum := "8205633154a6e64a1db07960bf53e279d7ddc4ace5ae63301967674e00c3a782", func := "taquin/taquinlaw15.ActLifts", spec := "actLifts", unfollowed := true, recurses := true, plainKeys := false, apart := false, narrowed := true }
def ActLiftsUptoSaid : Prop := actLiftsUptoRow.holds Tryz.pinned (OpenSpec.upto actLiftsSpec)

/-- 'taquinlaw15.ActKeeps', WHERE WHAT IT READS IS OF BULK AT MOST 1048576: true; the input reads as it did. -/
def actKeepsUptoRow : OpenClaim := { program := "ytenbhocpjlmimaagreat", sum := "8205633154a6e64a1db07960bf53e279d7ddc4ace5ae63301967674e00c3a782", func := "taquin/taquinlaw15.ActKeeps", spec := "actKeeps", unfollowed := true, recurses := true, plainKeys := false, apart := false, narrowed := true }
def ActKeepsUptoSaid : Prop := actKeepsUptoRow.holds Tryz.pinned (OpenSpec.upto actKeepsSpec)

end Rows
end Go.Proofs.YtenbhocpjlmimaaGreat
