/- The mathematics of layouts, part F: the reference's layouts and shifts; right layouts. -/
import Derived.Test.YtenplejkcfhplaaPE
set_option linter.unusedVariables false
set_option linter.unusedSimpArgs false
namespace Go.Taq
open Go
section
variable {n k : Nat} (h1 : 1 ≤ k) (h2 : k ≤ n) (h3 : n ≤ 12)
include h1 h2 h3
end
/-- a right layout is one of so many cells and shelves -/
theorem S_rLRight {l : ApiLayout} {post : Bool → Prop} (hF : post false) (hT : l.Full.length ≤ 24 → LOk l.Full.length (l.Full.count true) l → post true) : V_taquinref25_Right l post := by
  unfold V_taquinref25_Right
  by_cases c1 : (l.Full.length : Int) < 1
  · exact Jn.mk (fun b => b = true) (Ite.t (by simpa using c1) rfl) (fun b e => Ite.t e hF)
  by_cases c2 : (l.Full.length : Int) > 24
  · exact Jn.mk (fun b => b = true) (Ite.f (by simpa using c1) (Ite.t (by simpa using c2) rfl)) (fun b e => Ite.t e hF)
  by_cases c3 : l.Target < 0
  · exact Jn.mk (fun b => b = true) (Ite.f (by simpa using c1) (Ite.f (by simpa using c2) (Ite.t (by simpa using c3) rfl))) (fun b e => Ite.t e hF)
  by_cases c4 : l.Target ≥ (l.Full.length : Int)
  · exact Jn.mk (fun b => b = true) (Ite.f (by simpa using c1) (Ite.f (by simpa using c2) (Ite.f (by simpa using c3) (by simpa using c4)))) (fun b e => Ite.t e hF)
  refine Jn.mk (fun b => b = false) (Ite.f (by simpa using c1) (Ite.f (by simpa using c2) (Ite.f (by simpa using c3) (by simpa using c4)))) (fun b e => Ite.f e ?_)
  have hx : l.Full[l.Target.toNat]? = some (l.Full[l.Target.toNat]'(by omega)) := List.getElem?_eq_getElem _
  generalize l.Full[l.Target.toNat]'(by omega) = b at hx
  refine ⟨b, idx_of (by omega) hx, ?_⟩
  cases b with
  | false => exact hF
  | true => exact hT (by omega) ⟨rfl, rfl, by omega, hx⟩
end Go.Taq
