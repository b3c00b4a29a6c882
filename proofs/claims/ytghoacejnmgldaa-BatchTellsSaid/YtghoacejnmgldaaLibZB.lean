/- The library of the generated walks, part ZB: slices.SortFunc at structs, by the kit's contract. -/
import Derived.Test.YtghoacejnmgldaaLibZA
import Derived.Shelf.SlSortCmp.WholeK
import Derived.Shelf.SlSortCmp.NoneTotal
set_option linter.unusedVariables false
set_option linter.unusedSimpArgs false
namespace Go.Taq
open Go Go.Shelf Go.RowKit Go.Lib Go.Sort Go.Proofs

theorem SWOc.swo {α : Type} {cf : α → α → Int} (h : SWOc cf) : SWO (ltOf cf) where
  irrefl x := by simpa [ltOf] using h.1 x
  trans x y z h1 h2 := by simp [ltOf] at *; exact h.2.1 x y z h1 h2
  ntrans x y z h1 h2 := by simp [ltOf] at *; have := h.2.2 x y z (by omega) (by omega); omega

/-- a world that keeps all is an earlier one, grown -/
theorem Kp.grown {W w' : World} (h : Kp W (fun _ => False) w') : ∃ q os', w' = grow (W.drewN q) os' := by
  refine ⟨w'.drawn - W.drawn, w'.heap.extract W.heap.size w'.heap.size, ?_⟩
  have hd : W.drawn ≤ w'.drawn := h.drawn
  have hh : w'.heap = W.heap ++ w'.heap.extract W.heap.size w'.heap.size := by
    apply Array.ext_getElem?
    intro i
    rcases Nat.lt_or_ge i W.heap.size with h1 | h1
    · rw [Array.getElem?_append_left h1]; exact h.block i h1 (fun e => e)
    · rw [Array.getElem?_append_right h1, Array.getElem?_extract]
      have hs := h.size
      by_cases h2 : i < w'.heap.size
      · rw [if_pos (by omega)]; congr 1; omega
      · rw [Array.getElem?_eq_none (by omega), if_neg (by omega)]
  have e1 := h.os; have e2 := h.tape; have e3 := h.output
  cases w' with
  | mk hp tp dr os out =>
    simp only at hh hd e1 e2 e3
    unfold grow World.drewN
    simp only [World.mk.injEq]
    exact ⟨hh, e2, by omega, e1, e3⟩

section
variable {P : Program} {ρ : Ren} {α : Type} [Inhabited α] {k : Nat} {enc : α → List AVal}
end
end Go.Taq
