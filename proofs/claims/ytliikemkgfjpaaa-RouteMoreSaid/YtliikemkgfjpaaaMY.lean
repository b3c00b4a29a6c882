/- The mathematics, part Y: the cells of a walk; the route tells what the reference tells. -/
import Derived.Test.YtliikemkgfjpaaaMX
set_option linter.unusedVariables false
namespace Go.Taq
open Go
section
variable {s : ApiSite} {c : Int} {acts : List Int}
end
theorem lex_asym {u v : List Int} (h1 : LexLt u v) (h2 : LexLt v u) : False := by
  obtain ⟨i, x, y, a1, a2, a3, a4⟩ := h1
  obtain ⟨j, x', y', b1, b2, b3, b4⟩ := h2
  rcases Nat.lt_trichotomy i j with e | e | e
  · have : (v.take j)[i]? = (u.take j)[i]? := by rw [b1]
    rw [List.getElem?_take, List.getElem?_take, if_pos e, if_pos e, a2, a3] at this
    cases this; omega
  · subst e; rw [a2] at b3; rw [a3] at b2; cases b3; cases b2; omega
  · have : (u.take i)[j]? = (v.take i)[j]? := by rw [a1]
    rw [List.getElem?_take, List.getElem?_take, if_pos e, if_pos e, b2, b3] at this
    cases this; omega
end Go.Taq
