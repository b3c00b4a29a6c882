/- The mathematics, several parts in one text. -/
import Derived.Test.YtbkpekodmhkbdaaGreatNB
/- The mathematics, part NC: what may stand where (rules): cells, classes, who is carried, what stands at a cell, rooms. -/
set_option linter.unusedVariables false
set_option linter.unusedSimpArgs false
namespace Go.Taq
open Go

def carr (st : ApiState) (i : Int) : Int := if i < 0 then -1 else fidx (fun r : ApiRobot => r.Load == i) st.Robots
def carB (st : ApiState) (i : Int) : Bool := decide (0 ≤ carr st i)
theorem carB_any {st : ApiState} {i : Int} (h : 0 ≤ i) : carB st i = st.Robots.any fun r => r.Load == i := by
  unfold carB carr
  rw [if_neg (by omega)]
  have := fidx_any (p := fun r : ApiRobot => r.Load == i) (xs := st.Robots)
  rw [← this]
section
variable {st : ApiState}
theorem S_rules_Carried (k : OkApiState st) {i : Int} {post : Int → Prop} (hp : post (carr st i)) : V_rules_Carried st i post := by
  unfold V_rules_Carried
  refine Ite.mk (fun h => ?_) (fun h => ?_)
  · unfold carr at hp; rw [if_pos (by simpa using h)] at hp; exact hp
  · unfold carr at hp; rw [if_neg (by simpa using h)] at hp
    unfold V_slices_IndexFunc_api_Robot_api_Robot__rules_Carried_1
    refine V_fidxc k.Robots.1 (fun r : ApiRobot => r.Load == i) (T := fun r post => V_rules_Carried_1 r i post) (fun r _ q hq => ?_) hp
    unfold V_rules_Carried_1; exact hq
end
end Go.Taq

/- The mathematics, part ND: what is near, which shelves disturb each other, dropping (rules). -/
set_option linter.unusedVariables false
set_option linter.unusedSimpArgs false
namespace Go.Taq
open Go

section

end
end Go.Taq

/- The mathematics, part NE: dropping; the rules' statements: bounds, examples. -/
set_option linter.unusedVariables false
set_option linter.unusedSimpArgs false
namespace Go.Taq
open Go

section

end

/-- a right small site, and a state with as many shelves, at cells -/
structure FitS (s : ApiSite) (st : ApiState) : Prop where
  r : RSite s
  few : FewS s 60 20
  rob : st.Robots.length ≤ 20
  len : st.Shelves.length = s.Shelves.length
  cell : ∀ c, c ∈ st.Shelves → isC s.Floor c = true
theorem FitS.sl {s : ApiSite} {st : ApiState} (h : FitS s st) : st.Shelves.length ≤ 20 := by have := h.few.shelves; have := h.len; omega
theorem FitS.zn {s : ApiSite} {st : ApiState} (h : FitS s st) : ∀ z, z ∈ s.Zones → 0 ≤ z.Keep ∧ z.Cells.length ≤ 1000000 := fun z hz => ⟨(h.r.zm hz).elim fun _ q => q.keep, by have := (h.few.zone z hz).1; omega⟩
/-! ## the examples -/
theorem ok_ml {α : Type} {X : α → Prop} {xs : List α} (h1 : xs.length ≤ 1000) (h2 : ∀ x, x ∈ xs → X x) : OkL X xs := ⟨Nat.le_trans h1 (by decide), h2⟩
theorem i64_of {x : Int} (h : -1000000 ≤ x ∧ x ≤ 1000000) : I64 x := by constructor <;> omega
end Go.Taq

/- The mathematics, part NF: the rules' statements: examples, RulesApart. -/
set_option linter.unusedVariables false
set_option linter.unusedSimpArgs false
namespace Go.Taq
open Go

end Go.Taq
