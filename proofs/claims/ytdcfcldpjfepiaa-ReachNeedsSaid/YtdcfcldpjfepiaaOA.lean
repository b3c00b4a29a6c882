/- The mathematics, several parts in one text. -/
import Derived.Test.YtdcfcldpjfepiaaMS
import Derived.Test.YtdcfcldpjfepiaaNG
/- The mathematics, part NV: zones in the reference. -/
set_option linter.unusedVariables false
namespace Go.Taq
open Go

end Go.Taq

/- The mathematics, part NJ: the reference of the rules; RulesTell. -/
set_option linter.unusedVariables false
set_option linter.unusedSimpArgs false
namespace Go.Taq
open Go
section

end
theorem S_ref07_Same' {a b : List Int} (hm : a.length ≤ maxLen) {post : Bool → Prop} (hp : a = b → post true) (hab : a = b) : V_taquinref07_Same a b post := by
  subst hab
  unfold V_taquinref07_Same
  refine Ite.f (by simp) ?_
  refine Jn.mk (fun _ => True) (V_loopc hm (fun t => t) (fun _ _ => True) rfl trivial (fun n x t hx ht _ => ⟨x, by rw [ht]; exact idx_of rfl hx, Ite.f (by simp) ⟨by rw [ht], trivial⟩⟩) (fun _ _ => trivial)) (fun _ _ => hp rfl)
end Go.Taq

/- The mathematics, part NW: a step in the floor's reference. -/
set_option linter.unusedVariables false
namespace Go.Taq
open Go

end Go.Taq

/- The mathematics, part OA: batteries, and the slots of a state. -/
set_option linter.unusedVariables false
set_option linter.unusedSimpArgs false
namespace Go.Taq
open Go

/-- the base of an action's cost -/
def bas (a : Int) (l : Bool) : Int :=
  if a = 0 ∨ a = 8 then 1 else if a = 7 then 3 else if a < 1 ∨ a ≥ 7 then 0 else (if a = 5 then 5 else if a = 6 then 1 else 2) + if l = true then 2 else 0
def agT (t : Int) : Int := if t < 0 then 0 else if t > 20000 then 20 else t / 1000
def cst (t a : Int) (l : Bool) : Int := (bas a l * (10 + agT t) + 9) / 10
theorem bas_bd (a : Int) (l : Bool) : bas a l = 0 ∨ bas a l = 1 ∨ bas a l = 2 ∨ bas a l = 3 ∨ bas a l = 4 ∨ bas a l = 5 ∨ bas a l = 7 := by
  unfold bas
  cases l <;> simp <;> split <;> (try split) <;> (try split) <;> (try split) <;> (try split) <;> omega
theorem agT_bd (t : Int) : 0 ≤ agT t ∧ agT t ≤ 20 := by unfold agT; split <;> (try split) <;> omega
theorem prod_bd (a t : Int) (l : Bool) : 0 ≤ bas a l * (10 + agT t) ∧ bas a l * (10 + agT t) ≤ 210 := by
  have h := agT_bd t
  rcases bas_bd a l with e | e | e | e | e | e | e <;> rw [e] <;> omega
theorem cst_bd (t a : Int) (l : Bool) : 0 ≤ cst t a l ∧ cst t a l ≤ 21 := by have := prod_bd a t l; unfold cst; omega
theorem act10 {a : Int} (h0 : 0 ≤ a) (h9 : a < 10) : a = 0 ∨ a = 1 ∨ a = 2 ∨ a = 3 ∨ a = 4 ∨ a = 5 ∨ a = 6 ∨ a = 7 ∨ a = 8 ∨ a = 9 := by omega
theorem S_battery_Base {a : Int} (h0 : 0 ≤ a) (h9 : a < 10) {l : Bool} {post : Int → Prop} (hp : post (bas a l)) : V_battery_Base a l post := by
  unfold V_battery_Base
  rcases act10 h0 h9 with rfl | rfl | rfl | rfl | rfl | rfl | rfl | rfl | rfl | rfl <;> cases l <;> repeat (first | exact hp | refine Jn.mk' ?_ | refine Ite.t (by decide) ?_ | refine Ite.f (by decide) ?_)
theorem age_eq (t : Int) : w64 ((imin (imax t 0) 20000).tdiv 1000) = agT t := by
  have e : (imin (imax t 0) 20000).tdiv 1000 = agT t := by
    unfold imin imax agT
    rw [Int.tdiv_eq_ediv_of_nonneg (by repeat' split <;> omega)]
    repeat' split <;> omega
  rw [e]; have := agT_bd t; exact w64_eq (by omega) (by omega)
theorem S_battery_Cost {t a : Int} (h0 : 0 ≤ a) (h9 : a < 10) {l : Bool} {post : Int → Prop} (hp : post (cst t a l)) : V_battery_Cost t a l post := by
  unfold V_battery_Cost
  refine S_battery_Base h0 h9 ?_
  have hb := prod_bd a t l
  have ha := agT_bd t
  rw [age_eq, w64_eq (x := 10 + agT t) (by omega) (by omega), w64_eq (x := bas a l * (10 + agT t)) (by omega) (by omega), w64_eq (x := bas a l * (10 + agT t) + 9) (by omega) (by omega), Int.tdiv_eq_ediv_of_nonneg (by omega)]
  have hc := cst_bd t a l
  unfold cst at hc hp
  rw [w64_eq (by omega) (by omega)]
  exact hp
end Go.Taq
