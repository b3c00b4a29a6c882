/- The mathematics, part Y: the cells of a walk; the route tells what the reference tells. -/
import Derived.Test.YtliikemkgfjpaaaMX
set_option linter.unusedVariables false
namespace Go.Taq
open Go
/-- where one is after an action -/
def moveA (f : ApiFloor) (c a : Int) : Int := if 1 ≤ a ∧ a < 7 ∧ (nx f c (a - 1)).2 = true then (nx f c (a - 1)).1 else c
def cellsL (f : ApiFloor) : Int → List Int → List Int
  | c, [] => [c]
  | c, a :: r => c :: cellsL f (moveA f c a) r
def cellsF (s : ApiSite) (c : Int) (acts : List Int) : List Int := if isC s.Floor c = true then cellsL s.Floor c acts else []
theorem cellsL_cons (f : ApiFloor) (c : Int) (l : List Int) : cellsL f c l = c :: (cellsL f c l).tail := by cases l <;> rfl
theorem cellsL_len (f : ApiFloor) : ∀ (l : List Int) (c : Int), (cellsL f c l).length = l.length + 1
  | [], c => rfl
  | a :: l, c => by simp [cellsL, cellsL_len f l]
theorem moveA_w {f : ApiFloor} (h : RF f) {c a : Int} (ka : I64 a) : (if (nx f c (w64 (a - 1))).2 = true then (nx f c (w64 (a - 1))).1 else c) = moveA f c a := by
  unfold moveA
  by_cases h1 : 1 ≤ a ∧ a < 7
  · rw [w64_eq (by omega) (by omega)]; simp [h1]
  · have h2 : (nx f c (w64 (a - 1))).2 = false := by
      cases hh : (nx f c (w64 (a - 1))).2
      · rfl
      · have := nx_ok h hh
        exfalso
        unfold I64 at ka
        by_cases h3 : a = -9223372036854775808
        · subst h3
          have e : w64 (-9223372036854775808 - 1) = 9223372036854775807 := by decide
          rw [e] at this; omega
        · rw [w64_eq (by omega) (by omega)] at this; omega
    rw [if_neg (by simp [h2]), if_neg (fun e => h1 ⟨e.1, e.2.1⟩)]
section
variable {s : ApiSite} {c : Int} {acts : List Int}
theorem S_route_Cells (h : RF s.Floor) (ha : acts.length ≤ 1000000) (ka : ∀ x, x ∈ acts → I64 x) {post : List Int → Prop} (hp : post (cellsF s c acts)) : V_route_Cells s c acts post := by
  unfold V_route_Cells
  have hm : acts.length ≤ maxLen := by simp [maxLen]; omega
  refine Jor2 (Ite.mk (fun h1 => ?_) (fun h1 => ?_))
  · have : isC s.Floor c = false := by simp at h1; simp [isC]; omega
    simp only [cellsF, this] at hp; exact hp
  · have hc : isC s.Floor c = true := by simp at h1; simp [isC]; omega
    simp only [cellsF, hc, if_true] at hp
    refine Jn.mk (fun out => out = cellsL s.Floor c acts) (Loop.inv acts.length (fun i (t : Int × List Int × Int) => t.2.2 = (i : Int) ∧ t.2.1.length = i + 1 ∧ t.2.1 ++ (cellsL s.Floor t.1 (acts.drop i)).tail = cellsL s.Floor c acts) ⟨rfl, rfl, (cellsL_cons _ _ _).symm⟩ (fun i t hi hI => ?_) (fun t hI => ?_)) (fun _ e => e ▸ hp)
    · obtain ⟨cur, out, j⟩ := t
      obtain ⟨e, hl, hI⟩ := hI
      simp only at e hl hI; subst e
      have hx : acts[i]? = some (acts[i]'hi) := List.getElem?_eq_getElem hi
      generalize hxe : acts[i]'hi = x at hx
      have hd : acts.drop i = x :: acts.drop (i + 1) := by rw [List.drop_eq_getElem_cons hi, hxe]
      refine Ite.lt (by simp only []; omega) ⟨x, idx_of rfl hx, S_floor_Next h ?_⟩
      have hw := moveA_w h (c := cur) (ka x (List.mem_of_getElem? hx))
      refine Jn.eq (moveA s.Floor cur x) (Ite.mk (fun g => ?_) (fun g => ?_)) ⟨by simp only [List.length_cons, List.length_nil]; omega, w64_nat hi hm, by simp [hl], ?_⟩
      · rw [← hw, if_pos g]
      · rw [← hw, if_neg (by simp [g])]
      · rw [hd, cellsL] at hI
        simp only [List.append_assoc, List.singleton_append]
        rw [← cellsL_cons]; exact hI
    · obtain ⟨cur, out, j⟩ := t
      obtain ⟨e, hl, hI⟩ := hI
      simp only at e hl hI; subst e
      refine Ite.nlt (by simp) ?_
      rw [List.drop_length] at hI
      simpa [cellsL] using hI
end
end Go.Taq
