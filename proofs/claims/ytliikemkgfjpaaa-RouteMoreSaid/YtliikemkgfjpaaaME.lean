/- The mathematics, part E: a step of a walk, and whether a walk is good. -/
import Derived.Test.YtliikemkgfjpaaaMD
set_option linter.unusedVariables false
namespace Go.Taq
open Go

/-- where an action leads at a tick, and with what error -/
def stepF (s : ApiSite) (taken : List ApiTaken) (avoid : List Int) (t : Int) (q : Int × Int) (a : Int) : (Int × Int) × Int :=
  if a = 0 then (if heldT taken q.1 t = true then ((0, 0), 15) else ((q.1, imax (q.2 - 1) 0), 0))
  else if q.2 > 0 then ((0, 0), 8)
  else if (nx s.Floor q.1 (a - 1)).2 = false ∨ avoid.contains (nx s.Floor q.1 (a - 1)).1 = true then ((0, 0), 14)
  else if opn s (nx s.Floor q.1 (a - 1)).1 t = false then ((0, 0), 18)
  else if heldT taken q.1 t = true ∨ heldT taken (nx s.Floor q.1 (a - 1)).1 t = true then ((0, 0), 15)
  else (((nx s.Floor q.1 (a - 1)).1, spd s (nx s.Floor q.1 (a - 1)).1 - 1), 0)
/-- a place: a cell that is no wall, and a rest -/
def isQ (s : ApiSite) (q : Int × Int) : Prop := isC s.Floor q.1 = true ∧ 0 ≤ q.2 ∧ q.2 < 100
theorem stepF_ok {s : ApiSite} (h : RS s) {taken : List ApiTaken} {avoid : List Int} {t : Int} {q : Int × Int} {a : Int} (hq : isQ s q) (he : (stepF s taken avoid t q a).2 = 0) : isQ s (stepF s taken avoid t q a).1 := by
  unfold stepF at he ⊢
  split
  · rename_i h1
    rw [if_pos h1] at he
    split
    · rename_i h2; rw [if_pos h2] at he; simp at he
    · refine ⟨hq.1, ?_, ?_⟩ <;> simp only [imax] <;> split <;> have := hq.2 <;> omega
  · rename_i h1
    rw [if_neg h1] at he
    split
    · rename_i h2; rw [if_pos h2] at he; simp at he
    · rename_i h2
      rw [if_neg h2] at he
      split
      · rename_i h3; rw [if_pos h3] at he; simp at he
      · rename_i h3
        rw [if_neg h3] at he
        split
        · rename_i h4; rw [if_pos h4] at he; simp at he
        · rename_i h4
          rw [if_neg h4] at he
          split
          · rename_i h5; rw [if_pos h5] at he; simp at he
          · simp only [not_or, Bool.not_eq_false] at h3
            have hx := nx_ok h.fl h3.1
            have := spd_bd h (nx s.Floor q.1 (a - 1)).1
            exact ⟨hx.2.1, by simp only []; omega, by simp only []; omega⟩

section
variable {s : ApiSite} {tick : Int} {taken : List ApiTaken} {avoid : List Int} {w : RouteWalk}
theorem S_held (hw : WalkOf s tick taken avoid w) (hl : taken.length ≤ maxLen) (ht : 0 ≤ tick ∧ tick ≤ 20000) {c k : Int} (hk : 0 ≤ k ∧ k ≤ 1000000) {post : Bool → Prop} (hp : post (heldT taken c (tick + k))) : V_route_walk_held w c k post := by
  unfold V_route_walk_held
  rw [hw.tick, hw.taken, w64_eq (by omega) (by omega)]
  exact S_spans_held (Nat.le_trans (spansOf_len _ _) hl) hp
theorem S_walk_step (k : OkApiSite s) (h : RS s) (hav : avoid.length ≤ maxLen) (hw : WalkOf s tick taken avoid w) (hl : taken.length ≤ maxLen) (ht : 0 ≤ tick ∧ tick ≤ 20000) {q : RouteStand} {n a : Int} (hq : isQ s (q.cell, q.rest)) (hn : 0 ≤ n ∧ n ≤ 1000000) (ha : 0 ≤ a ∧ a ≤ 1000)
    {post : RouteStand × Int → Prop} (hp : post (⟨(stepF s taken avoid (tick + n) (q.cell, q.rest) a).1.1, (stepF s taken avoid (tick + n) (q.cell, q.rest) a).1.2⟩, (stepF s taken avoid (tick + n) (q.cell, q.rest) a).2)) : V_route_walk_step w q n a post := by
  unfold V_route_walk_step
  obtain ⟨q1, q2, q3⟩ := hq
  simp only at q1 q2 q3
  unfold stepF at hp
  simp only [] at hp
  refine Ite.mk (fun h1 => ?_) (fun h1 => ?_)
  · simp at h1; subst h1
    simp only [if_true] at hp
    refine S_held hw hl ht hn (Ite.mk (fun h2 => ?_) (fun h2 => ?_))
    · rw [if_pos h2] at hp; exact hp
    · rw [if_neg (by simp [h2])] at hp
      rw [w64_eq (by omega) (by omega)]; exact hp
  · simp at h1
    rw [if_neg h1] at hp
    rw [w64_eq (x := a - 1) (by omega) (by omega), hw.site]
    refine S_floor_Next h.fl ?_
    generalize nx s.Floor q.cell (a - 1) = m at hp ⊢
    refine Ite.mk (fun h2 => ?_) (fun h2 => ?_)
    · simp at h2; rw [if_pos h2] at hp; exact hp
    · simp at h2
      rw [if_neg (by omega)] at hp
      refine Jn.eq (!m.2 || avoid.contains m.1) (Ite.mk (fun h3 => ?_) (fun h3 => by rw [h3]; rfl)) (Ite.mk (fun h3 => ?_) (fun h3 => ?_))
      · rw [hw.avoid, h3]; exact S_slices_Contains hav rfl
      · simp only [Bool.or_eq_true, Bool.not_eq_true'] at h3
        rw [if_pos h3] at hp; exact hp
      · simp only [Bool.or_eq_false_iff, Bool.not_eq_false'] at h3
        rw [if_neg (by rw [h3.1, h3.2]; decide)] at hp
        rw [hw.tick, w64_eq (x := tick + n) (by omega) (by omega)]
        refine S_rules_Open k h (Ite.mk (fun h4 => ?_) (fun h4 => ?_))
        · simp only [Bool.not_eq_true'] at h4
          rw [if_pos h4] at hp; exact hp
        · simp only [Bool.not_eq_false'] at h4
          rw [if_neg (by simp [h4])] at hp
          refine Jn.eq (heldT taken q.cell (tick + n) || heldT taken m.1 (tick + n)) (S_held hw hl ht hn (Ite.mk (fun h5 => by rw [h5]; rfl) (fun h5 => S_held hw hl ht hn (by rw [h5]; rfl)))) (Ite.mk (fun h5 => ?_) (fun h5 => ?_))
          · simp only [Bool.or_eq_true] at h5
            rw [if_pos h5] at hp; exact hp
          · simp only [Bool.or_eq_false_iff] at h5
            rw [if_neg (by simp [h5])] at hp
            refine S_rules_Speed k h ?_
            have := spd_bd h m.1
            rw [w64_eq (by omega) (by omega)]; exact hp
end
end Go.Taq
