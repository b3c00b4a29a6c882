/- The mathematics, part U: a good walk and Check; the best walk. -/
import Derived.Test.YtliikemkgfjpaaaMT
set_option linter.unusedVariables false
namespace Go.Taq
open Go
section
variable {s : ApiSite} {a b tick : Int} {taken : List ApiTaken} {avoid : List Int}
theorem foreign_iff {v : List Int} : v.any foreignA = false ↔ ∀ x, x ∈ v → 0 ≤ x ∧ x < 7 := by
  rw [List.any_eq_false]
  constructor
  · intro h x hx; have := h x hx; simp [foreignA] at this; omega
  · intro h x hx; have := h x hx; simp [foreignA]; omega
theorem check_iff (hr : rightR s a b tick = true) (v : List Int) : checkF s a b tick taken avoid v = 0 ↔ GoodW s a b tick taken avoid v := by
  unfold checkF GoodW Goal
  constructor
  · intro h
    split at h
    · simp at h
    · rename_i h1
      split at h
      · rename_i h2; exact absurd h h2
      · rename_i h2
        split at h
        · simp at h
        · rename_i h3
          split at h
          · simp at h
          · rename_i h4
            simp only [not_or, Bool.not_eq_true] at h1 h3
            simp only [ne_eq, Classical.not_not] at h2 h4
            exact ⟨foreign_iff.1 h1.2, h2, h4, by rw [← h4]; exact h3⟩
  · rintro ⟨h1, h2, h3, h4⟩
    rw [if_neg (by rw [hr, foreign_iff.2 h1]; decide), if_neg (by simp [h2]), h3, if_neg (by simp [h4]), if_neg (by simp)]
theorem check_arg (hr : rightR s a b tick = false) (v : List Int) : checkF s a b tick taken avoid v = 1 := by
  unfold checkF; rw [if_pos (.inl hr)]
end
theorem Said_taquinlaw23_RouteBest (s : ApiSite) (ks : OkApiSite s) (a : Int) (ka : I64 a) (b : Int) (kb : I64 b) (tick : Int) (kt : I64 tick) (taken : List ApiTaken) (ktk : OkL OkApiTaken taken) (avoid : List Int) (kav : OkL I64 avoid) (most : Int) (km : I64 most) (other : List Int) (ko : OkL I64 other) :
    V_taquinlaw23_RouteBest s a b tick taken avoid most other (fun y => y = true) := by
  unfold V_taquinlaw23_RouteBest
  refine S_law23_small ?_
  refine Jn.mk (fun x => x = true ∨ (x = false ∧ RSite s ∧ taken.length ≤ 30 ∧ 0 ≤ most ∧ most ≤ 25 ∧ other.length ≤ 25)) (S_law23_fair ks (Ite.f rfl (.inl rfl)) (fun hr _ _ h1 h2 => Ite.t rfl (Ite.mk (fun _ => .inl rfl) (fun h3 => Ite.mk (fun _ => .inl rfl) (fun h4 => ?_))))) (fun x hx => ?_)
  · simp at h3 h4
    cases hb : decide ((other.length : Int) > 25)
    · simp at hb; exact .inr ⟨rfl, hr, h1, h3, h4, by omega⟩
    · exact .inl rfl
  rcases hx with rfl | ⟨rfl, hr, h1, h3, h4, h5⟩
  · exact Ite.t rfl rfl
  refine Ite.f rfl ?_
  refine S_route_Find ks hr.rs kav.1 (by omega) (fun g1 => ?_) (fun _ g1 => by omega) (fun hg _ _ g1 => ?_) (fun hg _ _ r gr grl gm => ?_)
  · have g2 : rightR s a b tick = false := by rcases g1 with g1 | g1; exact g1; omega
    refine S_route_Check ks hr.rs kav.1 (by omega) (by omega) (Ite.t rfl ?_)
    rw [check_arg g2]
    exact Jn.mk' (Ite.t rfl (Ite.t rfl rfl))
  · refine S_route_Check ks hr.rs kav.1 (by omega) (by omega) (Ite.f rfl (Ite.t rfl (Jn.mk' (Ite.t rfl (Ite.t rfl (Ite.mk (fun _ => rfl) (fun g2 => ?_)))))))
    simp only [bne_eq_false_iff_eq] at g2
    have := g1 other ((check_iff hg other).1 g2)
    simpa using this
  · refine S_route_Check ks hr.rs kav.1 (by omega) (by omega) (Ite.f rfl (Ite.f rfl (Jn.eq false (Ite.f rfl (Ite.f (by simpa using grl) (S_route_Check ks hr.rs kav.1 (by omega) (by simp only []; omega) ?_))) (Ite.f rfl (Jn.mk (fun x => x = false → checkF s a b tick taken avoid other = 0 ∧ other.length ≤ r.length) (Ite.mk (fun _ h => by cases h) (fun g2 g3 => ?_)) (fun x hx => Ite.mk (fun _ => rfl) (fun g2 => ?_)))))))
    · rw [(check_iff hg r).2 gr]; rfl
    · simp only [bne_eq_false_iff_eq] at g2
      simp at g3
      exact ⟨g2, g3⟩
    · obtain ⟨g3, g4⟩ := hx g2
      obtain ⟨m1, m2⟩ := gm other ((check_iff hg other).1 g3)
      have hl : other.length = r.length := by omega
      refine Ite.f (by simp; omega) (Jn.mk (fun _ => True) (Loop.upto r.length (fun i => ∀ j : Nat, j < i → r[j]? = other[j]?) (fun j h => by omega) (fun i hi h Y hY => Ite.lt (by simp only []; omega) ?_) (fun h => Ite.nlt (by simp only []; omega) trivial)) (fun _ _ => rfl))
      have ha : r[i]? = some (r[i]'hi) := List.getElem?_eq_getElem hi
      have hb : other[i]? = some (other[i]'(by omega)) := List.getElem?_eq_getElem (by omega)
      refine ⟨_, idx_of rfl ha, _, idx_of rfl hb, Ite.mk (fun h2 => ?_) (fun h2 => ?_)⟩
      · simp at h2
        refine Jn.mk' (Ite.t rfl ?_)
        rcases m2 hl with e | ⟨j, x, y, e1, e2, e3, e4⟩
        · subst e; exact absurd rfl h2
        · have hj : j = i := by
            rcases Nat.lt_trichotomy j i with q | q | q
            · have := h j q; rw [e2, e3] at this; cases this; omega
            · exact q
            · exfalso
              apply h2
              have q1 : (r.take j)[i]? = (other.take j)[i]? := by rw [e1]
              rw [List.getElem?_take, List.getElem?_take, if_pos q, if_pos q, ha, hb] at q1
              exact Option.some.inj q1
          subst hj
          rw [ha] at e2; rw [hb] at e3; cases e2; cases e3
          simpa using e4
      · rw [w64_nat hi (by simp [maxLen]; omega)]
        refine hY (fun j hj => ?_)
        by_cases e : j = i
        · subst e; rw [ha, hb]; simp at h2; rw [h2]
        · exact h j (by omega)
end Go.Taq
