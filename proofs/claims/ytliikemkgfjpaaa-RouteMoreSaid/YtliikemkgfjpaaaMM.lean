/- The mathematics, part M: one cell more that is taken, or avoided. -/
import Derived.Test.YtliikemkgfjpaaaMY
set_option linter.unusedVariables false
namespace Go.Taq
open Go
section
variable {s : ApiSite} {a b tick : Int} {taken : List ApiTaken} {avoid : List Int} {one : ApiTaken} {two : Int}
theorem held_more {c t : Int} (h : heldT (taken ++ [one]) c t = false) : heldT taken c t = false := by
  unfold heldT at h ⊢
  rw [spansOf_app, List.any_append] at h
  simp only [Bool.or_eq_false_iff] at h
  exact h.1
theorem step_more {t act : Int} {q p : Int × Int} (h : stepF s (taken ++ [one]) (avoid ++ [two]) t q act = (p, 0)) : stepF s taken avoid t q act = (p, 0) := by
  unfold stepF at h ⊢
  by_cases h1 : act = 0
  · rw [if_pos h1] at h ⊢
    by_cases h2 : heldT (taken ++ [one]) q.1 t = true
    · rw [if_pos h2] at h; simp at h
    · rw [if_neg h2] at h
      rw [if_neg (by rw [held_more (by simpa using h2)]; decide)]; exact h
  · rw [if_neg h1] at h ⊢
    by_cases h2 : q.2 > 0
    · rw [if_pos h2] at h; simp at h
    · rw [if_neg h2] at h ⊢
      by_cases h3 : (nx s.Floor q.1 (act - 1)).2 = false ∨ (avoid ++ [two]).contains (nx s.Floor q.1 (act - 1)).1 = true
      · rw [if_pos h3] at h; simp at h
      · rw [if_neg h3] at h
        rw [if_neg (fun e => h3 (e.imp id (fun e => by simp at e ⊢; exact .inl e)))]
        by_cases h4 : opn s (nx s.Floor q.1 (act - 1)).1 t = false
        · rw [if_pos h4] at h; simp at h
        · rw [if_neg h4] at h ⊢
          by_cases h5 : heldT (taken ++ [one]) q.1 t = true ∨ heldT (taken ++ [one]) (nx s.Floor q.1 (act - 1)).1 t = true
          · rw [if_pos h5] at h; simp at h
          · rw [if_neg h5] at h
            simp only [not_or, Bool.not_eq_true] at h5
            rw [if_neg (by rw [held_more h5.1, held_more h5.2]; decide)]; exact h
theorem run_more : ∀ (v : List Int) {t : Int} {q : Int × Int}, (runF s (taken ++ [one]) (avoid ++ [two]) t q v).2 = 0 → runF s taken avoid t q v = runF s (taken ++ [one]) (avoid ++ [two]) t q v
  | [], t, q, _ => rfl
  | x :: v, t, q, h => by
    rw [runF] at h
    rw [runF, runF]
    by_cases e : (stepF s (taken ++ [one]) (avoid ++ [two]) t q x).2 = 0
    · rw [if_pos e] at h
      have hs : stepF s taken avoid t q x = stepF s (taken ++ [one]) (avoid ++ [two]) t q x := by
        have := step_more (s := s) (t := t) (q := q) (act := x) (p := (stepF s (taken ++ [one]) (avoid ++ [two]) t q x).1) (taken := taken) (avoid := avoid) (one := one) (two := two) (Prod.ext rfl e)
        rw [this]; exact Prod.ext rfl e.symm
      rw [hs, if_pos e, if_pos e]; exact run_more v h
    · rw [if_neg e] at h; exact absurd h e
theorem good_more {v : List Int} (h : GoodW s a b tick (taken ++ [one]) (avoid ++ [two]) v) : GoodW s a b tick taken avoid v := by
  obtain ⟨h1, h2, h3, h4⟩ := h
  have e := run_more v h2
  exact ⟨h1, by rw [e]; exact h2, by rw [e]; exact h3, held_more h4⟩
end
theorem Said_taquinlaw23_RouteMore (s : ApiSite) (ks : OkApiSite s) (a : Int) (ka : I64 a) (b : Int) (kb : I64 b) (tick : Int) (kt : I64 tick) (taken : List ApiTaken) (ktk : OkL OkApiTaken taken) (avoid : List Int) (kav : OkL I64 avoid) (most : Int) (km : I64 most) (one : ApiTaken) (ko : OkApiTaken one) (two : Int) (kw : I64 two) :
    V_taquinlaw23_RouteMore s a b tick taken avoid most one two (fun y => y = true) := by
  unfold V_taquinlaw23_RouteMore
  refine S_law23_small ?_
  refine Jn.mk (fun x => x = true ∨ (x = false ∧ RSite s ∧ taken.length ≤ 30 ∧ avoid.length ≤ 30 ∧ 0 ≤ most ∧ most ≤ 20)) (S_law23_fair ks (Ite.f rfl (.inl rfl)) (fun hr _ _ h1 h2 => Ite.t rfl (Ite.mk (fun _ => .inl rfl) (fun h3 => ?_)))) (fun x hx => ?_)
  · cases hb : decide (most > 20)
    · simp at h3 hb; exact .inr ⟨rfl, hr, h1, h2, h3, hb⟩
    · exact .inl rfl
  rcases hx with rfl | ⟨rfl, hr, h1, h2, h3, h4⟩
  · exact Ite.t rfl rfl
  refine Ite.f rfl ?_
  have e4 : w64 (most + 4) = most + 4 := w64_eq (by omega) (by omega)
  rw [e4]
  have hl2 : (avoid ++ [two]).length ≤ maxLen := by simp [maxLen]; omega
  refine S_route_Find ks hr.rs kav.1 (by omega) (fun g1 => ?_) (fun _ g1 => by omega) (fun g0 _ _ g1 => ?_) (fun g0 _ _ r gr grl gm => ?_)
  all_goals refine ⟨by simp; omega, by simp; omega, by simp; omega, by simp; omega, ?_⟩
  all_goals simp only [List.nil_append]
  · have g1' : rightR s a b tick = false := by rcases g1 with g1 | g1; exact g1; omega
    refine S_route_Find ks hr.rs hl2 (by simp; omega) (fun _ => ?_) (fun q0 _ => by rw [g1'] at q0; cases q0) (fun q0 => by rw [g1'] at q0; cases q0) (fun q0 => by rw [g1'] at q0; cases q0)
    refine S_route_Find ks hr.rs kav.1 (by omega) (fun _ => ?_) (fun q0 _ => by rw [g1'] at q0; cases q0) (fun q0 => by rw [g1'] at q0; cases q0) (fun q0 => by rw [g1'] at q0; cases q0)
    exact Jn.mk' (Ite.f rfl (Ite.f rfl (Jn.mk' (Ite.f rfl (Ite.f rfl (Jn.mk' (Ite.t rfl (Ite.t rfl rfl))))))))
  · refine S_route_Find ks hr.rs hl2 (by simp; omega) (fun q1 => by rcases q1 with q1 | q1; (rw [g0] at q1; cases q1); omega) (fun _ q1 => by omega) (fun _ _ _ q1 => ?_) (fun _ _ _ r' gr' grl' gm' => ?_)
    · refine S_route_Find ks hr.rs kav.1 (by omega) (fun q1 => by rcases q1 with q1 | q1; (rw [g0] at q1; cases q1); omega) (fun _ q1 => by omega) (fun _ _ _ q1 => ?_) (fun _ _ _ r'' gr'' grl'' gm'' => ?_)
      · exact Jn.mk' (Ite.f rfl (Ite.f rfl (Jn.mk' (Ite.f rfl (Ite.f rfl (Jn.mk' (Ite.t rfl (Ite.f rfl (Ite.t rfl rfl)))))))))
      · have := g1 r'' gr''
        exact Jn.mk' (Ite.f rfl (Ite.f rfl (Jn.mk' (Ite.f rfl (Ite.f rfl (Jn.mk' (Ite.t rfl (Ite.f rfl (Ite.f rfl (by simpa using this))))))))))
    · have := g1 r' (good_more gr'); omega
  · have third : ∀ {post : List Int × Int → Prop}, post (r, 0) → V_route_Find s a b tick taken avoid (most + 4) post := fun hp => by
      refine S_route_Find ks hr.rs kav.1 (by omega) (fun q1 => by rcases q1 with q1 | q1; (rw [g0] at q1; cases q1); omega) (fun _ q1 => by omega) (fun _ _ _ q1 => ?_) (fun _ _ _ r' gr' grl' gm' => ?_)
      · have := q1 r gr; omega
      · have e : r' = r := by
          obtain ⟨m1, m2⟩ := gm r' gr'
          obtain ⟨m3, m4⟩ := gm' r gr
          rcases m2 (by omega) with e | e
          · exact e
          · rcases m4 (by omega) with e2 | e2
            · exact e2.symm
            · exact (lex_asym e e2).elim
        subst e; exact hp
    have tail : Jn (fun (J37 : Bool → Prop) => Ite ((0 : Int) == 0) (Ite ((0 : Int) != 0) (J37 true) (V_taquinref07_Same r r (fun x40 => J37 (!x40)))) (J37 false)) (fun (x36 : Bool) => Ite x36 (false = true) (Jn (fun (J45 : Bool → Prop) => Ite true (Ite ((0 : Int) != 14) (J45 true) (Ite ((0 : Int) != 0) (J45 true) (J45 (decide ((r.length : Int) > most))))) (J45 false)) (fun (x44 : Bool) => x44 = true))) :=
      Jn.mk' (Ite.t rfl (Ite.f rfl (S_ref07_Same (by simp [maxLen]; omega) (Ite.f (by simp) (Jn.mk' (Ite.t rfl (Ite.t rfl rfl)))))))
    refine S_route_Find ks hr.rs hl2 (by simp; omega) (fun q1 => by rcases q1 with q1 | q1; (rw [g0] at q1; cases q1); omega) (fun _ q1 => by omega) (fun _ _ _ q1 => ?_) (fun _ _ _ r' gr' grl' gm' => ?_)
    · exact third (Jn.mk' (Ite.f rfl (Ite.f rfl tail)))
    · refine third (Jn.mk' (Ite.t rfl (Ite.f rfl (Ite.f ?_ (S_route_Check ks hr.rs kav.1 (by omega) (by simp only []; omega) (Ite.f ?_ tail))))))
      · have := (gm r' (good_more gr')).1
        simp; omega
      · simp only [bne_eq_false_iff_eq]
        exact (check_iff g0 r').2 (good_more gr')
end Go.Taq
