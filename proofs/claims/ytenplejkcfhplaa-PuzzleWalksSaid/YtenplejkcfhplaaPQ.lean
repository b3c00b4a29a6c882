/- The laws PuzzleWalks and PuzzleBack, in plain data. -/
import Derived.Test.YtenplejkcfhplaaPN
set_option linter.unusedVariables false
set_option linter.unusedSimpArgs false
namespace Go.Taq
open Go
theorem imax_eq {a b : Int} : imax a b = max a b := by unfold imax; split <;> omega
/-- a pick among shifts -/
theorem pick_ok {bs : List ApiShift} {p : Int} (hb : bs ≠ []) : ∃ s, idx bs ((imax p 0).tmod (bs.length : Int)) = some s ∧ s ∈ bs := by
  have hl : 0 < bs.length := List.length_pos_iff.2 hb
  have h0 : 0 ≤ imax p 0 := by rw [imax_eq]; omega
  have h1 : 0 ≤ (imax p 0).tmod (bs.length : Int) := Int.tmod_nonneg _ h0
  have h2 : (imax p 0).tmod (bs.length : Int) < bs.length := Int.tmod_lt_of_pos _ (by omega)
  exact ⟨_, idx_get h1 h2, List.getElem_mem _⟩
theorem Said_taquinlaw26_PuzzleWalks (f : ApiFloor) (k0 : OkApiFloor f) (r : List Int) (k1 : (OkL I64) r) (l : ApiLayout) (k2 : OkApiLayout l) (goal : Int) (k3 : I64 goal) (picks : List Int) (k4 : (OkL I64) picks) : V_taquinlaw26_PuzzleWalks f r l goal picks (fun y => y = true) := by
  unfold V_taquinlaw26_PuzzleWalks
  refine S_small (Jn.mk' (S_fair (Ite.f rfl (Ite.t rfl rfl)) (fun hf h14 ha hl => Ite.t rfl (Ite.mk (fun _ => Ite.t rfl rfl) (fun h9 => ?_)))))
  have h9' : r.length ≤ 9 := by have := of_decide_eq_false h9; omega
  cases hpk : decide ((picks.length : Int) > 200) with
  | true => exact Ite.t rfl rfl
  | false =>
  have hpk' : picks.length ≤ 200 := by have := of_decide_eq_false hpk; omega
  refine Ite.f rfl ?_
  have hk1 := hl.kpos; have hk2 := hl.kle
  generalize l.Full.count true = k at hl hk1 hk2
  have main : ∀ t, Dst f r r.length k goal t → ∀ v e : Int, (e = 0 ∧ dT r.length k t l = v ∨ e ≠ 0 ∧ dT r.length k t l = -1) →
      Jn (fun (J25 : Unit → Prop) => Loop (fun (s26 : List Bool × Int × Int) Y27 => Ite (decide (s26.2.2 ≤ (picks.length : Int))) (Jn (fun (J32 : Bool → Prop) => Ite (s26.2.1 == goal) (Ite (e != 0) (J32 true) (J32 (decide (s26.2.2 < v)))) (J32 false)) (fun (x31 : Bool) => Ite x31 (false = true) (V_layout_Shifts f r ({ Full := s26.1, Target := s26.2.1 : ApiLayout }) (fun x40 => Jn (fun (J42 : Bool → Prop) => Ite (s26.2.2 == (picks.length : Int)) (J42 true) (J42 ((x40.length : Int) == 0))) (fun (x41 : Bool) => Ite x41 (true = true) (∃ x49, idx picks s26.2.2 = some x49 ∧ ((x40.length : Int) ≠ 0) ∧ ∃ x51, idx x40 ((imax x49 0).tmod (x40.length : Int)) = some x51 ∧ V_layout_Do ({ Full := s26.1, Target := s26.2.1 : ApiLayout }) x51 (fun x52 => Y27 (x52.1.Full, x52.1.Target, w64 (s26.2.2 + 1))))))))) (J25 ())) (l.Full, l.Target, 0)) (fun (x24 : Unit) => true = true) := by
    intro t hD v e hve
    refine Jn.mk (fun _ => True) (Loop.inv picks.length (fun i (s : List Bool × Int × Int) => s.2.2 = (i : Int) ∧ ∃ l2, LOk r.length k l2 ∧ s.1 = l2.Full ∧ s.2.1 = l2.Target ∧ (0 ≤ dT r.length k t l2 → 0 ≤ dT r.length k t l ∧ dT r.length k t l ≤ dT r.length k t l2 + i)) ⟨rfl, l, hl, rfl, rfl, fun h => ⟨h, by omega⟩⟩ (fun i s hi hI => ?_) (fun s hI => ?_)) (fun _ _ => rfl)
    · obtain ⟨fu, ta, q⟩ := s
      obtain ⟨rfl, l2, hl2, rfl, rfl, hin⟩ := hI
      refine Ite.t (by show decide ((i : Int) ≤ _) = true; simp; omega) (Jn.mk (fun b => b = false) (Ite.mk (fun c => ?_) (fun c => rfl)) (fun b eb => Ite.f eb ?_))
      · have c' : l2.Target = goal := beq_iff_eq.1 c
        have hz := (hD.zero hl2).2 c'
        have h2 := hin (by omega)
        rcases hve with ⟨e1, e2⟩ | ⟨e1, e2⟩
        · refine Ite.f (by simp [e1]) ?_
          show decide ((i : Int) < v) = false
          simp; omega
        · omega
      · unfold V_layout_Shifts
        refine S_shifts hf (by show r.length = l2.Full.length; rw [hl2.len]) (by show l2.Full.length ≤ 24; rw [hl2.len]; omega) ha ?_
        have hne : ((i : Int) == (picks.length : Int)) = false := by simp; omega
        by_cases hb : btw f r l2 true = []
        · refine Jn.mk (fun b => b = true) (Ite.f hne ?_) (fun b eb => Ite.t eb rfl)
          show (((btw f r l2 true).length : Int) == 0) = true
          rw [hb]; rfl
        · have hbl : 0 < (btw f r l2 true).length := List.length_pos_iff.2 hb
          refine Jn.mk (fun b => b = false) (Ite.f hne ?_) (fun b eb => Ite.f eb ?_)
          · show (((btw f r l2 true).length : Int) == 0) = false
            simp; omega
          have hx : picks[i]? = some (picks[i]'hi) := List.getElem?_eq_getElem hi
          obtain ⟨s, hs, hsm⟩ := pick_ok (p := picks[i]'hi) hb
          obtain ⟨a, b, e1, e2, e3, _⟩ := back_ok hsm
          have hd := hl2.doS hsm
          have hnr := hD.near hl2 hsm
          refine ⟨_, idx_of rfl hx, by show ((btw f r l2 true).length : Int) ≠ 0; omega, s, hs, ?_⟩
          have h3 : l2.Full[b]? = some false := by simpa using e3
          have key : V_layout_Do l2 s (fun x52 => x52 = (doS l2 s, 0)) := by rw [e1]; exact S_Do e2 h3 (by rw [hl2.len]; omega) rfl
          have : (fun x52 : ApiLayout × Int => (w64 ((i : Int) + 1) = ((i + 1 : Nat) : Int)) ∧ ∃ l3, LOk r.length k l3 ∧ x52.1.Full = l3.Full ∧ x52.1.Target = l3.Target ∧ (0 ≤ dT r.length k t l3 → 0 ≤ dT r.length k t l ∧ dT r.length k t l ≤ dT r.length k t l3 + ((i + 1 : Nat) : Int))) (doS l2 s, 0) := ⟨w64_1 (by omega), doS l2 s, hd, rfl, rfl, fun h => by
            have h4 := hnr h
            have h5 := hin h4.1
            omega⟩
          rw [e1] at this ⊢
          exact S_Do e2 h3 (by show l2.Full.length ≤ 1000; rw [hl2.len]; omega) this
    · obtain ⟨fu, ta, q⟩ := s
      obtain ⟨rfl, l2, hl2, rfl, rfl, hin⟩ := hI
      refine Ite.t (by show decide ((picks.length : Int) ≤ _) = true; simp) (Jn.mk (fun b => b = false) (Ite.mk (fun c => ?_) (fun c => rfl)) (fun b eb => Ite.f eb ?_))
      · have c' : l2.Target = goal := beq_iff_eq.1 c
        have hz := (hD.zero hl2).2 c'
        have h2 := hin (by omega)
        rcases hve with ⟨e1, e2⟩ | ⟨e1, e2⟩
        · refine Ite.f (by simp [e1]) ?_
          show decide ((picks.length : Int) < v) = false
          simp; omega
        · omega
      · unfold V_layout_Shifts
        refine S_shifts hf (by show r.length = l2.Full.length; rw [hl2.len]) (by show l2.Full.length ≤ 24; rw [hl2.len]; omega) ha ?_
        exact Jn.mk (fun b => b = true) (Ite.t (by show ((picks.length : Int) == (picks.length : Int)) = true; simp) rfl) (fun b eb => Ite.t eb rfl)
  refine S_Least hl rfl (by omega) hf ha (fun h => by omega) (fun h h' => Ite.t rfl rfl) (fun h h' t hD e => Ite.f rfl (main t hD _ _ (.inr ⟨by decide, e⟩))) (fun h h' t hD d e => Ite.f rfl (main t hD _ _ (.inl ⟨rfl, e⟩)))
end Go.Taq
