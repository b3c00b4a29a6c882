/- The law PuzzleBack, in plain data. -/
import Derived.Test.YtenplejkcfhplaaPQ
set_option linter.unusedVariables false
set_option linter.unusedSimpArgs false
namespace Go.Taq
open Go
theorem Said_taquinlaw26_PuzzleBack (f : ApiFloor) (k0 : OkApiFloor f) (r : List Int) (k1 : (OkL I64) r) (l : ApiLayout) (k2 : OkApiLayout l) (goal : Int) (k3 : I64 goal) (picks : List Int) (k4 : (OkL I64) picks) : V_taquinlaw26_PuzzleBack f r l goal picks (fun y => y = true) := by
  unfold V_taquinlaw26_PuzzleBack
  refine S_small (Jn.mk' (S_fair (Ite.f rfl (Ite.t rfl rfl)) (fun hf h14 ha hl => Ite.t rfl (Ite.mk (fun _ => Ite.t rfl rfl) (fun h9 => Ite.mk (fun _ => Ite.t rfl rfl) (fun hpk => ?_))))))
  have h9' : r.length ≤ 9 := by have := of_decide_eq_false h9; omega
  have hpk' : picks.length ≤ 50 := by have := of_decide_eq_false hpk; omega
  refine S_open hf (by omega) (Ite.t rfl rfl) (fun hop => Ite.f rfl ?_)
  have hk1 := hl.kpos; have hk2 := hl.kle
  generalize l.Full.count true = k at hl hk1 hk2
  have main : ∀ t, Dst f r r.length k goal t → 0 ≤ goal ∧ goal < r.length → ∀ v e : Int, (e = 0 ∧ dT r.length k t l = v ∧ 0 ≤ v ∨ e = 14 ∧ dT r.length k t l = -1 ∧ v = 0) →
      Jn (fun (J29 : (List Bool × Int × Int) → Prop) => Loop (fun (s30 : List Bool × Int × Int × Int) Y31 => Ite (decide (s30.2.2.2 < (picks.length : Int))) (V_layout_Shifts f r ({ Full := s30.1, Target := s30.2.1 : ApiLayout }) (fun x37 => Jn (fun (J41 : (List Bool × Int × Int) → Prop) => Ite (decide ((x37.length : Int) > 0)) (∃ x45, idx picks s30.2.2.2 = some x45 ∧ ((x37.length : Int) ≠ 0) ∧ ∃ x47, idx x37 ((imax x45 0).tmod (x37.length : Int)) = some x47 ∧ V_layout_Do ({ Full := s30.1, Target := s30.2.1 : ApiLayout }) x47 (fun x48 => J41 (x48.1.Full, x48.1.Target, w64 (s30.2.2.1 + 1)))) (J41 (s30.1, s30.2.1, s30.2.2.1))) (fun (x40 : List Bool × Int × Int) => Y31 (x40.1, x40.2.1, x40.2.2, w64 (s30.2.2.2 + 1))))) (J29 (s30.1, s30.2.1, s30.2.2.1))) (l.Full, l.Target, 0, 0)) (fun (x28 : List Bool × Int × Int) => V_puzzle_Least f r ({ Full := x28.1, Target := x28.2.1 : ApiLayout }) goal (fun x55 => Jn (fun (J57 : Bool → Prop) => Ite true (Ite (e == x55.2) (J57 (decide ((imax (w64 (v - x55.1)) (w64 (x55.1 - v))) ≤ x28.2.2))) (J57 false)) (J57 false)) (fun (x56 : Bool) => x56 = true))) := by
    intro t hD hg v e hve
    refine Jn.mk (fun (x : List Bool × Int × Int) => ∃ l2, LOk r.length k l2 ∧ x.1 = l2.Full ∧ x.2.1 = l2.Target ∧ (0 ≤ dT r.length k t l2 ∧ 0 ≤ dT r.length k t l ∧ dT r.length k t l ≤ dT r.length k t l2 + x.2.2 ∧ dT r.length k t l2 ≤ dT r.length k t l + x.2.2 ∨ dT r.length k t l2 = -1 ∧ dT r.length k t l = -1 ∧ 0 ≤ x.2.2))
      (Loop.inv picks.length (fun i (s : List Bool × Int × Int × Int) => s.2.2.2 = (i : Int) ∧ ∃ l2 : ApiLayout, ∃ st : Nat, LOk r.length k l2 ∧ s.1 = l2.Full ∧ s.2.1 = l2.Target ∧ s.2.2.1 = (st : Int) ∧ st ≤ i ∧ (0 ≤ dT r.length k t l2 ∧ 0 ≤ dT r.length k t l ∧ dT r.length k t l ≤ dT r.length k t l2 + st ∧ dT r.length k t l2 ≤ dT r.length k t l + st ∨ dT r.length k t l2 = -1 ∧ dT r.length k t l = -1))
        ⟨rfl, l, 0, hl, rfl, rfl, rfl, Nat.le_refl _, ?_⟩ (fun i s hi hI => ?_) (fun s hI => ?_)) (fun x hx => ?_)
    · have := (hD.small hl).1
      by_cases c : 0 ≤ dT r.length k t l
      · exact .inl ⟨c, c, by omega, by omega⟩
      · exact .inr ⟨by omega, by omega⟩
    · obtain ⟨fu, ta, st', q⟩ := s
      obtain ⟨rfl, l2, st, hl2, rfl, rfl, rfl, hst, hin⟩ := hI
      refine Ite.t (by show decide ((i : Int) < _) = true; simp; omega) ?_
      unfold V_layout_Shifts
      refine S_shifts hf (by show r.length = l2.Full.length; rw [hl2.len]) (by show l2.Full.length ≤ 24; rw [hl2.len]; omega) ha ?_
      refine Jn.mk (fun (x : List Bool × Int × Int) => ∃ l2 : ApiLayout, ∃ st : Nat, LOk r.length k l2 ∧ x.1 = l2.Full ∧ x.2.1 = l2.Target ∧ x.2.2 = (st : Int) ∧ st ≤ i + 1 ∧ (0 ≤ dT r.length k t l2 ∧ 0 ≤ dT r.length k t l ∧ dT r.length k t l ≤ dT r.length k t l2 + st ∧ dT r.length k t l2 ≤ dT r.length k t l + st ∨ dT r.length k t l2 = -1 ∧ dT r.length k t l = -1)) (Ite.mk (fun c => ?_) (fun c => ⟨l2, st, hl2, rfl, rfl, rfl, by omega, hin⟩)) (fun x hx => ⟨w64_1 (by omega), hx⟩)
      have c' : ((btw f r l2 true).length : Int) > 0 := of_decide_eq_true c
      have hb : btw f r l2 true ≠ [] := fun e => by rw [e] at c'; simp at c'
      have hx : picks[i]? = some (picks[i]'hi) := List.getElem?_eq_getElem hi
      obtain ⟨s, hs, hsm⟩ := pick_ok (p := picks[i]'hi) hb
      obtain ⟨a, b, e1, e2, e3, _⟩ := back_ok hsm
      have hd := hl2.doS hsm
      have hnr := hD.near hl2 hsm
      have hfr := hD.far hop hl2 hsm
      have hs1 := (hD.small hd).1
      have hs2 := (hD.small hl2).1
      refine ⟨_, idx_of rfl hx, by show ((btw f r l2 true).length : Int) ≠ 0; omega, s, hs, ?_⟩
      have h3 : l2.Full[b]? = some false := by simpa using e3
      have : ∃ l3 : ApiLayout, ∃ st2 : Nat, LOk r.length k l3 ∧ (doS l2 s).Full = l3.Full ∧ (doS l2 s).Target = l3.Target ∧ w64 ((st : Int) + 1) = (st2 : Int) ∧ st2 ≤ i + 1 ∧ (0 ≤ dT r.length k t l3 ∧ 0 ≤ dT r.length k t l ∧ dT r.length k t l ≤ dT r.length k t l3 + st2 ∧ dT r.length k t l3 ≤ dT r.length k t l + st2 ∨ dT r.length k t l3 = -1 ∧ dT r.length k t l = -1) := by
        refine ⟨doS l2 s, st + 1, hd, rfl, rfl, w64_1 (by omega), by omega, ?_⟩
        rcases hin with ⟨c1, c2, c3, c4⟩ | ⟨c1, c2⟩
        · have d1 := hfr c1
          have d2 := hnr d1.1
          exact .inl ⟨d1.1, c2, by omega, by omega⟩
        · refine .inr ⟨?_, c2⟩
          by_cases g : 0 ≤ dT r.length k t (doS l2 s)
          · have := (hnr g).1; omega
          · omega
      rw [e1] at this ⊢
      exact S_Do e2 h3 (by show l2.Full.length ≤ 1000; rw [hl2.len]; omega) this
    · obtain ⟨fu, ta, st', q⟩ := s
      obtain ⟨rfl, l2, st, hl2, rfl, rfl, rfl, hst, hin⟩ := hI
      refine Ite.f (by show decide ((picks.length : Int) < _) = false; simp) ⟨l2, hl2, rfl, rfl, ?_⟩
      rcases hin with h | h
      · exact .inl h
      · exact .inr ⟨h.1, h.2, Int.natCast_nonneg _⟩
    · obtain ⟨fu, ta, st⟩ := x
      obtain ⟨l2, hl2, rfl, rfl, hin⟩ := hx
      have hsm := hD.small hl2
      have hsm0 := hD.small hl
      refine S_Least (l := l2) hl2 rfl (by omega) hf ha (fun h => by omega) (fun h h' => absurd hg h') (fun h h' u hU e2 => ?_) (fun h h' u hU d2 e2 => ?_)
      · rw [hU.eq hD] at e2
        rcases hve with ⟨e3, e4, e5⟩ | ⟨e3, e4, e5⟩
        · exfalso
          rcases hin with ⟨c1, _⟩ | ⟨_, c2, _⟩ <;> omega
        · refine Jn.mk (fun b => b = true) (Ite.t rfl (Ite.t (by simp [e3]) ?_)) (fun b e => e)
          rcases hin with ⟨c1, _⟩ | ⟨_, c2, c3⟩
          · omega
          · subst e5
            show decide (imax (w64 (0 - 0)) (w64 (0 - 0)) ≤ st) = true
            rw [imax_eq, w64_eq (by omega) (by omega)]
            exact decide_eq_true (by replace c3 : 0 ≤ st := c3; omega)
      · rw [hU.eq hD] at e2
        rcases hve with ⟨e3, e4, e5⟩ | ⟨e3, e4, e5⟩
        · refine Jn.mk (fun b => b = true) (Ite.t rfl (Ite.t (by simp [e3]) ?_)) (fun b e => e)
          rcases hin with ⟨c1, c2, c3, c4⟩ | ⟨c1, c2, c3⟩
          · show decide (imax (w64 (v - (d2 : Int))) (w64 ((d2 : Int) - v)) ≤ st) = true
            rw [imax_eq, w64_eq (by omega) (by omega), w64_eq (by omega) (by omega)]
            replace c3 : dT r.length k t l ≤ dT r.length k t l2 + st := c3
            replace c4 : dT r.length k t l2 ≤ dT r.length k t l + st := c4
            exact decide_eq_true (by omega)
          · omega
        · exfalso
          rcases hin with ⟨_, c2, _⟩ | ⟨c1, _⟩ <;> omega
  refine S_Least hl rfl (by omega) hf ha (fun h => by omega) (fun h h' => Ite.t rfl rfl) (fun h h' t hD e => Ite.f rfl (main t hD h' _ _ (.inr ⟨rfl, e, rfl⟩))) (fun h h' t hD d e => Ite.f rfl (main t hD h' _ _ (.inl ⟨rfl, e, by omega⟩)))
end Go.Taq
