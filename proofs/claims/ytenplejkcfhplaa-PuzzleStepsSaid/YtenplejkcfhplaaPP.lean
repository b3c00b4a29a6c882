/- The law PuzzleSteps, in plain data. -/
import Derived.Test.YtenplejkcfhplaaPN
set_option linter.unusedVariables false
set_option linter.unusedSimpArgs false
namespace Go.Taq
open Go
theorem Said_taquinlaw26_PuzzleSteps (f : ApiFloor) (k0 : OkApiFloor f) (r : List Int) (k1 : (OkL I64) r) (k : Int) (k2 : I64 k) (goal : Int) (k3 : I64 goal) : V_taquinlaw26_PuzzleSteps f r k goal (fun y => y = true) := by
  unfold V_taquinlaw26_PuzzleSteps
  refine S_small (Jn.mk' (S_ref07_Few (Ite.f rfl (Ite.t rfl rfl)) (fun _ _ => Ite.t rfl (S_ref07_Right (Ite.f rfl (Ite.t rfl rfl)) (fun hf => Ite.t rfl (Ite.mk (fun h => Ite.t rfl rfl) (fun h8 => ?_)))))))
  have h8' : r.length ≤ 8 := by have := of_decide_eq_false h8; omega
  refine S_r08_Right (by omega) (Ite.t rfl rfl) (fun ha => Ite.f rfl ?_)
  refine S_Table_err (fun h => by omega) (fun h h' => ?_) (fun h h1 h2 h3 h4 => ?_)
  · refine Jn.mk (fun b => b = true) (Ite.mk (fun _ => rfl) (fun a1 => Ite.mk (fun _ => rfl) (fun a2 => Ite.mk (fun _ => rfl) (fun a3 => ?_)))) (fun b e => Ite.t e ?_)
    · have b1 := of_decide_eq_false a1; have b2 := of_decide_eq_false a2; have b3 := of_decide_eq_false a3
      exact decide_eq_true (by omega)
    · exact Jn.mk (fun b => b = true) (Ite.t rfl (Ite.t rfl rfl)) (fun b e => e)
  obtain ⟨kn, rfl⟩ : ∃ kn : Nat, k = (kn : Int) := ⟨k.toNat, by omega⟩
  have g1 : 1 ≤ kn := by omega
  have g2 : kn ≤ r.length := by omega
  refine S_Table (n := r.length) g1 g2 h hf rfl ha ⟨h3, h4⟩ (fun t ht => ?_)
  have hD : Dst f r r.length kn goal t := ⟨g1, g2, h, rfl, ht⟩
  have hcl : nL r.length kn ≤ 49152 := count_le (k := kn) h
  have htl : t.length = nL r.length kn := hD.len
  refine Jn.mk (fun b => b = false) (Ite.f (by simp; omega) (Ite.f (by simp; omega) (Ite.f (by simp; omega) (by simp; omega)))) (fun b e => Ite.f e ?_)
  refine Jn.mk (fun b => b = false) (Ite.f rfl (S_Count g1 g2 h ?_)) (fun b e => Ite.f e ?_)
  · show ((t.length : Int) != ((nL r.length kn : Nat) : Int)) = false
    rw [htl]; simp
  refine Jn.mk (fun _ => True) (Loop.inv t.length (fun i (s : Int) => s = (i : Int)) rfl (fun i s hi hI => ?_) (fun s hI => ?_)) (fun _ _ => rfl)
  · subst hI
    have hin : i < nL r.length kn := by omega
    obtain ⟨hu, hur⟩ := unrank_ok g1 g2 hin
    have hix : idx t (i : Int) = some (dT r.length kn t (unrank r.length kn i)) := by
      have := hD.idx hu
      rw [hur] at this; exact this
    refine Ite.lt (by show (i : Int) < ((t.length : Nat) : Int); omega) (Jn.mk (fun _ => True) (S_Unrank g1 g2 h hin ?_) (fun _ _ => w64_1 (by omega)))
    generalize unrank r.length kn i = l at hu hur hix
    have hz := hD.zero hu
    have hsm := hD.small hu
    refine Jn.mk (fun b => b = false) (Ite.t rfl ⟨_, hix, Ite.t ?_ (by simp; omega)⟩) (fun b e => Ite.f e ?_)
    · by_cases e : l.Target = goal
      · simp [hz.2 e, e]
      · have : ¬ dT r.length kn t l = 0 := fun e2 => e (hz.1 e2)
        have e1 : (dT r.length kn t l == 0) = false := by simpa using this
        have e2 : (l.Target == goal) = false := by simpa using e
        show ((dT r.length kn t l == 0) == (l.Target == goal)) = true
        rw [e1, e2]; rfl
    unfold V_layout_Shifts
    refine S_shifts hf (by rw [hu.len]) (by rw [hu.len]; omega) ha ⟨_, hix, ?_⟩
    have hbl := btw_len (f := f) (r := r) (l := l) (full := true) (by rw [hu.len]; omega)
    have hnr : ∀ s, s ∈ btw f r l true → 0 ≤ dT r.length kn t (doS l s) → 0 ≤ dT r.length kn t l ∧ dT r.length kn t l ≤ dT r.length kn t (doS l s) + 1 := fun s hs h0 => hD.near hu hs h0
    have hne : ∀ d : Nat, dT r.length kn t l = ((d + 1 : Nat) : Int) → ∃ s, s ∈ btw f r l true ∧ dT r.length kn t (doS l s) = (d : Int) := fun d hd => hD.nearer hu hd
    have hbk : ∀ s, s ∈ btw f r l true → ∃ a b : Nat, s = { From := (a : Int), To := (b : Int) } ∧ l.Full[a]? = some true ∧ l.Full[b]? = some false ∧ LOk r.length kn (doS l s) := fun s hs => by
      obtain ⟨a, b, e1, e2, e3, _⟩ := back_ok hs
      exact ⟨a, b, e1, e2, by simpa using e3, hu.doS hs⟩
    generalize btw f r l true = bs at hbl hnr hne hbk
    generalize hx : dT r.length kn t l = x at hix hsm hnr hne
    have wx : w64 (x - 1) = x - 1 := w64_eq (by omega) (by omega)
    refine Jn.mk (fun b => b = true) (Loop.inv bs.length (fun j (s : Bool × Int) => s.2 = (j : Int) ∧ s.1 = (decide (x ≤ 0) || (bs.take j).any fun s => decide (dT r.length kn t (doS l s) = x - 1))) ⟨rfl, by simp⟩ (fun j s hj hJ => ?_) (fun s hJ => ?_)) (fun b e => by subst e; exact Ite.f rfl trivial)
    · obtain ⟨nr, q⟩ := s
      obtain ⟨rfl, hnrr⟩ := hJ
      replace hnrr : nr = (decide (x ≤ 0) || (bs.take j).any fun s => decide (dT r.length kn t (doS l s) = x - 1)) := hnrr
      have hbj : bs[j]? = some (bs[j]'hj) := List.getElem?_eq_getElem hj
      generalize bs[j]'hj = s at hbj
      have hsm2 := List.mem_of_getElem? hbj
      have hnr2 := hnr s hsm2
      obtain ⟨a, b, e1, e2, e3, hd⟩ := hbk s hsm2
      have hix2 := hD.idx hd
      have hrl := hD.rl hd
      have hsmall := hD.small hd
      refine Ite.lt (by show (j : Int) < _; omega) (Jn.mk (fun y => y = ((doS l s).Full, (doS l s).Target, (0 : Int))) ⟨s, idx_of rfl hbj, by rw [e1]; exact S_Do e2 e3 (by rw [hu.len]; omega) rfl⟩ (fun y ey => ?_))
      subst ey
      refine S_Rank g1 g2 h (l := doS l s) hd ?_
      refine Jn.mk (fun b => b = false) (Ite.f rfl (Ite.f (by simp) (by rw [htl]; simp; omega))) (fun b e => Ite.f e ?_)
      generalize hy : dT r.length kn t (doS l s) = y at hix2 hnr2 hsmall
      refine Jn.mk (fun b => b = false) ⟨x, hix, Ite.mk (fun c => ⟨y, hix2, Ite.mk (fun c2 => ?_) (fun c2 => rfl)⟩) (fun c => ⟨y, hix2, Ite.mk (fun c2 => ?_) (fun c2 => rfl)⟩)⟩ (fun b e => Ite.f e ?_)
      · have d1 := of_decide_eq_true c; have d2 := of_decide_eq_true c2
        have := hnr2 d2; omega
      · have d2 := of_decide_eq_true c2
        have := hnr2 d2
        rw [wx]; exact decide_eq_false (by omega)
      · refine Jn.mk (fun b => b = (nr || decide (y = x - 1))) (Ite.mk (fun c => ?_) (fun c => ⟨y, hix2, x, hix, ?_⟩)) (fun b e => ⟨w64_1 (by omega), ?_⟩)
        · have c' : nr = true := c
          show true = _
          rw [c']; rfl
        · have c' : nr = false := c
          show (y == w64 (x - 1)) = _
          rw [c', wx, Bool.eq_iff_iff]; simp
        · show b = _
          rw [e, hnrr, List.take_add_one, hbj, List.any_append, Bool.or_assoc]
          congr 1; congr 1
          simp [hy]
    · obtain ⟨nr, q⟩ := s
      obtain ⟨rfl, hnrr⟩ := hJ
      replace hnrr : nr = (decide (x ≤ 0) || (bs.take bs.length).any fun s => decide (dT r.length kn t (doS l s) = x - 1)) := hnrr
      refine Ite.nlt (by show ¬ (bs.length : Int) < _; omega) ?_
      show nr = true
      rw [hnrr, List.take_length, Bool.or_eq_true]
      by_cases c : x ≤ 0
      · exact .inl (decide_eq_true c)
      · obtain ⟨s, hs, he⟩ := hne (x - 1).toNat (by omega)
        exact .inr (List.any_eq_true.2 ⟨s, hs, decide_eq_true (by omega)⟩)
  · subst hI; exact Ite.nlt (by show ¬ ((t.length : Nat) : Int) < ((t.length : Nat) : Int); omega) trivial
end Go.Taq
