/- The law PuzzleSolves, in plain data. -/
import Derived.Test.YtenplejkcfhplaaPN
set_option linter.unusedVariables false
set_option linter.unusedSimpArgs false
namespace Go.Taq
open Go
theorem find_before {α : Type} {p : α → Bool} {xs : List α} {i : Nat} (h : xs.findIdx? p = some i) : ∀ (j : Nat) x, j < i → xs[j]? = some x → p x = false := by
  obtain ⟨hi, _, hlt⟩ := List.findIdx?_eq_some_iff_getElem.1 h
  intro j x hj hx
  have := hlt j hj
  obtain ⟨hjl, he⟩ := List.getElem?_eq_some_iff.1 hx
  rw [he] at this; simpa using this
theorem Said_taquinlaw26_PuzzleSolves (f : ApiFloor) (k0 : OkApiFloor f) (r : List Int) (k1 : (OkL I64) r) (l : ApiLayout) (k2 : OkApiLayout l) (goal : Int) (k3 : I64 goal) : V_taquinlaw26_PuzzleSolves f r l goal (fun y => y = true) := by
  unfold V_taquinlaw26_PuzzleSolves
  refine S_small (Jn.mk' (S_fair (Ite.f rfl (Ite.t rfl rfl)) (fun hf h14 ha hl => Ite.t rfl ?_)))
  cases h9 : decide ((r.length : Int) > 9) with
  | true => exact Ite.t rfl rfl
  | false =>
  have h9' : r.length ≤ 9 := by have := of_decide_eq_false h9; omega
  refine Ite.f rfl (S_Shelves (by rw [hl.len]; simp [maxLen]; omega) ?_)
  have hk1 := hl.kpos; have hk2 := hl.kle
  generalize l.Full.count true = k at hl hk1 hk2
  refine S_Table_err (fun h => by omega) (fun h h' => ?_) (fun h g1 g2 g3 g4 => ?_)
  · have hg : ¬ (0 ≤ goal ∧ goal < r.length) := by omega
    refine S_Least hl rfl (by omega) hf ha (fun h => by omega) (fun _ _ => ?_) (fun _ h2 => absurd h2 hg) (fun _ h2 => absurd h2 hg)
    refine S_Solve hl rfl (by omega) hf ha (fun h => by omega) (fun _ _ => ?_) (fun _ h2 => absurd h2 hg) (fun _ h2 => absurd h2 hg)
    exact Jn.mk (fun b => b = false) (Ite.f rfl (Ite.t rfl (Ite.f rfl rfl))) (fun b e => Ite.f e (Ite.t rfl (Jn.mk (fun b => b = true) (Ite.t rfl rfl) (fun b e => e))))
  have hg : 0 ≤ goal ∧ goal < r.length := ⟨g3, g4⟩
  refine S_Table (n := r.length) hk1 hk2 (by omega) hf rfl ha ⟨g3, g4⟩ (fun t ht => ?_)
  have hD : Dst f r r.length k goal t := ⟨hk1, hk2, by omega, rfl, ht⟩
  have htl : t.length = nL r.length k := hD.len
  have hrl := hD.rl hl
  have hsm := hD.small hl
  refine S_Least hl rfl (by omega) hf ha (fun h => by omega) (fun _ h2 => absurd hg h2) (fun _ _ u hU e => ?_) (fun _ _ u hU d e => ?_)
  · rw [hU.eq hD] at e
    refine S_Solve hl rfl (by omega) hf ha (fun h => by omega) (fun _ h2 => absurd hg h2) (fun _ _ u2 hU2 e2 => ?_) (fun _ _ u2 hU2 d2 e2 => by rw [hU2.eq hD, e] at e2; omega)
    refine Jn.mk (fun b => b = false) (Ite.f rfl (Ite.t rfl (Ite.f rfl rfl))) (fun b eb => Ite.f eb (Ite.f rfl (S_Rank hk1 hk2 (by omega) hl (Jn.mk (fun b => b = false) (Ite.f (by simp) (by rw [htl]; simp; omega)) (fun b eb => Ite.f eb ⟨_, hD.idx hl, ?_⟩)))))
    rw [e]
    exact Ite.t (by simp) (Jn.mk (fun b => b = true) (Ite.t rfl rfl) (fun b e => e))
  · rw [hU.eq hD] at e
    refine S_Solve hl rfl (by omega) hf ha (fun h => by omega) (fun _ h2 => absurd hg h2) (fun _ _ u2 hU2 e2 => by rw [hU2.eq hD, e] at e2; omega) (fun _ _ u2 hU2 d2 e2 => ?_)
    rw [hU2.eq hD] at e2 ⊢
    rw [e] at e2
    obtain rfl : d = d2 := by omega
    have hlen := slv_len hD hl e
    have hd2 : (d : Int) ≤ 49152 := by omega
    refine Jn.mk (fun b => b = false) (Ite.f (by simp) (Ite.f (by simp) rfl)) (fun b eb => Ite.f eb (Ite.f rfl (S_Rank hk1 hk2 (by omega) hl (Jn.mk (fun b => b = false) (Ite.f (by simp) (by rw [htl]; simp; omega)) (fun b eb => Ite.f eb ⟨_, hD.idx hl, ?_⟩)))))
    rw [e]
    refine Ite.f (by simp) (Jn.mk (fun b => b = false) (Ite.f rfl (Ite.f (by simp) (by rw [hlen]; simp))) (fun b eb => Ite.f eb ?_))
    generalize hsv : slv f r r.length k t d l = sv at hlen
    refine Jn.mk (fun (x : List Bool × Int) => x.2 = goal) (Loop.inv d (fun i (s : List Bool × Int × Int) => s.2.2 = (i : Int) ∧ ∃ l2, LOk r.length k l2 ∧ s.1 = l2.Full ∧ s.2.1 = l2.Target ∧ dT r.length k t l2 = ((d - i : Nat) : Int) ∧ sv.drop i = slv f r r.length k t (d - i) l2) ⟨rfl, l, hl, rfl, rfl, e, hsv.symm⟩ (fun i s hi hI => ?_) (fun s hI => ?_)) (fun x hx => ?_)
    · obtain ⟨fu, ta, q⟩ := s
      obtain ⟨rfl, l2, hl2, rfl, rfl, hd3, hdr⟩ := hI
      obtain ⟨m, hm⟩ : ∃ m, d - i = m + 1 := ⟨d - i - 1, by omega⟩
      have hm2 : d - (i + 1) = m := by omega
      rw [hm] at hd3 hdr
      obtain ⟨j, s, hj, hjx, he, hs, hsl⟩ := hD.find hl2 hd3
      rw [hsl] at hdr
      have hsx : sv[i]? = some s := by
        have := congrArg (fun x : List ApiShift => x[0]?) hdr
        simpa [List.getElem?_drop] using this
      have hdr2 : sv.drop (i + 1) = slv f r r.length k t m (doS l2 s) := by
        have := congrArg (fun x : List ApiShift => x.drop 1) hdr
        simpa [List.drop_drop] using this
      have w1 : w64 ((w64 ((d : Int) - 1)) - (i : Int)) = (m : Int) := by rw [w64_eq (x := (d : Int) - 1) (by omega) (by omega), w64_eq (by omega) (by omega)]; omega
      refine Ite.t (by show decide ((i : Int) < _) = true; rw [hlen]; simp; omega) (Jn.mk (fun (x : List Bool × Int) => x = ((doS l2 s).Full, (doS l2 s).Target)) ?_ (fun x ex => ?_))
      · unfold V_layout_Shifts
        refine S_shifts hf (by show r.length = l2.Full.length; rw [hl2.len]) (by show l2.Full.length ≤ 24; rw [hl2.len]; omega) ha ?_
        have hbl := btw_len (f := f) (r := r) (l := l2) (full := true) (by rw [hl2.len]; omega)
        have hjl := (List.getElem?_eq_some_iff.1 hjx).1
        have hbef := find_before hj
        refine Jn.mk (fun x => x = (j : Int)) (Loop.up (j + 1) (fun q => if q ≤ j then ((-1 : Int), (q : Int)) else ((j : Int), (q : Int))) (by simp) (fun q hq => ?_) ?_) (fun x ex => ?_)
        · have hqj : q ≤ j := by omega
          simp only [if_pos hqj]
          have hx : (btw f r l2 true)[q]? = some ((btw f r l2 true)[q]'(by omega)) := List.getElem?_eq_getElem (by omega)
          generalize (btw f r l2 true)[q]'(by omega) = x at hx
          have hxm := List.mem_of_getElem? hx
          have hd := hl2.doS hxm
          have hrl2 := hD.rl hd
          have hp : q < j → dT r.length k t (doS l2 x) ≠ (m : Int) := fun h => of_decide_eq_false (hbef q x h hx)
          have hp2 : q = j → dT r.length k t (doS l2 x) = (m : Int) := fun h => by subst h; rw [hjx] at hx; cases hx; exact he
          refine Jn.eq true (Ite.t (by show decide ((q : Int) < ((btw f r l2 true).length : Nat)) = true; simp; omega) (by simp)) (Ite.t rfl (Jn.mk (fun y => y = ((doS l2 x).Full, (doS l2 x).Target)) ⟨x, idx_of rfl hx, ?_⟩ (fun y ey => ?_)))
          · obtain ⟨a, b, e1, e2, e3, _⟩ := back_ok hxm
            have h3 : l2.Full[b]? = some false := by simpa using e3
            rw [e1]
            exact S_Do e2 h3 (by show l2.Full.length ≤ 1000; rw [hl2.len]; omega) rfl
          · subst ey
            refine S_Rank hk1 hk2 (by omega) (l := doS l2 x) hd (Jn.mk (fun b => b = false) (Ite.f (by simp) (by rw [htl]; simp; omega)) (fun b eb => Ite.f eb ⟨_, hD.idx hd, ?_⟩))
            refine Jn.mk' (Ite.mk (fun c => ?_) (fun c => ?_))
            · have c' : dT r.length k t (doS l2 x) = (m : Int) := by rw [← w1]; exact beq_iff_eq.1 c
              have : q = j := by
                rcases Nat.lt_or_ge q j with g | g
                · exact absurd c' (hp g)
                · omega
              rw [if_neg (by omega), w64_1 (by omega)]
              show ((q : Int), ((q + 1 : Nat) : Int)) = _
              rw [this]
            · have c' : dT r.length k t (doS l2 x) ≠ (m : Int) := by
                intro g; rw [← w1] at g; rw [g] at c; simp at c
              have : q ≠ j := fun g => c' (hp2 g)
              rw [if_pos (by omega), w64_1 (by omega)]
        · simp only [if_neg (show ¬ j + 1 ≤ j by omega)]
          refine Jn.eq false (Ite.mk (fun _ => by simp) (fun _ => rfl)) (Ite.f rfl trivial)
        · subst ex
          obtain ⟨a, b, e1, e2, e3, _⟩ := back_ok hs
          have h3 : l2.Full[b]? = some false := by simpa using e3
          refine Ite.f (by simp) ⟨s, idx_of rfl hjx, s, idx_of rfl hsx, Ite.f (by simp) ?_⟩
          rw [e1]
          exact S_Do e2 h3 (by show l2.Full.length ≤ 1000; rw [hl2.len]; omega) rfl
      · subst ex
        exact ⟨w64_1 (by omega), doS l2 s, hl2.doS hs, rfl, rfl, by rw [hm2]; exact he, by rw [hm2]; exact hdr2⟩
    · obtain ⟨fu, ta, q⟩ := s
      obtain ⟨rfl, l2, hl2, rfl, rfl, hd3, hdr⟩ := hI
      refine Ite.f (by show decide ((d : Int) < _) = false; rw [hlen]; simp) ?_
      rw [Nat.sub_self] at hd3
      exact (hD.zero hl2).1 (by simpa using hd3)
    · refine Jn.mk (fun b => b = true) (Ite.t rfl ?_) (fun b e => e)
      rw [hx]; simp
end Go.Taq
