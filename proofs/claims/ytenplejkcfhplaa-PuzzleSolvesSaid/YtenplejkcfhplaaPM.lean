/- The mathematics of the puzzle, part M: shortest solutions. -/
import Derived.Test.YtenplejkcfhplaaPL
set_option linter.unusedVariables false
set_option linter.unusedSimpArgs false
namespace Go.Taq
open Go
/-- the least of the shortest solutions -/
def slv (f : ApiFloor) (r : List Int) (n k : Nat) (t : List Int) : Nat → ApiLayout → List ApiShift
  | 0, _ => []
  | d + 1, l => match (btw f r l true).find? (fun s => decide (dT n k t (doS l s) = (d : Int))) with
    | some s => s :: slv f r n k t d (doS l s)
    | none => []
theorem find_idx {α : Type} {p : α → Bool} : ∀ {xs : List α} {i : Nat} {x : α}, xs.findIdx? p = some i → xs[i]? = some x → xs.find? p = some x
  | [], i, x, h, _ => by simp at h
  | y :: ys, i, x, h, hx => by
    rw [List.findIdx?_cons] at h
    by_cases e : p y = true
    · rw [if_pos e] at h; cases h; simp at hx; subst hx; rw [List.find?_cons_of_pos e]
    · rw [if_neg e] at h
      cases hj : ys.findIdx? p with
      | none => rw [hj] at h; simp at h
      | some j =>
        rw [hj] at h; simp at h; subst h
        rw [List.find?_cons_of_neg e]
        exact find_idx hj (by simpa using hx)
section
variable {f : ApiFloor} {r : List Int} {n k : Nat} {goal : Int} {t : List Int}
theorem Dst.len (h : Dst f r n k goal t) : t.length = nL n k := h.ok.1
theorem Dst.idx (h : Dst f r n k goal t) {l : ApiLayout} (hl : LOk n k l) : idx t (rank n k l : Nat) = some (dT n k t l) := idx_of rfl (gT_get (by rw [h.len]; exact h.rl hl))
theorem Dst.small (h : Dst f r n k goal t) {l : ApiLayout} (hl : LOk n k l) : -1 ≤ dT n k t l ∧ dT n k t l ≤ 49152 := by
  have hc : nL n k ≤ 49152 := count_le (k := k) h.h3
  have hb := h.ok.2.2 _ (h.rl hl)
  unfold dT
  rcases h.neg hl with e | ⟨d, e⟩ <;> unfold dT at e <;> omega
/-- the search for the least shift that leads nearer -/
theorem Dst.find (h : Dst f r n k goal t) {l : ApiLayout} (hl : LOk n k l) {d : Nat} (hd : dT n k t l = ((d + 1 : Nat) : Int)) : ∃ (i : Nat) (s : ApiShift), (btw f r l true).findIdx? (fun s => decide (dT n k t (doS l s) = (d : Int))) = some i ∧ (btw f r l true)[i]? = some s ∧ dT n k t (doS l s) = (d : Int) ∧ s ∈ btw f r l true ∧ slv f r n k t (d + 1) l = s :: slv f r n k t d (doS l s) := by
  obtain ⟨s, hs, he⟩ := h.nearer hl hd
  cases hf : (btw f r l true).findIdx? (fun s => decide (dT n k t (doS l s) = (d : Int))) with
  | none =>
    rw [List.findIdx?_eq_none_iff] at hf
    have := hf s hs
    simp [he] at this
  | some i =>
    obtain ⟨hi, hp, _⟩ := List.findIdx?_eq_some_iff_getElem.1 hf
    refine ⟨i, _, rfl, List.getElem?_eq_getElem hi, of_decide_eq_true hp, List.getElem_mem hi, ?_⟩
    have := find_idx hf (List.getElem?_eq_getElem hi)
    show (match (btw f r l true).find? (fun s => decide (dT n k t (doS l s) = (d : Int))) with | some s => s :: slv f r n k t d (doS l s) | none => []) = _
    rw [this]
theorem slv_len (h : Dst f r n k goal t) : ∀ {d : Nat} {l : ApiLayout}, LOk n k l → dT n k t l = (d : Int) → (slv f r n k t d l).length = d
  | 0, l, _, _ => rfl
  | d + 1, l, hl, hd => by
    obtain ⟨i, s, _, _, he, hs, e⟩ := h.find hl hd
    rw [e, List.length_cons, slv_len h (hl.doS hs) he]
variable {l : ApiLayout} (hl : LOk n k l) (hr : r.length = n) (hn : n ≤ 24) (hf : RF f) (ha : Asc r)
include hl hr hn hf ha
theorem S_Solve {post : List ApiShift × Int → Prop} (hE : 12 < n → post ([], 27)) (hR : n ≤ 12 → ¬ (0 ≤ goal ∧ goal < n) → post ([], 3))
    (hN : n ≤ 12 → 0 ≤ goal ∧ goal < n → ∀ t, Dst f r n k goal t → dT n k t l = -1 → post ([], 14)) (hS : n ≤ 12 → 0 ≤ goal ∧ goal < n → ∀ t, Dst f r n k goal t → ∀ d : Nat, dT n k t l = (d : Int) → post (slv f r n k t d l, 0)) : V_puzzle_Solve f r l goal post := by
  unfold V_puzzle_Solve
  have hk1 := hl.kpos; have hk2 := hl.kle
  refine S_distances hl hr hn hf ha (fun h => Ite.t rfl (hE h)) (fun h1 h2 => Ite.t rfl (hR h1 h2)) (fun h1 h2 t h3 h4 => Ite.t rfl (hN h1 h2 t h3 h4)) (fun h1 h2 t hD d hd => Ite.f rfl ?_)
  have hd2 : (d : Int) ≤ 49152 := by have := (hD.small hl).2; omega
  refine Jn.mk (fun x => x = slv f r n k t d l) (Loop.inv d (fun i (s : List Bool × Int × Int × List ApiShift) => s.2.2.1 = ((d - i : Nat) : Int) ∧ ∃ l2, LOk n k l2 ∧ s.1 = l2.Full ∧ s.2.1 = l2.Target ∧ dT n k t l2 = ((d - i : Nat) : Int) ∧ s.2.2.2 ++ slv f r n k t (d - i) l2 = slv f r n k t d l ∧ s.2.2.2.length ≤ i)
    ⟨rfl, l, hl, rfl, rfl, hd, rfl, Nat.zero_le _⟩ (fun i s hi hI => ?_) (fun s hI => ?_)) (fun x e => e ▸ hS h1 h2 t hD d hd)
  · obtain ⟨fu, ta, q, o⟩ := s
    obtain ⟨rfl, l2, hl2, rfl, rfl, hd3, hs2, hol⟩ := hI
    replace hol : o.length ≤ i := hol
    obtain ⟨m, hm⟩ : ∃ m, d - i = m + 1 := ⟨d - i - 1, by omega⟩
    have hm2 : d - (i + 1) = m := by omega
    rw [hm] at hd3
    replace hs2 : o ++ slv f r n k t (d - i) l2 = slv f r n k t d l := hs2
    rw [hm] at hs2
    obtain ⟨j, s, hj, hjx, he, hs, hsl⟩ := hD.find hl2 hd3
    have w1 : w64 (((d - i : Nat) : Int) - 1) = (m : Int) := by rw [hm, w64_p (by omega) (by omega)]; simp
    refine Ite.t (by show decide (((d - i : Nat) : Int) > 0) = true; simp; omega) (Jn.mk (fun (x : List Bool × Int × List ApiShift) => x = ((doS l2 s).Full, (doS l2 s).Target, o ++ [s])) ?_ (fun x e => ?_))
    · unfold V_layout_Shifts
      refine S_shifts hf (by rw [hr, ← hl2.len]) (by show l2.Full.length ≤ 24; rw [hl2.len]; omega) ha ?_
      have hbl := btw_len (f := f) (r := r) (l := l2) (full := true) (by rw [hl2.len]; omega)
      refine Jn.mk (fun (x : List Bool × Int × List ApiShift) => x = ((doS l2 s).Full, (doS l2 s).Target, o ++ [s])) (Loop.find (btw f r l2 true) (fun s => decide (dT n k t (doS l2 s) = (m : Int))) (fun q x hq hx hp => ?_) (fun q x hq hx hp hfi => ?_) (fun hno _ => ?_)) (fun x e => e)
      · have hxm := List.mem_of_getElem? hx
        obtain ⟨a, b, rfl, hxa, hxb, _⟩ := back_ok hxm
        have hdx := hl2.doS hxm
        refine Ite.lt (by show (q : Int) < ((btw f r l2 true).length : Nat); omega) ⟨_, idx_of rfl hx, S_Do hxa hxb (by rw [hl2.len]; omega) (S_Rank hk1 hk2 (by omega) hdx ⟨_, hD.idx hdx, Ite.f ?_ (w64_1 (by omega))⟩)⟩
        rw [w1]; simpa using hp
      · have hxm := List.mem_of_getElem? hx
        have : q = j := by rw [hj] at hfi; cases hfi; rfl
        subst this
        rw [hjx] at hx; cases hx
        obtain ⟨a, b, rfl, hxa, hxb, _⟩ := back_ok hxm
        have hdx := hl2.doS hxm
        refine Ite.lt (by show (q : Int) < ((btw f r l2 true).length : Nat); omega) ⟨_, idx_of rfl hjx, S_Do hxa hxb (by rw [hl2.len]; omega) (S_Rank hk1 hk2 (by omega) hdx ⟨_, hD.idx hdx, Ite.t ?_ ⟨by simp only [List.length_cons, List.length_nil]; omega, rfl⟩⟩)⟩
        rw [w1]; simpa using hp
      · have := hno s hs
        simp [he] at this
    · subst e
      refine ⟨by rw [w1, hm2], doS l2 s, hl2.doS hs, rfl, rfl, by rw [hm2]; exact he, ?_, by simp; omega⟩
      show (o ++ [s]) ++ slv f r n k t (d - (i + 1)) (doS l2 s) = _
      rw [hm2, ← hs2, hsl]; simp
  · obtain ⟨fu, ta, q, o⟩ := s
    obtain ⟨rfl, l2, hl2, rfl, rfl, hd3, hs2, hol⟩ := hI
    refine Ite.f (by show decide (((d - d : Nat) : Int) > 0) = false; simp) ?_
    rw [Nat.sub_self] at hs2
    simpa [slv] using hs2
end
end Go.Taq
