/- The mathematics, part C: lists: searches, halving. -/
import Derived.Test.YtpcdibgbijddlaaVc
import Derived.Test.YtpcdibgbijddlaaMA
set_option linter.unusedVariables false
namespace Go.Taq
open Go

theorem S_slices_Index {xs : List Int} {v : Int} (hl : xs.length ≤ maxLen) {post : Int → Prop} (hp : post (fidx (fun x => v == x) xs)) : V_slices_Index_int_int xs v post := by
  unfold V_slices_Index_int_int
  have hm : (xs.length : Int) ≤ 9223372036854775807 := by simp [maxLen] at hl; omega
  refine Jn.mk (fun _ => post (-1)) (Loop.find xs (fun x => v == x) (fun i x hi hx hpx => ?_) (fun i x hi hx hpx hf => ?_) (fun hn hf => ?_)) (fun _ h => h)
  · refine Ite.t (by simp; omega) ⟨x, idx_of rfl hx, Ite.f hpx ?_⟩
    rw [w64_eq (by omega) (by omega)]; omega
  · refine Ite.t (by simp; omega) ⟨x, idx_of rfl hx, Ite.t hpx ?_⟩
    simpa [fidx, hf] using hp
  · refine Ite.f (by simp) ?_
    simpa [fidx, hf] using hp
theorem S_slices_Contains {xs : List Int} {v : Int} (hl : xs.length ≤ maxLen) {post : Bool → Prop} (hp : post (xs.contains v)) : V_slices_Contains_int_int xs v post := by
  unfold V_slices_Contains_int_int
  refine S_slices_Index hl ?_
  have : decide (fidx (fun x => v == x) xs ≥ 0) = xs.contains v := by rw [fidx_any, List.contains_eq_any_beq]
  rw [this]; exact hp

/-- ascending -/
def Asc (xs : List Int) : Prop := ∀ (i j : Nat) x y, i < j → xs[i]? = some x → xs[j]? = some y → x < y
theorem S_slices_BinarySearch {xs : List Int} {t : Int} (hl : xs.length ≤ maxLen) (ha : Asc xs) {post : Int × Bool → Prop} (hp : ∀ i, post (i, xs.contains t)) : V_slices_BinarySearch_int_int xs t post := by
  unfold V_slices_BinarySearch_int_int
  have hm : (xs.length : Int) ≤ 9223372036854775807 := by simp [maxLen] at hl; omega
  refine Jn.mk (fun i : Int => 0 ≤ i ∧ i ≤ xs.length ∧ (∀ (j : Nat) x, (j : Int) < i → xs[j]? = some x → x < t) ∧ (∀ (j : Nat) x, i ≤ (j : Int) → xs[j]? = some x → t ≤ x))
    (Loop.mk (fun s : Int × Int => 0 ≤ s.1 ∧ s.1 ≤ s.2 ∧ s.2 ≤ xs.length ∧ (∀ (j : Nat) x, (j : Int) < s.1 → xs[j]? = some x → x < t) ∧ (∀ (j : Nat) x, s.2 ≤ (j : Int) → xs[j]? = some x → t ≤ x)) (fun s => (s.2 - s.1).toNat) ⟨by simp, by simp, by simp, fun j x hj => absurd hj (by simp), fun j x hj hx => ?_⟩ ?_) ?_
  · have := (List.getElem?_eq_some_iff.1 hx).1
    simp at hj; omega
  · rintro ⟨i, j⟩ ⟨h0, h1, h2, h3, h4⟩
    simp only at h0 h1 h2 h3 h4
    refine Ite.mk (fun hlt => ?_) (fun hge => ?_)
    · simp only [decide_eq_true_eq] at hlt
      have e : IntKind.wrap .i64 (shrI .u64 (IntKind.wrap .u64 (w64 (i + j))) 1) = (i + j) / 2 := by
        have e1 : IntKind.wrap .u64 (w64 (i + j)) = i + j := by simp [w64, IntKind.wrap, IntKind.signed, IntKind.bits]; omega
        rw [e1, shrI]
        have e2 : (i + j).fdiv (2 ^ (min (1 : Int).toNat IntKind.u64.bits)) = (i + j) / 2 := by
          rw [Int.fdiv_eq_ediv_of_nonneg _ (by decide)]; rfl
        rw [e2]
        exact w64_eq (by omega) (by omega)
      simp only []
      rw [e]
      have hmid : i ≤ (i + j) / 2 ∧ (i + j) / 2 < j := by omega
      refine ⟨_, idx_get (by omega) (by omega), ?_⟩
      generalize hx : xs[((i + j) / 2).toNat]'(by omega) = x
      have hx' : xs[((i + j) / 2).toNat]? = some x := by rw [List.getElem?_eq_getElem (by omega), hx]
      unfold V_cmp_Less_int V_cmp_isNaN_int
      refine Jn.eq (decide (x < t)) (Ite.f (by simp) rfl) ?_
      refine Jn.mk (fun s : Int × Int => s = (if x < t then (i + j) / 2 + 1 else i, if x < t then j else (i + j) / 2)) (Ite.mk (fun h5 => ?_) (fun h5 => ?_)) ?_
      · simp at h5; simp only [h5, if_true]
        rw [w64_eq (by omega) (by omega)]
      · simp at h5; simp [Int.not_lt.2 h5]
      · rintro ⟨a, b⟩ e3
        cases e3
        by_cases h5 : x < t
        · simp only [h5, if_true]
          refine ⟨⟨by omega, by omega, by omega, fun q y hq hy => ?_, h4⟩, by omega⟩
          rcases Nat.lt_or_ge q ((i + j) / 2).toNat with h6 | h6
          · exact Int.lt_trans (ha _ _ _ _ h6 hy hx') h5
          · have : q = ((i + j) / 2).toNat := by omega
            subst this; rw [hx'] at hy; cases hy; exact h5
        · simp only [h5, if_false]
          refine ⟨⟨by omega, by omega, by omega, h3, fun q y hq hy => ?_⟩, by omega⟩
          rcases Nat.lt_or_ge ((i + j) / 2).toNat q with h6 | h6
          · have := ha _ _ _ _ h6 hx' hy; omega
          · have : q = ((i + j) / 2).toNat := by omega
            subst this; rw [hx'] at hy; cases hy; omega
    · simp only [decide_eq_false_iff_not] at hge
      have : i = j := by omega
      subst this
      exact ⟨h0, h2, h3, h4⟩
  · rintro i ⟨h0, h1, h3, h4⟩
    have hc : xs.contains t = true ↔ ∃ j : Nat, xs[j]? = some t := by
      rw [List.contains_iff_mem]; exact List.mem_iff_getElem?
    refine Jn.eq (xs.contains t) (Ite.mk (fun hlt => ?_) (fun hge => ?_)) (hp i)
    · simp only [decide_eq_true_eq] at hlt
      refine ⟨_, idx_get h0 hlt, ?_⟩
      generalize hx : xs[i.toNat]'(by omega) = x
      have hx' : xs[i.toNat]? = some x := by rw [List.getElem?_eq_getElem (by omega), hx]
      refine Ite.mk (fun h5 => ?_) (fun h5 => ?_)
      · simp at h5; subst h5
        exact (hc.2 ⟨_, hx'⟩).symm
      · unfold V_slices_isNaN_int
        refine Ite.f (by simp) ?_
        simp at h5
        cases hcc : xs.contains t
        · rfl
        · obtain ⟨j, hj⟩ := hc.1 hcc
          exfalso
          rcases Nat.lt_or_ge j i.toNat with h6 | h6
          · have := h3 j t (by omega) hj; omega
          · rcases Nat.lt_or_ge i.toNat j with h7 | h7
            · have := ha _ _ _ _ h7 hx' hj
              have := h4 i.toNat x (by omega) hx'
              omega
            · have : j = i.toNat := by omega
              subst this; rw [hx'] at hj; cases hj; exact h5 rfl
    · simp only [decide_eq_false_iff_not] at hge
      cases hcc : xs.contains t
      · rfl
      · obtain ⟨j, hj⟩ := hc.1 hcc
        have := (List.getElem?_eq_some_iff.1 hj).1
        have := h3 j t (by omega) hj; omega
end Go.Taq
