/- The mathematics, several parts in one text. -/
import Derived.Test.YthbeknnkokooiaaMB
import Derived.Test.YthbeknnkokooiaaPC
/- The mathematics, part PR: the floor's reference, few cells, and the search in a row that ascends. -/
set_option linter.unusedVariables false
set_option linter.unusedSimpArgs false
namespace Go.Taq
open Go
/-- ascending -/
def Asc (xs : List Int) : Prop := ∀ (i j : Nat) x y, i < j → xs[i]? = some x → xs[j]? = some y → x < y
theorem S_slices_BinarySearch {xs : List Int} {t : Int} (hl : xs.length ≤ maxLen) (ha : Asc xs) {post : Int × Bool → Prop} (hp : ∀ i, (xs.contains t = true → 0 ≤ i ∧ xs[i.toNat]? = some t) → post (i, xs.contains t)) : V_slices_BinarySearch_int_int xs t post := by
  unfold V_slices_BinarySearch_int_int
  have hm : (xs.length : Int) ≤ 9223372036854775807 := by simp [maxLen] at hl; omega
  refine Jn.mk (fun i : Int => 0 ≤ i ∧ i ≤ xs.length ∧ (∀ (j : Nat) x, (j : Int) < i → xs[j]? = some x → x < t) ∧ (∀ (j : Nat) x, i ≤ (j : Int) → xs[j]? = some x → t ≤ x))
    (Loop.mk (fun s : Int × Int => 0 ≤ s.1 ∧ s.1 ≤ s.2 ∧ s.2 ≤ xs.length ∧ (∀ (j : Nat) x, (j : Int) < s.1 → xs[j]? = some x → x < t) ∧ (∀ (j : Nat) x, s.2 ≤ (j : Int) → xs[j]? = some x → t ≤ x)) (fun s => (s.2 - s.1).toNat) ⟨by simp, by simp, by simp, fun j x hj => absurd hj (by simp), fun j x hj hx => ?_⟩ ?_) ?_
  · have := (List.getElem?_eq_some_iff.1 hx).1
    simp at hj; omega
  · rintro ⟨i, j⟩ ⟨h0, h1, h2, h3, h4⟩
    simp only at h0 h1 h2 h3 h4
    refine Ite.mk (fun hlt => ?_) (fun hge => ?_)
    · simp only [decide_eq_true_eq] at hlt
      have e : IntKind.wrap .i64 (shrI .u64 (IntKind.wrap .u64 (w64 (i + j))) 1) = (i + j) / 2 := by
        have e1 : IntKind.wrap .u64 (w64 (i + j)) = i + j := by simp [w64, IntKind.wrap, IntKind.signed, IntKind.bits]; omega
        rw [e1, shrI]
        have e2 : (i + j).fdiv (2 ^ (min (1 : Int).toNat IntKind.u64.bits)) = (i + j) / 2 := by
          rw [Int.fdiv_eq_ediv_of_nonneg _ (by decide)]; rfl
        rw [e2]
        exact w64_eq (by omega) (by omega)
      simp only []
      rw [e]
      have hmid : i ≤ (i + j) / 2 ∧ (i + j) / 2 < j := by omega
      refine ⟨_, idx_get (by omega) (by omega), ?_⟩
      generalize hx : xs[((i + j) / 2).toNat]'(by omega) = x
      have hx' : xs[((i + j) / 2).toNat]? = some x := by rw [List.getElem?_eq_getElem (by omega), hx]
      unfold V_cmp_Less_int V_cmp_isNaN_int
      refine Jn.eq (decide (x < t)) (Ite.f (by simp) rfl) ?_
      refine Jn.mk (fun s : Int × Int => s = (if x < t then (i + j) / 2 + 1 else i, if x < t then j else (i + j) / 2)) (Ite.mk (fun h5 => ?_) (fun h5 => ?_)) ?_
      · simp at h5; simp only [h5, if_true]
        rw [w64_eq (by omega) (by omega)]
      · simp at h5; simp [Int.not_lt.2 h5]
      · rintro ⟨a, b⟩ e3
        cases e3
        by_cases h5 : x < t
        · simp only [h5, if_true]
          refine ⟨⟨by omega, by omega, by omega, fun q y hq hy => ?_, h4⟩, by omega⟩
          rcases Nat.lt_or_ge q ((i + j) / 2).toNat with h6 | h6
          · exact Int.lt_trans (ha _ _ _ _ h6 hy hx') h5
          · have : q = ((i + j) / 2).toNat := by omega
            subst this; rw [hx'] at hy; cases hy; exact h5
        · simp only [h5, if_false]
          refine ⟨⟨by omega, by omega, by omega, h3, fun q y hq hy => ?_⟩, by omega⟩
          rcases Nat.lt_or_ge ((i + j) / 2).toNat q with h6 | h6
          · have := ha _ _ _ _ h6 hx' hy; omega
          · have : q = ((i + j) / 2).toNat := by omega
            subst this; rw [hx'] at hy; cases hy; omega
    · simp only [decide_eq_false_iff_not] at hge
      have : i = j := by omega
      subst this
      exact ⟨h0, h2, h3, h4⟩
  · rintro i ⟨h0, h1, h3, h4⟩
    have hc : xs.contains t = true ↔ ∃ j : Nat, xs[j]? = some t := by
      rw [List.contains_iff_mem]; exact List.mem_iff_getElem?
    have hi : xs.contains t = true → 0 ≤ i ∧ xs[i.toNat]? = some t := fun hcc => by
      obtain ⟨j, hj⟩ := hc.1 hcc
      have hjl := (List.getElem?_eq_some_iff.1 hj).1
      refine ⟨h0, ?_⟩
      rcases Nat.lt_or_ge j i.toNat with h6 | h6
      · have := h3 j t (by omega) hj; omega
      · rcases Nat.lt_or_ge i.toNat j with h7 | h7
        · have hx : xs[i.toNat]? = some (xs[i.toNat]'(by omega)) := List.getElem?_eq_getElem _
          have := ha _ _ _ _ h7 hx hj
          have := h4 i.toNat _ (by omega) hx
          omega
        · have : j = i.toNat := by omega
          rw [← this]; exact hj
    refine Jn.eq (xs.contains t) (Ite.mk (fun hlt => ?_) (fun hge => ?_)) (hp i hi)
    · simp only [decide_eq_true_eq] at hlt
      refine ⟨_, idx_get h0 hlt, ?_⟩
      generalize hx : xs[i.toNat]'(by omega) = x
      have hx' : xs[i.toNat]? = some x := by rw [List.getElem?_eq_getElem (by omega), hx]
      refine Ite.mk (fun h5 => ?_) (fun h5 => ?_)
      · simp at h5; subst h5
        exact (hc.2 ⟨_, hx'⟩).symm
      · unfold V_slices_isNaN_int
        refine Ite.f (by simp) ?_
        simp at h5
        cases hcc : xs.contains t
        · rfl
        · obtain ⟨j, hj⟩ := hc.1 hcc
          exfalso
          rcases Nat.lt_or_ge j i.toNat with h6 | h6
          · have := h3 j t (by omega) hj; omega
          · rcases Nat.lt_or_ge i.toNat j with h7 | h7
            · have := ha _ _ _ _ h7 hx' hj
              have := h4 i.toNat x (by omega) hx'
              omega
            · have : j = i.toNat := by omega
              subst this; rw [hx'] at hj; cases hj; exact h5 rfl
    · simp only [decide_eq_false_iff_not] at hge
      cases hcc : xs.contains t
      · rfl
      · obtain ⟨j, hj⟩ := hc.1 hcc
        have := (List.getElem?_eq_some_iff.1 hj).1
        have := h3 j t (by omega) hj; omega
end Go.Taq

/- The mathematics of layouts, part G: the possible shifts. -/
set_option linter.unusedVariables false
set_option linter.unusedSimpArgs false
namespace Go.Taq
open Go
/-- rows that ascend and have the same elements are one -/
theorem sorted_ext {α : Type} {lt : α → α → Prop} (ha : ∀ x y, lt x y → lt y x → False) : ∀ {xs ys : List α}, xs.Pairwise lt → ys.Pairwise lt → (∀ x, x ∈ xs ↔ x ∈ ys) → xs = ys
  | [], [], _, _, _ => rfl
  | [], y :: ys, _, _, h => by have := (h y).2 (by simp); simp at this
  | x :: xs, [], _, _, h => by have := (h x).1 (by simp); simp at this
  | x :: xs, y :: ys, h1, h2, h => by
    rw [List.pairwise_cons] at h1 h2
    have e : x = y := by
      rcases List.mem_cons.1 ((h x).1 (by simp)) with e | e
      · exact e
      · rcases List.mem_cons.1 ((h y).2 (by simp)) with e2 | e2
        · exact e2.symm
        · exact (ha _ _ (h1.1 y e2) (h2.1 x e)).elim
    subst e
    rw [sorted_ext ha h1.2 h2.2 (fun z => ⟨fun hz => ?_, fun hz => ?_⟩)]
    · rcases List.mem_cons.1 ((h z).1 (List.mem_cons_of_mem _ hz)) with e | e
      · subst e; exact (ha _ _ (h1.1 z hz) (h1.1 z hz)).elim
      · exact e
    · rcases List.mem_cons.1 ((h z).2 (List.mem_cons_of_mem _ hz)) with e | e
      · subst e; exact (ha _ _ (h2.1 z hz) (h2.1 z hz)).elim
      · exact e
/-- a row without what comes twice -/
def cmI {α : Type} [DecidableEq α] (xs : List α) : Nat → List α
  | 0 => []
  | i + 1 => cmI xs i ++ (if i = 0 ∨ xs[i]? ≠ xs[i - 1]? then xs[i]?.toList else [])
section
variable {α : Type} [DecidableEq α] {xs : List α}
theorem cmI_mem : ∀ i, i ≤ xs.length → ∀ s, s ∈ cmI xs i ↔ s ∈ xs.take i
  | 0, _, s => by simp [cmI]
  | i + 1, h, s => by
    have ih := cmI_mem i (by omega) s
    have hx : xs[i]? = some (xs[i]'(by omega)) := List.getElem?_eq_getElem (by omega)
    unfold cmI
    rw [List.take_add_one, List.mem_append, List.mem_append, ih]
    by_cases c : i = 0 ∨ xs[i]? ≠ xs[i - 1]?
    · rw [if_pos c]
    · rw [if_neg c]
      have c1 : i ≠ 0 := fun e => c (.inl e)
      have c2 : xs[i]? = xs[i - 1]? := Classical.byContradiction fun e => c (.inr e)
      constructor
      · rintro (h | h)
        · exact .inl h
        · simp at h
      · rintro (h | h)
        · exact .inl h
        · refine .inl ?_
          rw [c2] at h
          have : (xs.take i)[i - 1]? = xs[i - 1]? := List.getElem?_take_of_lt (by omega)
          rw [← this] at h
          exact List.mem_of_getElem? (Option.mem_toList.1 h)
theorem cmI_lt {lt : α → α → Prop} (ht : ∀ x y z, (lt x y ∨ x = y) → lt y z → lt x z) (hs : xs.Pairwise (fun x y => lt x y ∨ x = y)) : ∀ i, i ≤ xs.length → (cmI xs i).Pairwise lt
  | 0, _ => by simp [cmI]
  | i + 1, h => by
    have ih := cmI_lt ht hs i (by omega)
    unfold cmI
    by_cases c : i = 0 ∨ xs[i]? ≠ xs[i - 1]?
    · rw [if_pos c, List.pairwise_append]
      have hx : xs[i]? = some (xs[i]'(by omega)) := List.getElem?_eq_getElem (by omega)
      rw [hx]
      refine ⟨ih, by simp, fun a ha b hb => ?_⟩
      simp at hb; subst hb
      rw [cmI_mem i (by omega)] at ha
      rcases c with c | c
      · subst c; simp at ha
      · obtain ⟨j, hj⟩ := List.getElem?_of_mem ha
        have hji : j < i := by have := (List.getElem?_eq_some_iff.1 hj).1; simp at this; omega
        rw [List.getElem?_take_of_lt hji] at hj
        have hg := List.pairwise_iff_getElem.1 hs
        obtain ⟨hjl, hje⟩ := List.getElem?_eq_some_iff.1 hj
        have hx1 : xs[i - 1]? = some (xs[i - 1]'(by omega)) := List.getElem?_eq_getElem (by omega)
        have h1 : lt (xs[i - 1]'(by omega)) (xs[i]'(by omega)) := by
          rcases hg (i - 1) i (by omega) (by omega) (by omega) with e | e
          · exact e
          · exact absurd (by rw [hx, hx1, e]) c
        subst hje
        by_cases e : j = i - 1
        · subst e; exact h1
        · exact ht _ _ _ (hg j (i - 1) (by omega) (by omega) (by omega)) h1
    · rw [if_neg c]; simpa using ih
theorem cmI_same {i : Nat} (h : 1 ≤ i) (e : xs[i]? = xs[i - 1]?) : cmI xs (i + 1) = cmI xs i := by
  rw [cmI, if_neg (by intro h; rcases h with h | h; omega; exact h e)]; simp
theorem cmI_new {i : Nat} {x : α} (h : xs[i]? = some x) (e : i = 0 ∨ xs[i]? ≠ xs[i - 1]?) : cmI xs (i + 1) = cmI xs i ++ [x] := by
  rw [cmI, if_pos e, h]; rfl
end
theorem shEq {a b : ApiShift} : ((a.From == b.From) && ((a.To == b.To) && true)) = decide (a = b) := by
  cases a; cases b; rw [Bool.eq_iff_iff]; simp
theorem S_Compact {xs : List ApiShift} (hl : xs.length ≤ 1000000) {post : List ApiShift → Prop} (hp : post (cmI xs xs.length)) : V_slices_Compact_api_Shift_api_Shift__o0 xs post := by
  unfold V_slices_Compact_api_Shift_api_Shift__o0
  simp only [shEq]
  refine Ite.mk (fun h => ?_) (fun h => ?_)
  · have h' : (xs.length : Int) < 2 := of_decide_eq_true h
    have : cmI xs xs.length = xs := by
      match xs, h' with
      | [], _ => rfl
      | [x], _ => rfl
      | _ :: _ :: _, h' => simp at h'; omega
    rw [this] at hp; exact hp
  have h' : ¬ (xs.length : Int) < 2 := of_decide_eq_false h
  have all : cmI xs xs.length = xs → post xs := fun e => by rw [e] at hp; exact hp
  refine Jn.mk (fun _ => post xs) (Loop.inv (xs.length - 1) (fun i (s : Int) => s = ((i + 1 : Nat) : Int) ∧ cmI xs (i + 1) = xs.take (i + 1)) ⟨rfl, ?_⟩ (fun i s hi hI => ?_) (fun s hI => ?_)) (fun _ h => h)
  · have hx : xs[0]? = some (xs[0]'(by omega)) := List.getElem?_eq_getElem (by omega)
    rw [cmI_new hx (.inl rfl), List.take_add_one, hx]; rfl
  · obtain ⟨rfl, hI⟩ := hI
    have hx : xs[i + 1]? = some (xs[i + 1]'(by omega)) := List.getElem?_eq_getElem (by omega)
    have hx0 : xs[i]? = some (xs[i]'(by omega)) := List.getElem?_eq_getElem (by omega)
    generalize hxv : xs[i + 1]'(by omega) = x at hx
    generalize hyv : xs[i]'(by omega) = y at hx0
    have w1 : w64 (((i + 1 : Nat) : Int) - 1) = (i : Int) := by rw [w64_p (by omega) (by omega)]; simp
    refine Ite.lt (by omega) (Jn.mk (fun _ => cmI xs (i + 2) = xs.take (i + 2)) ⟨x, idx_of rfl hx, y, idx_of w1 hx0, Ite.mk (fun e => ?_) (fun e => ?_)⟩ (fun _ e => ⟨w64_1 (by omega), e⟩))
    · have e' : x = y := of_decide_eq_true e
      have hsame : cmI xs (i + 1 + 1) = cmI xs (i + 1) := cmI_same (by omega) (by simp only [Nat.add_sub_cancel]; rw [hx, hx0, e'])
      have hn2 : Int.toNat ((xs.length : Int) - ((i + 1 : Nat) : Int)) = xs.length - (i + 1) := by omega
      simp only [hn2, Int.toNat_natCast]
      refine ⟨⟨by omega, by omega, by omega⟩, Jn.mk (fun (t : List ApiShift × Int) => ∃ kk : Nat, t.2 = (kk : Int) ∧ t.1.length = xs.length ∧ kk ≤ xs.length ∧ t.1.take kk = cmI xs xs.length)
        (Loop.inv (xs.length - (i + 1) - 1) (fun j (t : List ApiShift × Int × Int) => t.2.2 = ((j + 1 : Nat) : Int) ∧ ∃ kk : Nat, t.2.1 = (kk : Int) ∧ t.1.length = xs.length ∧ kk ≤ i + 1 + j ∧ t.1.take kk = cmI xs (i + 1 + j + 1) ∧ ∀ q, i + 1 + j ≤ q → t.1[q]? = xs[q]?)
          ⟨rfl, i + 1, rfl, rfl, by omega, by rw [Nat.add_zero, hsame, hI], fun q _ => rfl⟩ (fun j t hj hJ => ?_) (fun t hJ => ?_)) (fun t hJ => ?_)⟩
      · obtain ⟨ys, kk', q⟩ := t
        obtain ⟨rfl, kk, rfl, hyl, hkk, htk, hsm⟩ := hJ
        replace hyl : ys.length = xs.length := hyl
        replace htk : ys.take kk = cmI xs (i + 1 + j + 1) := htk
        replace hsm : ∀ q, i + 1 + j ≤ q → ys[q]? = xs[q]? := hsm
        have wj : w64 (((j + 1 : Nat) : Int) - 1) = (j : Int) := by rw [w64_p (by omega) (by omega)]; simp
        have wj1 : w64 (((j + 1 : Nat) : Int) + 1) = ((j + 1 + 1 : Nat) : Int) := w64_1 (by omega)
        have wk1 : w64 ((kk : Int) + 1) = ((kk + 1 : Nat) : Int) := w64_1 (by omega)
        have ha : xs[i + 1 + j + 1]? = some (xs[i + 1 + j + 1]'(by omega)) := List.getElem?_eq_getElem (by omega)
        have hb : xs[i + 1 + j]? = some (xs[i + 1 + j]'(by omega)) := List.getElem?_eq_getElem (by omega)
        generalize xs[i + 1 + j + 1]'(by omega) = a at ha
        generalize xs[i + 1 + j]'(by omega) = b at hb
        refine Ite.lt (by show ((j + 1 : Nat) : Int) < _; omega) ?_
        simp only [wj, wj1, wk1, Int.toNat_natCast]
        refine ⟨⟨by omega, by omega⟩, a, by rw [show i + 1 + (j + 1) = i + 1 + j + 1 by omega, hsm _ (by omega)]; exact ha, ⟨by omega, by omega⟩, b, by rw [hsm _ (by omega)]; exact hb, ?_⟩
        refine Jn.mk (fun (t : List ApiShift × Int) => ∃ kk : Nat, t.2 = (kk : Int) ∧ t.1.length = xs.length ∧ kk ≤ i + 1 + (j + 1) ∧ t.1.take kk = cmI xs (i + 1 + (j + 1) + 1) ∧ ∀ q, i + 1 + (j + 1) ≤ q → t.1[q]? = xs[q]?) (Ite.mk (fun e => ?_) (fun e => ?_)) (fun t h => ⟨by trivial, h⟩)
        · have hab : ¬ a = b := by simpa using e
          have hkl : kk < ys.length := by omega
          refine ⟨⟨by omega, by omega⟩, _, idx_of rfl (List.getElem?_eq_getElem hkl), kk + 1, rfl, by simpa using hyl, by omega, ?_, fun q hq => ?_⟩
          · show (ys.set kk a).take (kk + 1) = _
            rw [List.take_add_one, List.take_set_of_le (Nat.le_refl _), htk, List.getElem?_set, if_pos rfl, if_pos hkl]
            have := cmI_new ha (.inr (by simp only [Nat.add_sub_cancel]; rw [ha, hb]; simpa using hab))
            rw [show i + 1 + (j + 1) + 1 = i + 1 + j + 1 + 1 by omega, this]; rfl
          · show (ys.set kk a)[q]? = _
            rw [List.getElem?_set_ne (by omega)]; exact hsm q (by omega)
        · have hab : a = b := by simpa using e
          have := cmI_same (xs := xs) (i := i + 1 + j + 1) (by omega) (by simp only [Nat.add_sub_cancel]; rw [ha, hb, hab])
          exact ⟨kk, rfl, hyl, by omega, by rw [show i + 1 + (j + 1) + 1 = i + 1 + j + 1 + 1 by omega, this]; exact htk, fun q hq => hsm q (by omega)⟩
      · obtain ⟨ys, kk', q⟩ := t
        obtain ⟨rfl, kk, rfl, hyl, hkk, htk, hsm⟩ := hJ
        refine Ite.nlt (by show ¬ ((xs.length - (i + 1) - 1 + 1 : Nat) : Int) < _; omega) ⟨kk, rfl, hyl, by omega, ?_⟩
        rw [show i + 1 + (xs.length - (i + 1) - 1) + 1 = xs.length by omega] at htk
        exact htk
      · obtain ⟨ys, kk'⟩ := t
        obtain ⟨kk, rfl, hyl, hkk, htk⟩ := hJ
        replace hyl : ys.length = xs.length := hyl
        replace htk : ys.take kk = cmI xs xs.length := htk
        have hn3 : Int.toNat ((ys.length : Int) - (kk : Int)) = ys.length - kk := by omega
        simp only [hn3, Int.toNat_natCast]
        refine ⟨⟨by omega, by omega, by omega⟩, by omega, ⟨by omega, by omega, ?_⟩, ?_⟩
        · simp only [List.length_append, List.length_take, List.length_replicate, List.length_drop]; omega
        · have : sub (ys.take kk ++ (List.replicate (ys.length - kk) ({ From := 0, To := 0 : ApiShift }) ++ ys.drop (kk + (ys.length - kk)))) 0 (kk : Int) = ys.take kk := by
            simp only [sub, Int.toNat_natCast, Int.toNat_zero, List.drop_zero, Nat.sub_zero]
            rw [List.take_append_of_le_length (by simp; omega)]
            rw [List.take_of_length_le (by simp; omega)]
          rw [this, htk]; exact hp
    · have e' : ¬ x = y := of_decide_eq_false e
      show cmI xs (i + 1 + 1) = xs.take (i + 1 + 1)
      rw [cmI_new hx (.inr (by simp only [Nat.add_sub_cancel]; rw [hx, hx0]; simpa using e')), List.take_add_one, hx, hI]; rfl
  · obtain ⟨rfl, hI⟩ := hI
    refine Ite.nlt (by omega) ?_
    rw [show xs.length - 1 + 1 = xs.length by omega, List.take_length] at hI
    exact all hI
end Go.Taq

/- The mathematics of layouts, part H: the possible shifts, in the reference and in the layer. -/
set_option linter.unusedVariables false
set_option linter.unusedSimpArgs false
namespace Go.Taq
open Go
/-- one gets from a cell to another one -/
def getsB (f : ApiFloor) (a b : Int) : Bool := (List.range 6).any fun d => decide (nx f a (d : Int) = (b, true))
theorem getsB_iff {f : ApiFloor} {a b : Int} : getsB f a b = true ↔ ∃ d : Nat, d < 6 ∧ nx f a (d : Int) = (b, true) := by
  simp only [getsB, List.any_eq_true, List.mem_range, decide_eq_true_eq]
/-- a shift is possible (or may have led here) -/
def btP (f : ApiFloor) (r : List Int) (l : ApiLayout) (full : Bool) (i j : Nat) : Bool := decide (l.Full[i]? = some full) && (decide (l.Full[j]? = some (!full)) && getsB f (r.getD i 0) (r.getD j 0))
def btR (f : ApiFloor) (r : List Int) (l : ApiLayout) (full : Bool) (i m : Nat) : List ApiShift := ((List.range m).filter (btP f r l full i)).map fun j => { From := (i : Int), To := ((j : Nat) : Int) }
/-- all shifts between cells with a shelf, or without one, and others -/
def btw (f : ApiFloor) (r : List Int) (l : ApiLayout) (full : Bool) : List ApiShift := (List.range l.Full.length).flatMap fun i => btR f r l full i l.Full.length
section
variable {f : ApiFloor} {r : List Int} {l : ApiLayout} {full : Bool}
theorem btR_succ {i m : Nat} : btR f r l full i (m + 1) = btR f r l full i m ++ (if btP f r l full i m = true then [{ From := (i : Int), To := (m : Int) }] else []) := by
  unfold btR
  rw [List.range_succ, List.filter_append, List.map_append]
  congr 1
  by_cases h : btP f r l full i m = true
  · rw [if_pos h, List.filter_cons_of_pos h]; rfl
  · rw [if_neg h, List.filter_cons_of_neg h]; rfl
theorem btR_len {i m : Nat} : (btR f r l full i m).length ≤ m := by
  unfold btR; rw [List.length_map]; exact Nat.le_trans (List.length_filter_le _ _) (by simp)
theorem mem_btR {i m : Nat} {s : ApiShift} : s ∈ btR f r l full i m ↔ ∃ j : Nat, j < m ∧ s = { From := (i : Int), To := (j : Int) } ∧ btP f r l full i j = true := by
  unfold btR
  simp only [List.mem_map, List.mem_filter, List.mem_range]
  constructor
  · rintro ⟨j, ⟨h1, h2⟩, rfl⟩; exact ⟨j, h1, rfl, h2⟩
  · rintro ⟨j, h1, rfl, h2⟩; exact ⟨j, ⟨h1, h2⟩, rfl⟩
theorem mem_btw {s : ApiShift} : s ∈ btw f r l full ↔ ∃ i j : Nat, i < l.Full.length ∧ j < l.Full.length ∧ s = { From := (i : Int), To := (j : Int) } ∧ btP f r l full i j = true := by
  unfold btw
  simp only [List.mem_flatMap, List.mem_range, mem_btR]
  constructor
  · rintro ⟨i, h1, j, h2, h3, h4⟩; exact ⟨i, j, h1, h2, h3, h4⟩
  · rintro ⟨i, j, h1, h2, h3, h4⟩; exact ⟨i, h1, j, h2, h3, h4⟩
/-- the order of shifts -/
def shLt (a b : ApiShift) : Prop := a.From < b.From ∨ a.From = b.From ∧ a.To < b.To
theorem btR_lt {i : Nat} : ∀ m, (btR f r l full i m).Pairwise shLt
  | 0 => by simp [btR]
  | m + 1 => by
    rw [btR_succ, List.pairwise_append]
    refine ⟨btR_lt m, by split <;> simp, fun a ha b hb => ?_⟩
    obtain ⟨j, hj, rfl, _⟩ := mem_btR.1 ha
    split at hb
    · simp at hb; subst hb; exact .inr ⟨rfl, by show (j : Int) < m; omega⟩
    · simp at hb
theorem btw_lt : (btw f r l full).Pairwise shLt := by
  unfold btw
  generalize l.Full.length = n
  have key : ∀ k, ((List.range k).flatMap fun i => btR f r l full i n).Pairwise shLt := by
    intro k
    induction k with
    | zero => simp
    | succ k ih =>
      rw [List.range_succ, List.flatMap_append, List.pairwise_append]
      refine ⟨ih, by simpa using btR_lt n, fun a ha b hb => ?_⟩
      simp only [List.mem_flatMap, List.mem_range] at ha
      obtain ⟨i, hi, ha⟩ := ha
      simp only [List.flatMap_cons, List.flatMap_nil, List.append_nil] at hb
      obtain ⟨j, _, rfl, _⟩ := mem_btR.1 ha
      obtain ⟨j', _, rfl, _⟩ := mem_btR.1 hb
      exact .inl (by show (i : Int) < k; omega)
  exact key n
/-- a comparison of shifts -/
def cfS (a b : ApiShift) : Int := if a.From = b.From then a.To - b.To else a.From - b.From
def pS (s : ApiShift) : Prop := 0 ≤ s.From ∧ s.From ≤ 1000 ∧ 0 ≤ s.To ∧ s.To ≤ 1000
theorem swoS : SWOc fun x y : Subtype pS => cfS x.1 y.1 := by
  refine ⟨fun x => ?_, fun x y z => ?_, fun x y z => ?_⟩
  · simp [cfS]
  · simp only [cfS]; repeat' split
    all_goals omega
  · simp only [cfS]; repeat' split
    all_goals omega
theorem cfS_le {x y : ApiShift} : ¬ cfS y x < 0 ↔ (shLt x y ∨ x = y) := by
  cases x; cases y
  simp only [cfS, shLt, ApiShift.mk.injEq]
  split <;> omega
theorem S_shifts (h : RF f) (hr : r.length = l.Full.length) (hl : l.Full.length ≤ 24) (ha : Asc r) {post : List ApiShift → Prop} (hp : post (btw f r l full)) : V_layout_shifts f r l full post := by
  unfold V_layout_shifts
  have hrm : r.length ≤ maxLen := by rw [hr]; simp [maxLen]; omega
  have Inj : ∀ {i j : Nat} {x : Int}, r[i]? = some x → r[j]? = some x → i = j := fun {i j x} h1 h2 => by
    rcases Nat.lt_trichotomy i j with h | h | h
    · have := ha _ _ _ _ h h1 h2; omega
    · exact h
    · have := ha _ _ _ _ h h2 h1; omega
  refine Jn.mk (fun o => o.length ≤ 1000 ∧ ∀ s, s ∈ o ↔ s ∈ btw f r l full)
    (Loop.inv r.length (fun i (s : List ApiShift × Int) => s.2 = (i : Int) ∧ s.1.length ≤ i * 6 ∧ ∀ t, t ∈ s.1 ↔ ∃ a b : Nat, a < i ∧ b < l.Full.length ∧ t = { From := (a : Int), To := (b : Int) } ∧ btP f r l full a b = true) ⟨rfl, by simp, fun t => by simp⟩ (fun i s hi hI => ?_) (fun s hI => ?_)) (fun o hO => ?_)
  · obtain ⟨o, q⟩ := s
    obtain ⟨rfl, hol, ho⟩ := hI
    replace hol : o.length ≤ i * 6 := hol
    have hx : l.Full[i]? = some (l.Full[i]'(by omega)) := List.getElem?_eq_getElem (by omega)
    have hri : r[i]? = some (r[i]'(by omega)) := List.getElem?_eq_getElem (by omega)
    have hrD : r.getD i 0 = r[i]'(by omega) := by rw [List.getD_eq_getElem?_getD, hri]; rfl
    generalize r[i]'(by omega) = ri at hri hrD
    generalize l.Full[i]'(by omega) = b at hx
    refine Ite.lt (by show (i : Int) < _; omega) (Jn.mk (fun o => o.length ≤ (i + 1) * 6 ∧ ∀ t, t ∈ o ↔ ∃ a b : Nat, a < i + 1 ∧ b < l.Full.length ∧ t = { From := (a : Int), To := (b : Int) } ∧ btP f r l full a b = true) ⟨ri, idx_of rfl hri, b, idx_of rfl hx, Ite.mk (fun e => ?_) (fun e => ?_)⟩ (fun o e => ⟨w64_1 (by omega), e⟩))
    · have e' : b ≠ full := by simpa using e
      refine ⟨by show o.length ≤ _; omega, fun t => (ho t).trans ⟨?_, ?_⟩⟩
      · rintro ⟨a, c, h1, h2⟩; exact ⟨a, c, by omega, h2⟩
      · rintro ⟨a, c, h1, h2, h3, h4⟩
        refine ⟨a, c, ?_, h2, h3, h4⟩
        rcases Nat.lt_or_ge a i with h5 | h5
        · exact h5
        · have : a = i := by omega
          subst this
          unfold btP at h4; rw [hx] at h4; simp [e'] at h4
    · have e' : b = full := by simpa using e
      subst e'
      refine Jn.mk (fun o2 => o2.length ≤ (i + 1) * 6 ∧ ∀ t, t ∈ o2 ↔ ∃ a c : Nat, a < i + 1 ∧ c < l.Full.length ∧ t = { From := (a : Int), To := (c : Int) } ∧ btP f r l b a c = true)
        (Loop.inv 6 (fun d (s : List ApiShift × Int) => s.2 = (d : Int) ∧ s.1.length ≤ i * 6 + d ∧ ∀ t, t ∈ s.1 ↔ t ∈ o ∨ ∃ c : Nat, c < l.Full.length ∧ t = { From := (i : Int), To := (c : Int) } ∧ l.Full[c]? = some (!b) ∧ ∃ d' : Nat, d' < d ∧ nx f ri (d' : Int) = (r.getD c 0, true)) ⟨rfl, hol, fun t => by simp⟩ (fun d s hd hJ => ?_) (fun s hJ => ?_)) (fun o2 hO => hO)
      · obtain ⟨o2, q⟩ := s
        obtain ⟨rfl, hol2, ho2⟩ := hJ
        replace hol2 : o2.length ≤ i * 6 + d := hol2
        refine Ite.lt (by show (d : Int) < 6; omega) (Jn.mk (fun o3 => o3.length ≤ i * 6 + (d + 1) ∧ ∀ t, t ∈ o3 ↔ t ∈ o ∨ ∃ c : Nat, c < l.Full.length ∧ t = { From := (i : Int), To := (c : Int) } ∧ l.Full[c]? = some (!b) ∧ ∃ d' : Nat, d' < d + 1 ∧ nx f ri (d' : Int) = (r.getD c 0, true)) (S_floor_Next h ?_) (fun o3 e => ⟨w64_1 (by omega), e⟩))
        have stay : (∀ c : Nat, c < l.Full.length → l.Full[c]? = some (!b) → nx f ri (d : Int) = (r.getD c 0, true) → False) → o2.length ≤ i * 6 + (d + 1) ∧ ∀ t, t ∈ o2 ↔ t ∈ o ∨ ∃ c : Nat, c < l.Full.length ∧ t = { From := (i : Int), To := (c : Int) } ∧ l.Full[c]? = some (!b) ∧ ∃ d' : Nat, d' < d + 1 ∧ nx f ri (d' : Int) = (r.getD c 0, true) := fun hno => by
          refine ⟨by omega, fun t => (ho2 t).trans (or_congr Iff.rfl ⟨?_, ?_⟩)⟩
          · rintro ⟨c, h1, h2, h3, d', h4, h5⟩; exact ⟨c, h1, h2, h3, d', by omega, h5⟩
          · rintro ⟨c, h1, h2, h3, d', h4, h5⟩
            refine ⟨c, h1, h2, h3, d', ?_, h5⟩
            rcases Nat.lt_or_ge d' d with h6 | h6
            · exact h6
            · have : d' = d := by omega
              subst this; exact (hno c h1 h3 h5).elim
        generalize hq : nx f ri (d : Int) = q at stay ⊢
        obtain ⟨to, ok⟩ := q
        refine Ite.mk (fun e => ?_) (fun e => ?_)
        · have e' : ok = false := by simpa using e
          subst e'
          exact stay (fun c h1 h2 h3 => by simp at h3)
        · have e' : ok = true := by simpa using e
          subst e'
          refine S_slices_BinarySearch hrm ha (fun k hk => ?_)
          cases hc : r.contains to with
          | false =>
            have hno : ∀ c : Nat, c < l.Full.length → r.getD c 0 ≠ to := fun c h1 e => by
              have hm : to ∈ r := by
                have h2 : r[c]? = some (r[c]'(by omega)) := List.getElem?_eq_getElem (by omega)
                rw [List.getD_eq_getElem?_getD, h2] at e
                exact e ▸ List.mem_of_getElem? h2
              rw [List.contains_iff_mem.2 hm] at hc; cases hc
            refine Jn.eq false (Ite.f rfl rfl) (Jn.mk' (Ite.f rfl (stay (fun c h1 h2 h3 => hno c h1 (by simp at h3; exact h3.symm)))))
          | true =>
            obtain ⟨hk0, hkx⟩ := hk hc
            obtain ⟨kn, rfl⟩ : ∃ kn : Nat, k = (kn : Int) := ⟨k.toNat, by omega⟩
            rw [Int.toNat_natCast] at hkx
            have hkl : kn < l.Full.length := by have := (List.getElem?_eq_some_iff.1 hkx).1; omega
            have hkD : r.getD kn 0 = to := by rw [List.getD_eq_getElem?_getD, hkx]; rfl
            have hy : l.Full[kn]? = some (l.Full[kn]'hkl) := List.getElem?_eq_getElem hkl
            generalize l.Full[kn]'hkl = c at hy
            have only : ∀ c' : Nat, c' < l.Full.length → r.getD c' 0 = to → c' = kn := fun c' h1 e => by
              have h2 : r[c']? = some (r[c']'(by omega)) := List.getElem?_eq_getElem (by omega)
              rw [List.getD_eq_getElem?_getD, h2] at e
              exact Inj (h2.trans (congrArg some e)) hkx
            refine Jn.eq (!(c == b)) (Ite.t rfl ⟨c, idx_of rfl hy, rfl⟩) (Jn.mk' (Ite.mk (fun e => ⟨by simp only [List.length_cons, List.length_nil]; omega, ?_⟩) (fun e => stay (fun c' h1 h2 h3 => ?_))))
            · have e' : c = !b := by revert e; cases c <;> cases b <;> simp
              subst e'
              refine ⟨by show (o2 ++ [_]).length ≤ _; rw [List.length_append]; simp only [List.length_cons, List.length_nil]; omega, fun t => ?_⟩
              show t ∈ o2 ++ [_] ↔ _
              rw [List.mem_append, ho2 t]
              constructor
              · rintro ((h1 | ⟨c, h1, h2, h3, d', h4, h5⟩) | h1)
                · exact .inl h1
                · exact .inr ⟨c, h1, h2, h3, d', by omega, h5⟩
                · simp at h1; exact .inr ⟨kn, hkl, h1, hy, d, by omega, by rw [hkD]; exact hq⟩
              · rintro (h1 | ⟨c, h1, h2, h3, d', h4, h5⟩)
                · exact .inl (.inl h1)
                · rcases Nat.lt_or_ge d' d with h6 | h6
                  · exact .inl (.inr ⟨c, h1, h2, h3, d', h6, h5⟩)
                  · have : d' = d := by omega
                    subst this
                    rw [hq] at h5
                    have := only c h1 (by simp at h5; exact h5.symm)
                    subst this; exact .inr (by simp [h2])
            · have e' : c = b := by revert e; cases c <;> cases b <;> simp
              have := only c' h1 (by simp at h3; exact h3.symm)
              subst this; subst e'; rw [hy] at h2; cases c <;> simp at h2
      · obtain ⟨o2, q⟩ := s
        obtain ⟨rfl, hol2, ho2⟩ := hJ
        refine Ite.nlt (by show ¬ ((6 : Nat) : Int) < 6; omega) ⟨by show o2.length ≤ _; replace hol2 : o2.length ≤ i * 6 + 6 := hol2; omega, fun t => (ho2 t).trans ?_⟩
        rw [ho t]
        constructor
        · rintro (⟨a, c, h1, h2⟩ | ⟨c, h1, h2, h3, d', h4, h5⟩)
          · exact ⟨a, c, by omega, h2⟩
          · refine ⟨i, c, by omega, h1, h2, ?_⟩
            have : getsB f ri (r.getD c 0) = true := getsB_iff.2 ⟨d', h4, h5⟩
            unfold btP; rw [hx, h3, hrD, this]; simp
        · rintro ⟨a, c, h1, h2, h3, h4⟩
          rcases Nat.lt_or_ge a i with h5 | h5
          · exact .inl ⟨a, c, h5, h2, h3, h4⟩
          · have : a = i := by omega
            subst this
            unfold btP at h4
            simp only [Bool.and_eq_true, decide_eq_true_eq] at h4
            obtain ⟨_, h6, h7⟩ := h4
            rw [hrD] at h7
            obtain ⟨d', h8, h9⟩ := getsB_iff.1 h7
            exact .inr ⟨c, h2, h3, h6, d', h8, h9⟩
  · obtain ⟨o, q⟩ := s
    obtain ⟨rfl, hol, ho⟩ := hI
    refine Ite.nlt (by show ¬ (r.length : Int) < _; omega) ⟨by show o.length ≤ _; replace hol : o.length ≤ r.length * 6 := hol; omega, fun t => (ho t).trans ?_⟩
    rw [mem_btw]
    constructor
    · rintro ⟨a, c, h1, h2⟩; exact ⟨a, c, by omega, h2⟩
    · rintro ⟨a, c, h1, h2⟩; exact ⟨a, c, by omega, h2⟩
  · obtain ⟨hol, ho⟩ := hO
    refine ⟨pS, cfS, ?_, swoS, fun s hs => ?_, fun x y hx hy => ?_, by omega, fun ys hp1 hs => S_Compact (by rw [hp1.length_eq]; omega) ?_⟩
    · refine ⟨?_, ?_, ?_, ?_⟩ <;> decide
    · obtain ⟨a, c, h1, h2, rfl, _⟩ := mem_btw.1 ((ho s).1 hs)
      refine ⟨?_, ?_, ?_, ?_⟩ <;> simp <;> omega
    · unfold V_layout_shifts_1
      obtain ⟨a1, a2, a3, a4⟩ := hx
      obtain ⟨b1, b2, b3, b4⟩ := hy
      refine Ite.mk (fun e => ?_) (fun e => ?_)
      · have e' : x.From ≠ y.From := by simpa using e
        simp only [cfS, if_neg e']; exact w64_eq (by omega) (by omega)
      · have e' : x.From = y.From := by simpa using e
        simp only [cfS, if_pos e']; exact w64_eq (by omega) (by omega)
    · have hsort : ys.Pairwise (fun x y => shLt x y ∨ x = y) := hs.imp fun h => cfS_le.1 h
      have hlt : (cmI ys ys.length).Pairwise shLt := cmI_lt (fun x y z h1 h2 => by
        unfold shLt at *
        rcases h1 with h1 | h1
        · omega
        · subst h1; exact h2) hsort _ (Nat.le_refl _)
      have : cmI ys ys.length = btw f r l full := sorted_ext (lt := shLt) (fun x y h1 h2 => by unfold shLt at *; omega) hlt btw_lt (fun s => by
        rw [cmI_mem _ (Nat.le_refl _), List.take_length, hp1.mem_iff, ho s])
      rw [this]; exact hp
end
end Go.Taq

/- The mathematics of search: distances by breadth first search, over any numbers. -/
set_option linter.unusedVariables false
set_option linter.unusedSimpArgs false
namespace Go.Taq
open Go
def gT (t : List Int) (i : Nat) : Int := t.getD i (-1)
theorem gT_get {t : List Int} {i : Nat} (h : i < t.length) : t[i]? = some (gT t i) := by
  unfold gT; rw [List.getD_eq_getElem?_getD, List.getElem?_eq_getElem h]; rfl
theorem gT_set {t : List Int} {i j : Nat} {v : Int} (h : i < t.length) : gT (t.set i v) j = if i = j then v else gT t j := by
  unfold gT
  rw [List.getD_eq_getElem?_getD, List.getD_eq_getElem?_getD, List.getElem?_set]
  by_cases e : i = j
  · subst e; rw [if_pos rfl, if_pos h, if_pos rfl]; rfl
  · rw [if_neg e, if_neg e]
theorem gT_ext {t u : List Int} (h : t.length = u.length) (he : ∀ i, i < t.length → gT t i = gT u i) : t = u := by
  apply List.ext_getElem? 
  intro i
  rcases Nat.lt_or_ge i t.length with h1 | h1
  · rw [gT_get h1, gT_get (h ▸ h1), he i h1]
  · rw [List.getElem?_eq_none h1, List.getElem?_eq_none (by omega)]
theorem count_seti : ∀ {l : List Int} {i : Nat} {v : Int}, l[i]? = some (-1) → v ≠ -1 → (l.set i v).count (-1) + 1 = l.count (-1)
  | [], i, v, h, _ => by simp at h
  | b :: l, 0, v, h, hv => by
    simp at h; subst h
    rw [List.set_cons_zero, List.count_cons_of_ne (by simpa using hv), List.count_cons_self]
  | b :: l, i + 1, v, h, hv => by
    have ih := count_seti (l := l) (i := i) (v := v) (by simpa using h) hv
    simp only [List.set_cons_succ, List.count_cons]
    omega
/-- so many steps lead to a source -/
inductive Pt (N : Nat) (pre : Nat → List Nat) (src : Nat → Bool) : Nat → Nat → Prop
  | zero {i : Nat} : i < N → src i = true → Pt N pre src 0 i
  | succ {d i j : Nat} : Pt N pre src d j → i ∈ pre j → Pt N pre src (d + 1) i
section
variable {N : Nat} {pre : Nat → List Nat} {src : Nat → Bool}
theorem Pt.lt (hp : ∀ j, j < N → ∀ i, i ∈ pre j → i < N) {d i : Nat} (h : Pt N pre src d i) : i < N := by
  induction h with
  | zero h _ => exact h
  | succ _ h ih => exact hp _ ih _ h
/-- what the search gives -/
def TOk (N : Nat) (pre : Nat → List Nat) (src : Nat → Bool) (t : List Int) : Prop :=
  t.length = N ∧ (∀ i, i < N → (gT t i = -1 ∧ ∀ d, ¬ Pt N pre src d i) ∨ ∃ d : Nat, gT t i = (d : Int) ∧ Pt N pre src d i ∧ ∀ e, Pt N pre src e i → d ≤ e) ∧ ∀ i, i < N → gT t i ≤ N
theorem TOk.eq {t u : List Int} (h1 : TOk N pre src t) (h2 : TOk N pre src u) : t = u := by
  refine gT_ext (h1.1.trans h2.1.symm) (fun i hi => ?_)
  rw [h1.1] at hi
  rcases h1.2.1 i hi with ⟨a1, a2⟩ | ⟨d, a1, a2, a3⟩
  · rcases h2.2.1 i hi with ⟨b1, b2⟩ | ⟨e, b1, b2, b3⟩
    · rw [a1, b1]
    · exact absurd b2 (a2 e)
  · rcases h2.2.1 i hi with ⟨b1, b2⟩ | ⟨e, b1, b2, b3⟩
    · exact absurd a2 (b2 d)
    · have := a3 e b2; have := b3 d a2; rw [a1, b1]; omega
structure Bf (N : Nat) (pre : Nat → List Nat) (src : Nat → Bool) (out : List Int) (pend : List Nat) : Prop where
  ol : out.length = N
  pt : ∀ i, i < N → gT out i = -1 ∨ ∃ d : Nat, gT out i = (d : Int) ∧ Pt N pre src d i
  sr : ∀ i, i < N → src i = true → gT out i = 0
  qu : ∀ q, q ∈ pend → q < N ∧ 0 ≤ gT out q
  le : ∀ c q, c < N → q ∈ pend → gT out c ≤ gT out q + 1
  so : pend.Pairwise (fun p q => gT out p ≤ gT out q)
  dn : ∀ c, c < N → 0 ≤ gT out c → c ∈ pend ∨ ∀ p, p ∈ pre c → 0 ≤ gT out p ∧ gT out p ≤ gT out c + 1
  bd : ∀ c, c < N → gT out c + (out.count (-1) : Nat) ≤ (N : Int)
structure BfM (N : Nat) (pre : Nat → List Nat) (src : Nat → Bool) (out : List Int) (pend : List Nat) (q : Nat) (ps : List Nat) : Prop where
  ol : out.length = N
  pt : ∀ i, i < N → gT out i = -1 ∨ ∃ d : Nat, gT out i = (d : Int) ∧ Pt N pre src d i
  sr : ∀ i, i < N → src i = true → gT out i = 0
  qn : q < N
  q0 : 0 ≤ gT out q
  sb : ∀ p, p ∈ ps → p ∈ pre q
  qu : ∀ p, p ∈ pend → p < N ∧ gT out q ≤ gT out p
  le : ∀ c, c < N → gT out c ≤ gT out q + 1
  so : pend.Pairwise (fun p q => gT out p ≤ gT out q)
  dn : ∀ c, c < N → 0 ≤ gT out c → c ≠ q → c ∈ pend ∨ ∀ p, p ∈ pre c → 0 ≤ gT out p ∧ gT out p ≤ gT out c + 1
  dq : ∀ p, p ∈ pre q → p ∈ ps ∨ 0 ≤ gT out p
  bd : ∀ c, c < N → gT out c + (out.count (-1) : Nat) ≤ (N : Int)
def rO (out : List Int) (p : Nat) (n : Int) : List Int := if gT out p < 0 then out.set p n else out
def rQ (out : List Int) (pend : List Nat) (p : Nat) : List Nat := if gT out p < 0 then pend ++ [p] else pend
theorem Bf.pop {out : List Int} {q : Nat} {pend : List Nat} (h : Bf N pre src out (q :: pend)) : BfM N pre src out pend q (pre q) := by
  have hs := List.pairwise_cons.1 h.so
  refine ⟨h.ol, h.pt, h.sr, (h.qu q (by simp)).1, (h.qu q (by simp)).2, fun p hp => hp, fun p hp => ⟨(h.qu p (by simp [hp])).1, hs.1 p hp⟩, fun c hc => h.le c q hc (by simp), hs.2, fun c hc h0 hne => ?_, fun p hp => .inl hp, h.bd⟩
  rcases h.dn c hc h0 with h1 | h1
  · rcases List.mem_cons.1 h1 with e | e
    · exact absurd e hne
    · exact .inl e
  · exact .inr h1
theorem BfM.fin {out : List Int} {q : Nat} {pend : List Nat} (hp : ∀ j, j < N → ∀ i, i ∈ pre j → i < N) (h : BfM N pre src out pend q []) : Bf N pre src out pend := by
  refine ⟨h.ol, h.pt, h.sr, fun p hp => ⟨(h.qu p hp).1, by have := (h.qu p hp).2; have := h.q0; omega⟩, fun c p hc hp => by have := (h.qu p hp).2; have := h.le c hc; omega, h.so, fun c hc h0 => ?_, h.bd⟩
  by_cases e : c = q
  · subst e
    refine .inr fun p hpp => ?_
    rcases h.dq p hpp with h1 | h1
    · simp at h1
    · exact ⟨h1, h.le p (hp _ hc _ hpp)⟩
  · exact h.dn c hc h0 e
theorem BfM.step {out : List Int} {q p : Nat} {pend ps : List Nat} (hp : ∀ j, j < N → ∀ i, i ∈ pre j → i < N) (h : BfM N pre src out pend q (p :: ps)) :
    BfM N pre src (rO out p (gT out q + 1)) (rQ out pend p) q ps ∧ gT (rO out p (gT out q + 1)) q = gT out q ∧ (rO out p (gT out q + 1)).count (-1) + (rQ out pend p).length = out.count (-1) + pend.length := by
  have hpn : p < N := hp q h.qn p (h.sb p (by simp))
  by_cases hc : gT out p < 0
  · have e1 : rO out p (gT out q + 1) = out.set p (gT out q + 1) := if_pos hc
    have e2 : rQ out pend p = pend ++ [p] := if_pos hc
    have hpl : p < out.length := by rw [h.ol]; exact hpn
    have hp1 : gT out p = -1 := by
      rcases h.pt p hpn with h1 | ⟨d, h1, _⟩
      · exact h1
      · omega
    have hq0 := h.q0
    have hpq : p ≠ q := by rintro rfl; omega
    have g : ∀ c, gT (out.set p (gT out q + 1)) c = if p = c then gT out q + 1 else gT out c := fun c => gT_set hpl
    have gq : gT (out.set p (gT out q + 1)) q = gT out q := by rw [g, if_neg hpq]
    have gp : ∀ c, c ∈ pend → gT (out.set p (gT out q + 1)) c = gT out c := fun c hcp => by
      have := h.qu c hcp
      rw [g, if_neg]; rintro rfl; omega
    have ge : ∀ c, 0 ≤ gT out c → gT (out.set p (gT out q + 1)) c = gT out c := fun c hcp => by
      rw [g, if_neg]; rintro rfl; omega
    rw [e1, e2]
    refine ⟨⟨by simp [h.ol], fun i hi => ?_, fun i hi hs => ?_, h.qn, by rw [gq]; exact hq0, fun p' hp' => h.sb p' (by simp [hp']), fun c hcp => ?_, fun c hcn => ?_, ?_, fun c hcn h0 hne => ?_, fun p' hp' => ?_, fun c hcn => ?_⟩, gq, ?_⟩
    · rw [g]
      by_cases e : p = i
      · subst e; rw [if_pos rfl]
        rcases h.pt q h.qn with h1 | ⟨d, h1, h2⟩
        · omega
        · exact .inr ⟨d + 1, by rw [h1]; simp, .succ h2 (h.sb p (by simp))⟩
      · rw [if_neg e]; exact h.pt i hi
    · have := h.sr i hi hs
      rw [ge i (by omega)]; exact this
    · rw [gq]
      rcases List.mem_append.1 hcp with h1 | h1
      · rw [gp c h1]; exact h.qu c h1
      · simp at h1; subst h1; rw [g, if_pos rfl]; exact ⟨hpn, by omega⟩
    · rw [gq, g]
      split
      · omega
      · exact h.le c hcn
    · rw [List.pairwise_append]
      refine ⟨?_, by simp, fun a ha b hb => ?_⟩
      · refine h.so.imp_of_mem (fun {a b} ha hb h => ?_)
        rw [gp a ha, gp b hb]; exact h
      · simp at hb; subst hb
        rw [gp a ha, g, if_pos rfl]; exact h.le a (h.qu a ha).1
    · by_cases e : p = c
      · exact .inl (by simp [e])
      · have h0' : 0 ≤ gT out c := by rw [g, if_neg e] at h0; exact h0
        rcases h.dn c hcn h0' hne with h1 | h1
        · exact .inl (by simp [h1])
        · refine .inr fun p' hp' => ?_
          obtain ⟨h2, h3⟩ := h1 p' hp'
          rw [ge p' h2, ge c h0']; exact ⟨h2, h3⟩
    · by_cases e : p' = p
      · subst e; right; rw [g, if_pos rfl]; omega
      · rcases h.dq p' hp' with h1 | h1
        · rcases List.mem_cons.1 h1 with h2 | h2
          · exact absurd h2 e
          · exact .inl h2
        · right; rw [ge p' h1]; exact h1
    · have a1 := count_seti (l := out) (i := p) (v := gT out q + 1) (by rw [gT_get hpl, hp1]) (by omega)
      have a2 := h.bd q h.qn
      have a3 := h.bd c hcn
      rw [g]; split <;> omega
    · have := count_seti (l := out) (i := p) (v := gT out q + 1) (by rw [gT_get hpl, hp1]) (by omega)
      simp only [List.length_append, List.length_cons, List.length_nil]; omega
  · have e1 : rO out p (gT out q + 1) = out := if_neg hc
    have e2 : rQ out pend p = pend := if_neg hc
    rw [e1, e2]
    refine ⟨⟨h.ol, h.pt, h.sr, h.qn, h.q0, fun p' hp' => h.sb p' (by simp [hp']), h.qu, h.le, h.so, h.dn, fun p' hp' => ?_, h.bd⟩, rfl, rfl⟩
    rcases h.dq p' hp' with h1 | h1
    · rcases List.mem_cons.1 h1 with h2 | h2
      · subst h2; right; omega
      · exact .inl h2
    · exact .inr h1
theorem Bf.ok {out : List Int} (hp : ∀ j, j < N → ∀ i, i ∈ pre j → i < N) (h : Bf N pre src out []) : TOk N pre src out := by
  have key : ∀ {e i : Nat}, Pt N pre src e i → 0 ≤ gT out i ∧ gT out i ≤ (e : Int) := by
    intro e i hP
    induction hP with
    | zero h1 h2 => rw [h.sr _ h1 h2]; omega
    | succ hj hi ih =>
      have hjn := hj.lt hp
      rcases h.dn _ hjn ih.1 with h1 | h1
      · simp at h1
      · have := h1 _ hi
        omega
  refine ⟨h.ol, fun i hi => ?_, fun i hi => by have := h.bd i hi; omega⟩
  rcases h.pt i hi with h1 | ⟨d, h1, h2⟩
  · exact .inl ⟨h1, fun d hd => by have := key hd; omega⟩
  · exact .inr ⟨d, h1, h2, fun e he => by have := key he; omega⟩
/-- the search begins -/
def iO (N : Nat) (src : Nat → Bool) (i : Nat) : List Int := (List.range N).map fun j => if j < i then (if src j = true then 0 else -1) else 0
def iQ (src : Nat → Bool) (i : Nat) : List Nat := (List.range i).filter src
theorem iO_len {i : Nat} : (iO N src i).length = N := by simp [iO]
theorem iO_get {i j : Nat} (h : j < N) : gT (iO N src i) j = if j < i then (if src j = true then 0 else -1) else 0 := by
  unfold gT iO
  rw [List.getD_eq_getElem?_getD, List.getElem?_map, List.getElem?_range h]; rfl
theorem iQ_succ {i : Nat} : iQ src (i + 1) = iQ src i ++ (if src i = true then [i] else []) := by
  unfold iQ
  rw [List.range_succ, List.filter_append]
  congr 1
  by_cases h : src i = true
  · rw [if_pos h, List.filter_cons_of_pos h]; rfl
  · rw [if_neg h, List.filter_cons_of_neg h]; rfl
theorem iQ_len {i : Nat} : (iQ src i).length ≤ i := by
  unfold iQ; exact Nat.le_trans (List.length_filter_le _ _) (by simp)
theorem Bf.init : Bf N pre src (iO N src N) (iQ src N) := by
  have g : ∀ j, j < N → gT (iO N src N) j = if src j = true then 0 else -1 := fun j hj => by rw [iO_get hj, if_pos hj]
  have mq : ∀ q, q ∈ iQ src N → q < N ∧ gT (iO N src N) q = 0 := fun q hq => by
    unfold iQ at hq
    simp only [List.mem_filter, List.mem_range] at hq
    exact ⟨hq.1, by rw [g q hq.1, if_pos hq.2]⟩
  have le0 : ∀ j, j < N → gT (iO N src N) j ≤ 0 := fun j hj => by rw [g j hj]; split <;> omega
  refine ⟨iO_len, fun i hi => ?_, fun i hi hs => by rw [g i hi, if_pos hs], fun q hq => ⟨(mq q hq).1, by rw [(mq q hq).2]; omega⟩, fun c q hc hq => by have := le0 c hc; rw [(mq q hq).2]; omega, ?_, fun c hc h0 => ?_, fun c hc => by have a1 := le0 c hc; have a2 : (iO N src N).count (-1) ≤ N := Nat.le_trans List.count_le_length (by rw [iO_len]; omega); omega⟩
  · rw [g i hi]
    by_cases e : src i = true
    · rw [if_pos e]; exact .inr ⟨0, rfl, .zero hi e⟩
    · rw [if_neg e]; exact .inl rfl
  · refine List.Pairwise.imp_of_mem (R := fun _ _ => True) (fun {a b} ha hb _ => by rw [(mq a ha).2, (mq b hb).2]; omega) (List.pairwise_of_forall (fun _ _ => trivial))
  · rw [g c hc] at h0
    by_cases e : src c = true
    · exact .inl (by unfold iQ; simp [hc, e])
    · rw [if_neg e] at h0; omega
end
end Go.Taq
