/- The mathematics, part EC: the merge in place (chapter 43). -/
import Derived.Test.YtghoacejnmgldaaEB
set_option linter.unusedVariables false
set_option linter.unusedSimpArgs false
set_option maxRecDepth 100000
set_option maxHeartbeats 2000000
namespace Go.Taq
open Go

/-- the search by halves: it ends between a place where p holds and one where it does not -/
theorem V_bisect (p : Int → Prop) {lo hi : Int} (h0 : 0 ≤ lo) (h1 : lo ≤ hi) (h2 : hi ≤ 1000000) {R : Int × Int → (Int × Int → Prop) → Prop} (E : Int → Prop)
    (hR : ∀ i j, lo ≤ i → i < j → j ≤ hi → ∀ Y : Int × Int → Prop, (p ((i + j) / 2) → Y ((i + j) / 2 + 1, j)) → (¬ p ((i + j) / 2) → Y (i, (i + j) / 2)) → R (i, j) Y)
    (hE : ∀ c, lo ≤ c → c ≤ hi → (c = lo ∨ p (c - 1)) → (c = hi ∨ ¬ p c) → E c) : Loop (fun s Y => Ite (decide (s.1 < s.2)) (R s Y) (E s.1)) (lo, hi) := by
  refine Loop.mk (fun s : Int × Int => lo ≤ s.1 ∧ s.1 ≤ s.2 ∧ s.2 ≤ hi ∧ (s.1 = lo ∨ p (s.1 - 1)) ∧ (s.2 = hi ∨ ¬ p s.2)) (fun s => (s.2 - s.1).toNat) ⟨by simp, h1, by simp, .inl rfl, .inl rfl⟩ ?_
  rintro ⟨i, j⟩ ⟨g1, g2, g3, g4, g5⟩
  simp only at g1 g2 g3 g4 g5
  refine Ite.mk (fun hlt => ?_) (fun hge => ?_)
  · have hlt : i < j := of_decide_eq_true hlt
    refine hR i j g1 hlt g3 _ (fun hp => ⟨⟨by simp only; omega, by simp only; omega, g3, .inr (by simpa using hp), g5⟩, by simp only; omega⟩) (fun hp => ⟨⟨g1, by simp only; omega, by simp only; omega, g4, .inr hp⟩, by simp only; omega⟩)
  · have hge : ¬ i < j := of_decide_eq_false hge
    have e : i = j := by omega
    subst e
    exact hE i g1 g3 g4 g5
section
variable {l : List ApiJob}
theorem Srt.before {B : List Int} (h : Srt l B) {k : Nat} {x y : Int} (hy : B[k]? = some y) (hb : bef l y x) : ∀ z, z ∈ B.take (k + 1) → bef l z x := by
  intro z hz
  obtain ⟨i, hi, rfl⟩ := List.mem_iff_getElem.1 hz
  have hk := (List.getElem?_eq_some_iff.1 hy)
  obtain ⟨hk, rfl⟩ := hk
  simp only [List.length_take] at hi
  rw [List.getElem_take]
  rcases Nat.lt_or_ge i k with h1 | h1
  · exact ((List.pairwise_iff_getElem.1 h) i k (by omega) hk h1).trans hb
  · have : i = k := by omega
    subst this; exact hb
theorem Srt.after {B : List Int} (h : Srt l B) {k : Nat} {x y : Int} (hy : B[k]? = some y) (hb : bef l x y) : ∀ z, z ∈ B.drop k → bef l x z := by
  intro z hz
  obtain ⟨i, hi, rfl⟩ := List.mem_iff_getElem.1 hz
  have hk := (List.getElem?_eq_some_iff.1 hy)
  obtain ⟨hk, rfl⟩ := hk
  simp only [List.length_drop] at hi
  rw [List.getElem_drop]
  rcases Nat.eq_zero_or_pos i with h1 | h1
  · subst h1; exact hb
  · exact hb.trans ((List.pairwise_iff_getElem.1 h) k (k + i) hk (by omega) (by omega))
/-- an element goes up -/
theorem S_up {P B1 R : List Int} {x : Int} (hs : (P ++ x :: B1 ++ R).length ≤ 1000) {a c : Int} (ea : a = P.length) (ec : c = (P.length + 1 + B1.length : Nat)) {J : List Int → Prop} (hp : J (P ++ B1 ++ x :: R)) :
    Loop (fun (s34 : List Int × Int) Y35 => Ite (decide (s34.2 < (w64 (c - 1)))) (∃ x41, idx s34.1 (w64 (s34.2 + 1)) = some x41 ∧ ∃ x42, idx s34.1 s34.2 = some x42 ∧ ∃ x43, idx (s34.1.set (Int.toNat s34.2) x41) (w64 (s34.2 + 1)) = some x43 ∧ Y35 (((s34.1.set (Int.toNat s34.2) x41).set (Int.toNat (w64 (s34.2 + 1))) x42), w64 (s34.2 + 1))) (J s34.1)) (P ++ x :: B1 ++ R, a) := by
  simp only [List.length_append, List.length_cons] at hs
  have ew : w64 (c - 1) = c - 1 := w64_s (by omega) (by omega)
  rw [ew]
  refine Loop.mk (fun s : List Int × Int => ∃ D E, B1 = D ++ E ∧ s = (P ++ D ++ x :: E ++ R, ((P.length + D.length : Nat) : Int))) (fun s => (c - s.2).toNat) ⟨[], B1, rfl, by simp [ea]⟩ ?_
  rintro s ⟨D, E, rfl, rfl⟩
  simp only [List.length_append] at hs ec
  refine Ite.mk (fun hlt => ?_) (fun hge => ?_)
  · have hlt : ((P.length + D.length : Nat) : Int) < c - 1 := of_decide_eq_true hlt
    cases E with
    | nil => simp at ec; omega
    | cons y E =>
      simp only [List.length_cons] at hs ec
      have ew : w64 (((P.length + D.length : Nat) : Int) + 1) = ((P.length + D.length + 1 : Nat) : Int) := by rw [w64_s (by omega) (by omega)]; omega
      simp only [ew]
      have e1 : P ++ D ++ x :: (y :: E) ++ R = (P ++ D ++ [x]) ++ y :: (E ++ R) := by simp
      have e2 : P ++ D ++ x :: (y :: E) ++ R = (P ++ D) ++ x :: (y :: E ++ R) := by simp
      have e3 : ((P ++ D) ++ x :: (y :: E ++ R)).set (Int.toNat ((P.length + D.length : Nat) : Int)) y = (P ++ D ++ [y]) ++ y :: (E ++ R) := by
        rw [set_mid (by simp <;> omega)]; simp
      refine ⟨y, by rw [e1]; exact idx_mid (by simp <;> omega), x, by rw [e2]; exact idx_mid (by simp), y, by rw [e2, e3]; exact idx_mid (by simp <;> omega), ?_⟩
      rw [e2, e3, set_mid (by simp <;> omega)]
      exact ⟨⟨D ++ [y], E, by simp, by simp <;> omega⟩, by simp <;> omega⟩
  · have hge : ¬ ((P.length + D.length : Nat) : Int) < c - 1 := of_decide_eq_false hge
    have : E = [] := List.length_eq_zero_iff.1 (by omega)
    subst this
    simpa using hp
/-- an element goes down -/
theorem S_down {P A2 R : List Int} {x : Int} (hs : (P ++ A2 ++ x :: R).length ≤ 1000) {m c : Int} (em : m = (P.length + A2.length : Nat)) (ec : c = P.length) {J : List Int → Prop} (hp : J (P ++ x :: A2 ++ R)) :
    Loop (fun (s79 : List Int × Int) Y80 => Ite (decide (s79.2 > c)) (∃ x86, idx s79.1 (w64 (s79.2 - 1)) = some x86 ∧ ∃ x87, idx s79.1 s79.2 = some x87 ∧ ∃ x88, idx (s79.1.set (Int.toNat s79.2) x86) (w64 (s79.2 - 1)) = some x88 ∧ Y80 (((s79.1.set (Int.toNat s79.2) x86).set (Int.toNat (w64 (s79.2 - 1))) x87), w64 (s79.2 - 1))) (J s79.1)) (P ++ A2 ++ x :: R, m) := by
  simp only [List.length_append, List.length_cons] at hs
  refine Loop.mk (fun s : List Int × Int => ∃ D E, A2 = D ++ E ∧ s = (P ++ D ++ x :: E ++ R, ((P.length + D.length : Nat) : Int))) (fun s => s.2.toNat) ⟨A2, [], by simp, by simp [em]⟩ ?_
  rintro s ⟨D, E, rfl, rfl⟩
  simp only [List.length_append] at hs em
  refine Ite.mk (fun hlt => ?_) (fun hge => ?_)
  · have hlt : ((P.length + D.length : Nat) : Int) > c := of_decide_eq_true hlt
    rcases List.eq_nil_or_concat D with rfl | ⟨D, y, e0⟩
    · simp at hlt; omega
    · simp only [List.concat_eq_append] at e0
      subst e0
      simp only [List.length_append, List.length_cons, List.length_nil] at hs em
      have ew : w64 (((P.length + (D ++ [y]).length : Nat) : Int) - 1) = ((P.length + D.length : Nat) : Int) := by
        simp only [List.length_append, List.length_cons, List.length_nil]; rw [w64_s (by omega) (by omega)]; omega
      simp only [ew]
      have e1 : P ++ (D ++ [y]) ++ x :: E ++ R = (P ++ D) ++ y :: (x :: E ++ R) := by simp
      have e2 : P ++ (D ++ [y]) ++ x :: E ++ R = (P ++ D ++ [y]) ++ x :: (E ++ R) := by simp
      have e3 : ((P ++ D ++ [y]) ++ x :: (E ++ R)).set (Int.toNat ((P.length + (D ++ [y]).length : Nat) : Int)) y = (P ++ D) ++ y :: (y :: E ++ R) := by
        rw [set_mid (by simp <;> omega)]; simp
      refine ⟨y, by rw [e1]; exact idx_mid (by simp), x, by rw [e2]; exact idx_mid (by simp <;> omega), y, by rw [e2, e3]; exact idx_mid (by simp), ?_⟩
      rw [e2, e3, set_mid (by simp <;> omega)]
      exact ⟨⟨D, y :: E, by simp, by simp⟩, by simp <;> omega⟩
  · have hge : ¬ ((P.length + D.length : Nat) : Int) > c := of_decide_eq_false hge
    have : D = [] := List.length_eq_zero_iff.1 (by omega)
    subst this
    simpa using hp
theorem idx_in {A B C : List Int} {i : Int} {x : Int} {k : Nat} (hi : i = (A.length + k : Nat)) (hx : B[k]? = some x) : idx (A ++ B ++ C) i = some x := by
  refine idx_of hi ?_
  have hk := (List.getElem?_eq_some_iff.1 hx).1
  rw [List.append_assoc, List.getElem?_append_right (by omega), Nat.add_sub_cancel_left, List.getElem?_append_left hk]; exact hx
abbrev SymT := (Int × Int × Int × List ApiJob × List Int)
end
end Go.Taq
