/- The mathematics, part EA: jobs, the order by due times; ranges that are swapped and rotated (chapter 43). -/
import Derived.Test.YtghoacejnmgldaaVc
import Derived.Test.YtghoacejnmgldaaMR0
set_option linter.unusedVariables false
set_option linter.unusedSimpArgs false
set_option maxRecDepth 100000
namespace Go.Taq
open Go

/-- the job of an index -/
def jb (l : List ApiJob) (i : Int) : ApiJob := l.getD i.toNat default
theorem jb_get {l : List ApiJob} {i : Int} (h0 : 0 ≤ i) (h1 : i < l.length) : idx l i = some (jb l i) := by
  rw [idx_get h0 h1]; unfold jb
  rw [List.getD_eq_getElem?_getD, List.getElem?_eq_getElem (by omega)]; rfl
/-- before another one in the order by due times -/
def bef (l : List ApiJob) (i j : Int) : Prop := (jb l i).Due < (jb l j).Due ∨ (jb l i).Due = (jb l j).Due ∧ i < j
instance (l : List ApiJob) (i j : Int) : Decidable (bef l i j) := by unfold bef; infer_instance
section
variable {l : List ApiJob} {i j k : Int}
theorem bef.trans (h : bef l i j) (g : bef l j k) : bef l i k := by unfold bef at *; omega
theorem bef.irr : ¬ bef l i i := by unfold bef; omega
theorem bef.asymm (h : bef l i j) : ¬ bef l j i := by unfold bef at *; omega
theorem bef.tot (h : i ≠ j) : bef l i j ∨ bef l j i := by unfold bef; omega
theorem bef.le (h : ¬ bef l i j) (hn : i ≠ j) : bef l j i := (bef.tot hn).resolve_left h
theorem bef.due (h : bef l i j) : (jb l i).Due ≤ (jb l j).Due := by unfold bef at h; omega
theorem bef_iff (h : i < j) : (jb l j).Due < (jb l i).Due ↔ bef l j i := by unfold bef; omega
end
/-- how two numbers compare -/
def cmpI (x y : Int) : Int := if x < y then -1 else if y < x then 1 else 0
theorem cmpI_lt {x y : Int} : cmpI x y < 0 ↔ x < y := by unfold cmpI; split <;> (try split) <;> omega
theorem S_cmp {x y : Int} {post : Int → Prop} (hp : post (cmpI x y)) : V_cmp_Compare_int x y post := by
  unfold V_cmp_Compare_int V_cmp_isNaN_int
  refine Ite.f (by simp) (Ite.f (by simp) ?_)
  refine Ite.mk (fun h => ?_) (fun h => Ite.mk (fun h2 => ?_) (fun h2 => ?_))
  · have h : x < y := of_decide_eq_true h
    simpa [cmpI, h] using hp
  · have h : ¬ x < y := of_decide_eq_false h
    have h2 : y < x := of_decide_eq_true h2
    simpa [cmpI, h, h2] using hp
  · have h : ¬ x < y := of_decide_eq_false h
    have h2 : ¬ y < x := of_decide_eq_false h2
    simpa [cmpI, h, h2] using hp
/-- an index of a job -/
def In (l : List ApiJob) (i : Int) : Prop := 0 ≤ i ∧ i < l.length
theorem S_due1 {l : List ApiJob} {a b : Int} (ha : In l a) (hb : In l b) {post : Int → Prop} (hp : post (cmpI (jb l a).Due (jb l b).Due)) : V_batch_Due_1 a b l post := by
  unfold V_batch_Due_1
  exact ⟨_, jb_get ha.1 ha.2, _, jb_get hb.1 hb.2, S_cmp hp⟩
theorem set_mid {α : Type} {L R : List α} {x y : α} {k : Nat} (h : k = L.length) : (L ++ x :: R).set k y = L ++ y :: R := by subst h; simp
theorem get_mid {α : Type} {L R : List α} {x : α} {k : Nat} (h : k = L.length) : (L ++ x :: R)[k]? = some x := by subst h; simp
theorem idx_mid {α : Type} {L R : List α} {x : α} {k : Int} (h : k = L.length) : idx (L ++ x :: R) k = some x := idx_of h (get_mid rfl)
theorem half {i j : Int} (h0 : 0 ≤ i + j) (h1 : i + j ≤ 4294967296) : IntKind.wrap .i64 (shrI .u64 (IntKind.wrap .u64 (w64 (i + j))) 1) = (i + j) / 2 := by
  have e1 : IntKind.wrap .u64 (w64 (i + j)) = i + j := by simp [w64, IntKind.wrap, IntKind.signed, IntKind.bits]; omega
  rw [e1, shrI]
  have e2 : (i + j).fdiv (2 ^ (min (1 : Int).toNat IntKind.u64.bits)) = (i + j) / 2 := by
    rw [Int.fdiv_eq_ediv_of_nonneg _ (by decide)]; rfl
  rw [e2]
  exact w64_eq (by omega) (by omega)
theorem w64_s {x : Int} (h1 : -4294967296 ≤ x) (h2 : x ≤ 4294967296) : w64 x = x := w64_eq (by omega) (by omega)

theorem S_swap {l : List ApiJob} {P A M B S : List Int} (hAB : A.length = B.length) (hs : (P ++ A ++ M ++ B ++ S).length ≤ 1000) {a b n : Int} (ea : a = P.length) (eb : b = (P.length + A.length + M.length : Nat)) (en : n = A.length)
    {post : List Int → Prop} (hp : post (P ++ B ++ M ++ A ++ S)) : V_slices_swapRangeCmpFunc_int__o0_batch_Due_1 a b n l (P ++ A ++ M ++ B ++ S) post := by
  unfold V_slices_swapRangeCmpFunc_int__o0_batch_Due_1
  simp only [List.length_append] at hs
  refine Jn.mk (fun x => x = P ++ B ++ M ++ A ++ S) (Loop.mk (fun s : List Int × Int => ∃ A1 A2 B1 B2, A = A1 ++ A2 ∧ B = B1 ++ B2 ∧ A1.length = B1.length ∧ s = (P ++ (B1 ++ A2) ++ M ++ (A1 ++ B2) ++ S, (A1.length : Int)))
    (fun s => A.length - s.2.toNat) ⟨[], A, [], B, rfl, rfl, rfl, by simp⟩ ?_) (fun x e => by subst e; exact hp)
  rintro s ⟨A1, A2, B1, B2, hA, hB, h12, rfl⟩
  subst hA; subst hB
  simp only [List.length_append] at hAB hs eb en
  refine Ite.mk (fun hlt => ?_) (fun hge => ?_)
  · have hlt : (A1.length : Int) < n := of_decide_eq_true hlt
    rw [en] at hlt
    cases A2 with
    | nil => simp at hlt
    | cons x A2 =>
      cases B2 with
      | nil => simp at hAB h12; omega
      | cons y B2 =>
        have hs' := hs
        simp only [List.length_cons] at hs' hAB eb en
        have ew1 : w64 (b + (A1.length : Int)) = b + A1.length := w64_s (by omega) (by omega)
        have ew2 : w64 (a + (A1.length : Int)) = a + A1.length := w64_s (by omega) (by omega)
        have ew3 : w64 ((A1.length : Int) + 1) = A1.length + 1 := w64_s (by omega) (by omega)
        simp only [ew1, ew2, ew3]
        have e1 : P ++ (B1 ++ x :: A2) ++ M ++ (A1 ++ y :: B2) ++ S = (P ++ (B1 ++ x :: A2) ++ M ++ A1) ++ y :: (B2 ++ S) := by simp
        have e2 : P ++ (B1 ++ x :: A2) ++ M ++ (A1 ++ y :: B2) ++ S = (P ++ B1) ++ x :: (A2 ++ M ++ A1 ++ y :: B2 ++ S) := by simp
        have e3 : ((P ++ B1) ++ x :: (A2 ++ M ++ A1 ++ y :: B2 ++ S)).set (Int.toNat (a + A1.length)) y = (P ++ B1 ++ y :: A2 ++ M ++ A1) ++ y :: (B2 ++ S) := by
          rw [set_mid (by simp; omega)]; simp
        refine ⟨y, by rw [e1]; exact idx_mid (by simp; omega), x, by rw [e2]; exact idx_mid (by simp; omega), y, ?_, ?_⟩
        · rw [e2, e3]; exact idx_mid (by simp; omega)
        · rw [e2, e3, set_mid (by simp; omega)]
          refine ⟨⟨A1 ++ [x], A2, B1 ++ [y], B2, by simp, by simp, by simp [h12], by simp⟩, ?_⟩
          simp only [List.length_append, List.length_cons]; omega
  · have hge : ¬ (A1.length : Int) < n := of_decide_eq_false hge
    rw [en] at hge
    have h2 : A2 = [] := List.length_eq_zero_iff.1 (by omega)
    have h3 : B2 = [] := List.length_eq_zero_iff.1 (by omega)
    subst h2; subst h3; simp
theorem S_rotate {l : List ApiJob} {P A B S : List Int} (hA : A ≠ []) (hB : B ≠ []) (hs : (P ++ A ++ B ++ S).length ≤ 1000) {a m b : Int} (ea : a = P.length) (em : m = (P.length + A.length : Nat)) (eb : b = (P.length + A.length + B.length : Nat))
    {post : List Int → Prop} (hp : post (P ++ B ++ A ++ S)) : V_slices_rotateCmpFunc_int__o0_batch_Due_1 a m b l (P ++ A ++ B ++ S) post := by
  unfold V_slices_rotateCmpFunc_int__o0_batch_Due_1
  simp only [List.length_append] at hs
  have h1 := List.length_pos_iff.2 hA
  have h2 := List.length_pos_iff.2 hB
  have i1 : w64 (m - a) = (A.length : Int) := by rw [w64_s (by omega) (by omega)]; omega
  have i2 : w64 (b - m) = (B.length : Int) := by rw [w64_s (by omega) (by omega)]; omega
  rw [i1, i2]
  let I : List Int × Int × Int → Prop := fun s => ∃ P1 A1 B1 S1, s = (P1 ++ A1 ++ B1 ++ S1, (A1.length : Int), (B1.length : Int)) ∧ A1 ≠ [] ∧ B1 ≠ [] ∧ P1.length + A1.length = P.length + A.length ∧ P1 ++ B1 ++ A1 ++ S1 = P ++ B ++ A ++ S
  have tot : ∀ {P1 A1 B1 S1 : List Int}, P1 ++ B1 ++ A1 ++ S1 = P ++ B ++ A ++ S → P1.length + B1.length + A1.length + S1.length ≤ 1000 := fun h => by
    have := congrArg List.length h; simp only [List.length_append] at this; omega
  refine Jn.mk (fun x : List Int × Int => ∃ P1 A1 B1 S1, x = (P1 ++ A1 ++ B1 ++ S1, (A1.length : Int)) ∧ A1.length = B1.length ∧ P1.length + A1.length = P.length + A.length ∧ P1 ++ B1 ++ A1 ++ S1 = P ++ B ++ A ++ S)
    (Loop.mk I (fun s => (s.2.1 + s.2.2).toNat) ⟨P, A, B, S, rfl, hA, hB, rfl, rfl⟩ ?_) ?_
  · rintro s ⟨P1, A1, B1, S1, rfl, n1, n2, hl, ht⟩
    have q1 := List.length_pos_iff.2 n1
    have q2 := List.length_pos_iff.2 n2
    have ht' := tot ht
    refine Ite.mk (fun hne => ?_) (fun heq => ?_)
    · have hne : A1.length ≠ B1.length := fun e => by simp [e] at hne
      refine Jn.mk (fun x => I x ∧ (x.2.1 + x.2.2).toNat < A1.length + B1.length) (Ite.mk (fun hlt => ?_) (fun hge => ?_)) (fun x hx => ⟨hx.1, by have h := hx.2; show (x.2.1 + x.2.2).toNat < ((A1.length : Int) + B1.length).toNat; omega⟩)
      · have hlt : (A1.length : Int) > B1.length := of_decide_eq_true hlt
        obtain ⟨X, Y, rfl, hX⟩ : ∃ X Y, A1 = X ++ Y ∧ X.length = B1.length := ⟨A1.take B1.length, A1.drop B1.length, by simp, by simp; omega⟩
        simp only [List.length_append] at hl ht' hlt hne q1
        have ew : w64 (m - ((X ++ Y).length : Int)) = m - (X.length + Y.length) := by rw [List.length_append, w64_s (by omega) (by omega)]; simp
        have ew2 : w64 (((X ++ Y).length : Int) - B1.length) = Y.length := by rw [List.length_append, w64_s (by omega) (by omega)]; omega
        have e1 : P1 ++ (X ++ Y) ++ B1 ++ S1 = P1 ++ X ++ Y ++ B1 ++ S1 := by simp
        show V_slices_swapRangeCmpFunc_int__o0_batch_Due_1 (w64 (m - ((X ++ Y).length : Int))) m (B1.length : Int) l (P1 ++ (X ++ Y) ++ B1 ++ S1) _
        rw [ew, e1]
        refine S_swap hX (by simp only [List.length_append]; omega) (by omega) (by omega) (by omega) ?_
        show (I (P1 ++ B1 ++ Y ++ X ++ S1, w64 (((X ++ Y).length : Int) - B1.length), (B1.length : Int))) ∧ _
        rw [ew2]
        refine ⟨⟨P1 ++ B1, Y, X, S1, by simp [hX], fun e => by subst e; simp at hlt; omega, fun e => by subst e; simp at hX; omega, by simp; omega, by rw [← ht]; simp⟩, ?_⟩
        simp only [List.length_append]; omega
      · have hge : ¬ (A1.length : Int) > B1.length := of_decide_eq_false hge
        obtain ⟨X, Y, rfl, hX⟩ : ∃ X Y, B1 = X ++ Y ∧ Y.length = A1.length := ⟨B1.take (B1.length - A1.length), B1.drop (B1.length - A1.length), by simp, by simp; omega⟩
        simp only [List.length_append] at hl ht' hge hne q2
        have ew : w64 (m - (A1.length : Int)) = m - A1.length := w64_s (by omega) (by omega)
        have ew0 : w64 (m + ((X ++ Y).length : Int)) = m + (X.length + Y.length) := by rw [List.length_append, w64_s (by omega) (by omega)]; simp
        have ew1 : w64 (m + (X.length + Y.length) - (A1.length : Int)) = m + (X.length + Y.length) - A1.length := w64_s (by omega) (by omega)
        have ew2 : w64 (((X ++ Y).length : Int) - A1.length) = X.length := by rw [List.length_append, w64_s (by omega) (by omega)]; omega
        have e1 : P1 ++ A1 ++ (X ++ Y) ++ S1 = P1 ++ A1 ++ X ++ Y ++ S1 := by simp
        show V_slices_swapRangeCmpFunc_int__o0_batch_Due_1 (w64 (m - (A1.length : Int))) (w64 ((w64 (m + ((X ++ Y).length : Int))) - (A1.length : Int))) (A1.length : Int) l (P1 ++ A1 ++ (X ++ Y) ++ S1) _
        rw [ew, ew0, ew1, e1]
        refine S_swap hX.symm (by simp only [List.length_append]; omega) (by omega) (by omega) rfl ?_
        show (I (P1 ++ Y ++ X ++ A1 ++ S1, (A1.length : Int), w64 (((X ++ Y).length : Int) - A1.length))) ∧ _
        rw [ew2]
        refine ⟨⟨P1, Y, X, A1 ++ S1, by simp [hX], fun e => by subst e; simp at hX; omega, fun e => by subst e; simp at hne; omega, by omega, by rw [← ht]; simp⟩, ?_⟩
        simp only [List.length_append]; omega
    · have heq' : (A1.length : Int) = B1.length := by simpa using heq
      have heq : A1.length = B1.length := by omega
      exact ⟨P1, A1, B1, S1, rfl, heq, hl, ht⟩
  · rintro x ⟨P1, A1, B1, S1, rfl, he, hl, ht⟩
    have ht' := tot ht
    have ew : w64 (m - (A1.length : Int)) = m - A1.length := w64_s (by omega) (by omega)
    show V_slices_swapRangeCmpFunc_int__o0_batch_Due_1 (w64 (m - (A1.length : Int))) m (A1.length : Int) l (P1 ++ A1 ++ B1 ++ S1) _
    rw [ew]
    have e1 : P1 ++ A1 ++ B1 ++ S1 = P1 ++ A1 ++ [] ++ B1 ++ S1 := by simp
    rw [e1]
    refine S_swap he (by simp only [List.length_append, List.length_nil]; omega) (by omega) (by simp; omega) rfl ?_
    have e2 : P1 ++ B1 ++ [] ++ A1 ++ S1 = P ++ B ++ A ++ S := by rw [← ht]; simp
    rw [e2]; exact hp
end Go.Taq
