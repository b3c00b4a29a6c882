/- The mathematics, part EB: the stable sort by due times (chapter 43). -/
import Derived.Test.YtghoacejnmgldaaEA
set_option linter.unusedVariables false
set_option linter.unusedSimpArgs false
set_option maxRecDepth 100000
set_option maxHeartbeats 1000000
namespace Go.Taq
open Go

/-- sorted by due times, equal ones by their indexes -/
def Srt (l : List ApiJob) (xs : List Int) : Prop := xs.Pairwise (bef l)
section
variable {l : List ApiJob}
theorem Srt.app {A B : List Int} (hA : Srt l A) (hB : Srt l B) (h : ∀ x, x ∈ A → ∀ y, y ∈ B → bef l x y) : Srt l (A ++ B) := List.pairwise_append.2 ⟨hA, hB, h⟩
theorem Srt.left {A B : List Int} (h : Srt l (A ++ B)) : Srt l A := (List.pairwise_append.1 h).1
theorem Srt.right {A B : List Int} (h : Srt l (A ++ B)) : Srt l B := (List.pairwise_append.1 h).2.1
theorem Srt.mid {A B : List Int} (h : Srt l (A ++ B)) : ∀ x, x ∈ A → ∀ y, y ∈ B → bef l x y := (List.pairwise_append.1 h).2.2
theorem S_insertion {P C U S : List Int} (hs : (P ++ (C ++ U) ++ S).length ≤ 1000) (hC : C.length = 1) (hU : (C ++ U).Pairwise (· < ·)) (hin : ∀ x, x ∈ C ++ U → In l x) {a b : Int} (ea : a = P.length) (eb : b = (P.length + (C ++ U).length : Nat))
    {post : List Int → Prop} (hp : ∀ D, D.Perm (C ++ U) → Srt l D → post (P ++ D ++ S)) : V_slices_insertionSortCmpFunc_int__o0_batch_Due_1 a b l (P ++ (C ++ U) ++ S) post := by
  unfold V_slices_insertionSortCmpFunc_int__o0_batch_Due_1
  simp only [List.length_append] at hs eb
  have ew : w64 (a + 1) = a + 1 := w64_s (by omega) (by omega)
  rw [ew]
  refine Jn.mk (fun x => ∃ D, D.Perm (C ++ U) ∧ Srt l D ∧ x = P ++ D ++ S) (Loop.mk
    (fun s : List Int × Int => ∃ D V W, U = V ++ W ∧ D.Perm (C ++ V) ∧ Srt l D ∧ s = (P ++ D ++ W ++ S, ((P.length + D.length : Nat) : Int))) (fun s => (b - s.2).toNat) ⟨C, [], U, rfl, by simp, ?_, by simp <;> omega⟩ ?_) (fun x h => ?_)
  · match C, hC with
    | [c], _ => exact List.pairwise_singleton _ _
  · rintro s ⟨D, V, W, hU2, hD, hsD, rfl⟩
    subst hU2
    simp only [List.length_append] at hs eb
    have hDl : D.length = C.length + V.length := by rw [hD.length_eq]; simp
    refine Ite.mk (fun hlt => ?_) (fun hge => ?_)
    · have hlt : ((P.length + D.length : Nat) : Int) < b := of_decide_eq_true hlt
      cases W with
      | nil => simp at eb; omega
      | cons x W =>
        simp only [List.length_cons] at hs eb
        have hx : In l x := hin x (by simp)
        have hDx : ∀ y, y ∈ D → y < x := fun y hy => by
          have h1 : y ∈ C ++ V := hD.mem_iff.1 hy
          have h2 : ((C ++ V) ++ x :: W).Pairwise (· < ·) := by simpa using hU
          exact (List.pairwise_append.1 h2).2.2 y h1 x (by simp)
        have hDin : ∀ y, y ∈ D → In l y := fun y hy => by
          have h1 : y ∈ C ++ V := hD.mem_iff.1 hy
          refine hin y ?_
          simp only [List.mem_append] at h1 ⊢
          rcases h1 with h1 | h1 <;> simp [h1]
        refine Jn.mk' ?_
        refine Jn.mk (fun y => ∃ D1 D2, D = D1 ++ D2 ∧ Srt l (D1 ++ x :: D2) ∧ y = P ++ (D1 ++ x :: D2) ++ W ++ S) (Loop.mk
          (fun s : List Int × Int => ∃ D1 D2, D = D1 ++ D2 ∧ (∀ y, y ∈ D2 → bef l x y) ∧ s = (P ++ (D1 ++ x :: D2) ++ W ++ S, ((P.length + D1.length : Nat) : Int))) (fun s => s.2.toNat) ⟨D, [], by simp, by simp, by simp⟩ ?_) (fun y h => ?_)
        · rintro s ⟨D1, D2, rfl, hb, rfl⟩
          have hlen : P.length + D1.length + D2.length + W.length + S.length ≤ 999 := by simp at hs hDl; omega
          have stop : Srt l (D1 ++ x :: D2) ↔ ∀ y, y ∈ D1 → bef l y x := by
            constructor
            · exact fun h y hy => h.mid y hy x (by simp)
            · intro h
              refine Srt.app hsD.left (List.pairwise_cons.2 ⟨hb, hsD.right⟩) fun y hy z hz => ?_
              rcases List.mem_cons.1 hz with rfl | hz
              · exact h y hy
              · exact hsD.mid y hy z hz
          refine Jn.mk (fun c => (c = true ↔ ∃ E z, D1 = E ++ [z] ∧ bef l x z)) ?_ ?_
          · rcases List.eq_nil_or_concat D1 with rfl | ⟨E, z, e1⟩
            · refine Ite.f (decide_eq_false (by simp <;> omega)) ?_
              exact ⟨fun h => absurd h (by decide), by rintro ⟨E, z, h, _⟩; simp at h⟩
            · simp only [List.concat_eq_append] at e1
              subst e1
              have hzl : E.length + 1 = (E ++ [z]).length := by simp
              refine Ite.t (decide_eq_true (by simp <;> omega)) ?_
              have ew1 : w64 (((P.length + (E ++ [z]).length : Nat) : Int) - 1) = ((P.length + E.length : Nat) : Int) := by
                simp only [List.length_append, List.length_cons, List.length_nil] at hlen ⊢
                rw [w64_s (by omega) (by omega)]; omega
              have e2 : P ++ ((E ++ [z]) ++ x :: D2) ++ W ++ S = (P ++ E ++ [z]) ++ x :: (D2 ++ W ++ S) := by simp
              have e3 : P ++ ((E ++ [z]) ++ x :: D2) ++ W ++ S = (P ++ E) ++ z :: (x :: D2 ++ W ++ S) := by simp
              have hz : z < x := hDx z (by simp)
              refine ⟨x, ?_, z, ?_, S_due1 hx (hDin z (by simp)) ?_⟩
              · show idx (P ++ ((E ++ [z]) ++ x :: D2) ++ W ++ S) _ = _
                rw [e2]; exact idx_mid (by simp <;> omega)
              · show idx (P ++ ((E ++ [z]) ++ x :: D2) ++ W ++ S) (w64 (((P.length + (E ++ [z]).length : Nat) : Int) - 1)) = _
                rw [ew1, e3]; exact idx_mid (by simp)
              · have : (cmpI (jb l x).Due (jb l z).Due < 0) ↔ ∃ E' z', E ++ [z] = E' ++ [z'] ∧ bef l x z' := by
                  rw [cmpI_lt, bef_iff hz]
                  constructor
                  · exact fun h => ⟨E, z, rfl, h⟩
                  · rintro ⟨E', z', h1, h2⟩
                    have := (List.append_inj' h1 rfl).2
                    simp at this; subst this; exact h2
                exact decide_eq_true_iff.trans this
          · intro c hc
            refine Ite.mk (fun hgo => ?_) (fun hno => ?_)
            · obtain ⟨E, z, e1, hxz⟩ := hc.1 hgo
              subst e1
              have ew1 : w64 (((P.length + (E ++ [z]).length : Nat) : Int) - 1) = ((P.length + E.length : Nat) : Int) := by
                simp only [List.length_append, List.length_cons, List.length_nil] at hlen ⊢
                rw [w64_s (by omega) (by omega)]; omega
              have e2 : P ++ ((E ++ [z]) ++ x :: D2) ++ W ++ S = (P ++ E ++ [z]) ++ x :: (D2 ++ W ++ S) := by simp
              have e3 : P ++ ((E ++ [z]) ++ x :: D2) ++ W ++ S = (P ++ E) ++ z :: (x :: D2 ++ W ++ S) := by simp
              have e4 : ((P ++ E ++ [z]) ++ x :: (D2 ++ W ++ S)).set (Int.toNat ((P.length + (E ++ [z]).length : Nat) : Int)) z = (P ++ E) ++ z :: (z :: D2 ++ W ++ S) := by
                rw [set_mid (by simp <;> omega)]; simp
              simp only [ew1]
              refine ⟨z, by rw [e3]; exact idx_mid (by simp), x, by rw [e2]; exact idx_mid (by simp <;> omega), z, ?_, ?_⟩
              · rw [e2, e4]; exact idx_mid (by simp)
              · rw [e2, e4, set_mid (by simp <;> omega)]
                refine ⟨⟨E, z :: D2, by simp, fun y hy => ?_, by simp⟩, ?_⟩
                · rcases List.mem_cons.1 hy with rfl | hy
                  · exact hxz
                  · exact hb y hy
                · simp <;> omega
            · have hno : ¬ ∃ E z, D1 = E ++ [z] ∧ bef l x z := fun h => by rw [hc.2 h] at hno; cases hno
              refine ⟨D1, D2, rfl, stop.2 fun y hy => ?_, rfl⟩
              rcases List.eq_nil_or_concat D1 with rfl | ⟨E, z, e1⟩
              · cases hy
              · simp only [List.concat_eq_append] at e1
                subst e1
                have hzx : bef l z x := bef.le (fun h => hno ⟨E, z, rfl, h⟩) (by have := hDx z (by simp); omega)
                rcases List.mem_append.1 hy with hy | hy
                · exact ((hsD.left).mid y hy z (by simp)).trans hzx
                · simp at hy; subst hy; exact hzx
        · obtain ⟨D1, D2, e1, h2, rfl⟩ := h
          subst e1
          have ew1 : w64 (((P.length + (D1 ++ D2).length : Nat) : Int) + 1) = ((P.length + (D1 ++ D2).length + 1 : Nat) : Int) := by
            rw [w64_s (by simp at hs hDl ⊢; omega) (by simp at hs hDl ⊢; omega)]; simp
          refine ⟨⟨D1 ++ x :: D2, V ++ [x], W, by simp, ?_, h2, ?_⟩, ?_⟩
          · have : (D1 ++ x :: D2).Perm (x :: (D1 ++ D2)) := List.perm_middle
            refine this.trans ((hD.cons x).trans ?_)
            rw [← List.append_assoc]
            exact (List.perm_append_comm (l₁ := [x]) (l₂ := C ++ V))
          · show (_, w64 (((P.length + (D1 ++ D2).length : Nat) : Int) + 1)) = _
            rw [ew1]; simp; omega
          · show (b - w64 (((P.length + (D1 ++ D2).length : Nat) : Int) + 1)).toNat < (b - ((P.length + (D1 ++ D2).length : Nat) : Int)).toNat
            rw [ew1]; omega
    · have hge : ¬ ((P.length + D.length : Nat) : Int) < b := of_decide_eq_false hge
      have : W = [] := List.length_eq_zero_iff.1 (by omega)
      subst this
      exact ⟨D, by simpa using hD, hsD, by simp⟩
  · obtain ⟨D, h1, h2, rfl⟩ := h
    exact hp D h1 h2
end
end Go.Taq
