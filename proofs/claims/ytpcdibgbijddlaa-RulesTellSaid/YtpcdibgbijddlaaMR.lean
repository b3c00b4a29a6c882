/- The mathematics, part R: right sites. -/
import Derived.Test.YtpcdibgbijddlaaMB
import Derived.Test.YtpcdibgbijddlaaMR0
set_option linter.unusedVariables false
namespace Go.Taq
open Go

theorem S_ref07_Size {f : ApiFloor} (h : RF f) {post : Int → Prop} (hp : post f.Kind.length) : V_taquinref07_Size f post := by
  unfold V_taquinref07_Size; rw [h.size]; exact hp
theorem S_ref07_Is {f : ApiFloor} (h : RF f) {c : Int} {post : Bool → Prop} (hp : post (isC f c)) : V_taquinref07_Is f c post := by
  unfold V_taquinref07_Is
  refine Jn.mk' (Ite.mk (fun h1 => S_ref07_Size h ?_) (fun h1 => ?_))
  · have : isC f c = decide (c < f.Kind.length) := by simp at h1; simp [isC, h1]
    rw [← this]; exact hp
  · have : isC f c = false := by simp at h1; simp [isC]; omega
    rw [← this]; exact hp
theorem S_ref07_Cell {f : ApiFloor} (h : RF f) {x y z : Int} {post : Int → Prop} (hp : post (cellF f x y z)) : V_taquinref07_Cell f x y z post := by
  unfold V_taquinref07_Cell
  refine Jor6 (Ite.mk (fun h1 => ?_) (fun h1 => ?_))
  · have : cellF f x y z = -1 := by
      unfold cellF
      rw [if_neg]
      simp only [Bool.or_eq_true, decide_eq_true_eq] at h1
      omega
    rw [← this]; exact hp
  · have : 0 ≤ x ∧ x < f.W ∧ 0 ≤ y ∧ y < f.H ∧ 0 ≤ z ∧ z < f.D := by
      simp only [Bool.or_eq_false_iff, decide_eq_false_iff_not] at h1
      omega
    rw [cellF_w h this]; exact hp
theorem S_ref07_At {f : ApiFloor} (h : RF f) {c : Int} (hc : isC f c = true) {post : (Int × Int × Int) → Prop} (hp : post (pX f c, pY f c, pZ f c)) : V_taquinref07_At f c post := by
  unfold V_taquinref07_At
  refine S_ref07_Is h ?_
  rw [hc]
  refine Ite.f rfl ?_
  rw [isC_iff] at hc
  have w := h.W1; have hh := h.H1; have hd := h.D1; have wh := h.wh; have hl := h.len.1
  have e1 : 0 ≤ c / f.W ∧ c / f.W ≤ c := ⟨Int.ediv_nonneg hc.1 (by omega), Int.ediv_le_self _ hc.1⟩
  have e2 : 0 ≤ c / f.W / f.H ∧ c / f.W / f.H ≤ c / f.W := ⟨Int.ediv_nonneg e1.1 (by omega), Int.ediv_le_self _ e1.1⟩
  refine ⟨by omega, by omega, by omega, ?_⟩
  rw [Int.tmod_eq_emod_of_nonneg hc.1, Int.tdiv_eq_ediv_of_nonneg hc.1, w64_eq (x := c / f.W) (by omega) (by omega), Int.tmod_eq_emod_of_nonneg e1.1, Int.tdiv_eq_ediv_of_nonneg e1.1, w64_eq (x := c / f.W / f.H) (by omega) (by omega)]
  exact ⟨by omega, by omega, hp⟩
theorem S_ref07_Beside {f : ApiFloor} (h : RF f) {c d : Int} {post : Int → Prop} (hp : post (nbr f c d)) : V_taquinref07_Beside f c d post := by
  unfold V_taquinref07_Beside
  refine S_ref07_Is h (Ite.mk (fun h1 => ?_) (fun h1 => ?_))
  · simp only [Bool.not_eq_true'] at h1
    rw [nbr, if_pos h1] at hp; exact hp
  · simp only [Bool.not_eq_false'] at h1
    refine S_ref07_At h h1 ?_
    have hb := p_bd h h1
    have w := h.W4; have hh := h.H4; have hd := h.D4
    rw [nbr, if_neg (by simp [h1])] at hp
    simp only [Ite_if, beq_iff_eq]
    repeat' split at hp
    all_goals (repeat' split) <;> first | omega | skip
    all_goals first | (refine S_ref07_Cell h ?_; (try simp only []); rw [w64_eq (by omega) (by omega)]; exact hp) | exact hp

/-- the shelf at a cell, or -1 -/
def shAt (l : List ApiShelf) (c : Int) : Int := fidx (fun x : ApiShelf => x.Cell == c) l
def zAt (l : List ApiZone) (c : Int) : Bool := l.any fun z => z.Cells.contains c
def rbAt (l : List ApiStart) (c : Int) : Bool := l.any fun x => x.Cell == c
def standK (k : Int) : Bool := (k == 1) || (k == 2)
def zonedK (k : Int) : Bool := (k != 0) && (k != 4) && (k != 5)
def nosh (x : ByteArray) : Bool := seq x ByteArray.empty
/-- two classes are apart by some rule of a list -/
def apB (l : List ApiApart) (a b : ByteArray) : Bool := !nosh a && !nosh b && l.any fun x => (seq x.A a && seq x.B b) || (seq x.A b && seq x.B a)
/-- spans one after the other, from a tick on -/
def spansFrom : Int → List ApiSpan → Prop
  | _, [] => True
  | t, x :: r => t ≤ x.From ∧ x.From < x.To ∧ x.To ≤ 20000 ∧ spansFrom x.To r
/-- a cell on which a shelf may stand, and none does -/
def blankB (s : ApiSite) (c : Int) : Bool := standK (kd s.Floor c) && decide (shAt s.Shelves c < 0)
end Go.Taq
