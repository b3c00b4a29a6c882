/- The mathematics, part R: right sites. -/
import Derived.Test.YtpcdibgbijddlaaMB
import Derived.Test.YtpcdibgbijddlaaMR0
set_option linter.unusedVariables false
namespace Go.Taq
open Go

theorem S_ref07_Has {l : List Int} (hm : l.length ≤ maxLen) {n : Int} {post : Bool → Prop} (hp : post (l.contains n)) : V_taquinref07_Has l n post := by
  unfold V_taquinref07_Has
  exact V_any hm (p := fun x => x == n) (by rw [any_beq]; exact hp)
theorem S_ref07_Size {f : ApiFloor} (h : RF f) {post : Int → Prop} (hp : post f.Kind.length) : V_taquinref07_Size f post := by
  unfold V_taquinref07_Size; rw [h.size]; exact hp
theorem S_ref07_Is {f : ApiFloor} (h : RF f) {c : Int} {post : Bool → Prop} (hp : post (isC f c)) : V_taquinref07_Is f c post := by
  unfold V_taquinref07_Is
  refine Jn.mk' (Ite.mk (fun h1 => S_ref07_Size h ?_) (fun h1 => ?_))
  · have : isC f c = decide (c < f.Kind.length) := by simp at h1; simp [isC, h1]
    rw [← this]; exact hp
  · have : isC f c = false := by simp at h1; simp [isC]; omega
    rw [← this]; exact hp
/-- the shelf at a cell, or -1 -/
def shAt (l : List ApiShelf) (c : Int) : Int := fidx (fun x : ApiShelf => x.Cell == c) l
def zAt (l : List ApiZone) (c : Int) : Bool := l.any fun z => z.Cells.contains c
def rbAt (l : List ApiStart) (c : Int) : Bool := l.any fun x => x.Cell == c
def standK (k : Int) : Bool := (k == 1) || (k == 2)
def zonedK (k : Int) : Bool := (k != 0) && (k != 4) && (k != 5)
def nosh (x : ByteArray) : Bool := seq x ByteArray.empty
/-- two classes are apart by some rule of a list -/
def apB (l : List ApiApart) (a b : ByteArray) : Bool := !nosh a && !nosh b && l.any fun x => (seq x.A a && seq x.B b) || (seq x.A b && seq x.B a)
/-- spans one after the other, from a tick on -/
def spansFrom : Int → List ApiSpan → Prop
  | _, [] => True
  | t, x :: r => t ≤ x.From ∧ x.From < x.To ∧ x.To ≤ 20000 ∧ spansFrom x.To r
/-- a cell on which a shelf may stand, and none does -/
def blankB (s : ApiSite) (c : Int) : Bool := standK (kd s.Floor c) && decide (shAt s.Shelves c < 0)
end Go.Taq
