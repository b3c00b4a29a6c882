/- The mathematics, part EK: BatchInTime (chapter 43). -/
import Derived.Test.YtghoacejnmgldaaEJ
set_option linter.unusedVariables false
set_option linter.unusedSimpArgs false
set_option maxRecDepth 100000
set_option maxHeartbeats 1000000
namespace Go.Taq
open Go

section

theorem S_Has43 {a : List Int} (hm : a.length ≤ 1000) {n : Int} {post : Bool → Prop} (hp : post (decide (n ∈ a))) : V_taquinref07_Has a n post := by
  unfold V_taquinref07_Has
  refine V_any (by unfold maxLen; omega) (p := fun x => x == n) ?_
  rw [any_beq]
  have : a.contains n = decide (n ∈ a) := by simp
  rw [this]; exact hp
theorem S_some {o a : List Int} (ha : a.length ≤ 1000) (ho : o.length ≤ 1000) {post : List Int → Prop} (hp : post (o.filter fun x => decide (x ∈ a))) : V_taquinlaw43_some o a post := by
  unfold V_taquinlaw43_some
  refine Jn.mk (fun x => x = o.filter fun x => decide (x ∈ a)) (V_loopc (xs := o) (by unfold maxLen; omega) (fun t : List Int × Int => t.2) (fun i t => t.1 = (o.take i).filter fun x => decide (x ∈ a)) rfl rfl (fun i x t hx ht hI => ?_) (fun t hI => ?_)) (fun x e => by subst e; exact hp)
  · have hl : t.1.length ≤ 1000 := by rw [hI]; exact Nat.le_trans (List.length_filter_le _ _) (by rw [List.length_take]; omega)
    refine S_Has43 ha (Jn.mk (fun y => y = (o.take (i + 1)).filter fun x => decide (x ∈ a)) (Ite.mk (fun h => ⟨by simp; omega, ?_⟩) (fun h => ?_)) (fun y e => ⟨by rw [ht], e⟩))
    · rw [take_snoc hx, List.filter_append, hI]; simp only [List.filter_cons, h, if_true, List.filter_nil]
    · show t.1 = _
      rw [take_snoc hx, List.filter_append, hI]; simp only [List.filter_cons, h, List.filter_nil]; simp
  · rw [hI, List.take_length]
end
end Go.Taq
