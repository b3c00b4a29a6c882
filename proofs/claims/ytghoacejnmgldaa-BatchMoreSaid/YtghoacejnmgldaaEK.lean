/- The mathematics, part EK: BatchInTime (chapter 43). -/
import Derived.Test.YtghoacejnmgldaaEJ
set_option linter.unusedVariables false
set_option linter.unusedSimpArgs false
set_option maxRecDepth 100000
set_option maxHeartbeats 1000000
namespace Go.Taq
open Go

section
variable {l : List ApiJob}
structure IT (l : List ApiJob) (s : Int) (D I : List Int) : Prop where
  asc : I.Pairwise (· < ·)
  mem : AllIn l I
  ok : Lat l s (D.filter fun x => decide (x ∈ I)) 0
  len : (D.filter fun x => decide (x ∈ I)).length = I.length
  max : ∀ S, S.Sublist D → Lat l s S 0 → S.length ≤ I.length
theorem inT_ok (hj : JsOk l) {s : Int} {D : List Int} (hD : DueOf l D) : IT l s D (inT l s D) := by
  have hw : ∀ k, k ∈ D → 0 ≤ (jb l k).Work := fun k hk => by have := (hj.at (hD.mem.1 hk)).w0; omega
  have hm := MI.mh (l := l) (s := s) hD.2 hw
  have hperm : (inT l s D).Perm (mh l s D).1 := List.mergeSort_perm _ _
  have hsort : (inT l s D).Pairwise (· ≤ ·) := by
    have := List.pairwise_mergeSort (le := fun x y : Int => decide (x ≤ y)) (fun a b c h1 h2 => by simp at *; omega) (fun a b => by simp; omega) (mh l s D).1
    exact this.imp (fun h => by simpa using h)
  have hn : (inT l s D).Nodup := hperm.nodup_iff.2 (wb_nodup hm.so)
  have hmem : ∀ x, x ∈ inT l s D → x ∈ D := fun x hx => hm.me x (hperm.mem_iff.1 hx)
  have e : D.filter (fun x => decide (x ∈ inT l s D)) = D.filter (fun x => decide (x ∈ (mh l s D).1)) := List.filter_congr fun x _ => by simp [hperm.mem_iff]
  refine ⟨(hsort.and hn).imp (fun ⟨h1, h2⟩ => by have : _ ≠ _ := h2; omega), fun k hk => hD.mem.1 (hmem k hk), by rw [e]; exact hm.ok, (filt_perm hD.nodup hn hmem).length_eq, fun S hS hL => ?_⟩
  obtain ⟨U, h1, h2, _⟩ := hm.mo S hS hL
  rw [hperm.length_eq, ← h2]; exact h1.length_le
end
end Go.Taq
