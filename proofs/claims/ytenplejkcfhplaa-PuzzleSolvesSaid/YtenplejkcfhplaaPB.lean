/- The mathematics of layouts, part B: ranks of layouts. -/
import Derived.Test.YtenplejkcfhplaaVc
import Derived.Test.YtenplejkcfhplaaPA
set_option linter.unusedVariables false
set_option linter.unusedSimpArgs false
namespace Go.Taq
open Go
/-- a layout of so many cells and shelves -/
structure LOk (n k : Nat) (l : ApiLayout) : Prop where
  len : l.Full.length = n
  cnt : l.Full.count true = k
  t0 : 0 ≤ l.Target
  get : l.Full[l.Target.toNat]? = some true
def rank (n k : Nat) (l : ApiLayout) : Nat := l.Target.toNat * ch (n - 1) (k - 1) + rkB (othF l.Target.toNat 0 l.Full)
def unrank (n k i : Nat) : ApiLayout := { Full := unF (i / ch (n - 1) (k - 1)) 0 n (k - 1) (i % ch (n - 1) (k - 1)), Target := (i / ch (n - 1) (k - 1) : Nat) }
section
variable {n k : Nat} {l : ApiLayout}
theorem LOk.tlt (h : LOk n k l) : l.Target.toNat < n := by rw [← h.len]; exact (List.getElem?_eq_some_iff.1 h.get).1
theorem LOk.kpos (h : LOk n k l) : 1 ≤ k := by rw [← h.cnt]; exact List.count_pos_iff.2 (List.mem_of_getElem? h.get)
theorem LOk.kle (h : LOk n k l) : k ≤ n := by rw [← h.cnt, ← h.len]; exact List.count_le_length
theorem LOk.oth (h : LOk n k l) : (othF l.Target.toNat 0 l.Full).length = n - 1 ∧ (othF l.Target.toNat 0 l.Full).count true = k - 1 := by
  refine ⟨?_, ?_⟩
  · rw [othF_len _ _ _ (fun _ => by have := h.tlt; rw [h.len]; omega), Go.Taq.oth, if_pos (Nat.zero_le _), h.len]
  · rw [othF_count _ _ _ (fun _ => by simpa using h.get), if_pos (Nat.zero_le _), h.cnt]
theorem LOk.rkB_lt (h : LOk n k l) : rkB (othF l.Target.toNat 0 l.Full) < ch (n - 1) (k - 1) := by
  have := Go.Taq.rkB_lt (othF l.Target.toNat 0 l.Full)
  rwa [h.oth.1, h.oth.2] at this
theorem LOk.rank_lt (h : LOk n k l) : rank n k l < n * ch (n - 1) (k - 1) := by
  have h1 := h.rkB_lt
  have h2 := h.tlt
  have h3 := Nat.mul_le_mul_right (ch (n - 1) (k - 1)) (show l.Target.toNat + 1 ≤ n from h2)
  rw [Nat.add_mul, Nat.one_mul] at h3
  unfold rank; omega
theorem LOk.unrank (h : LOk n k l) : Go.Taq.unrank n k (rank n k l) = l := by
  have h1 := h.rkB_lt
  have hc : 0 < ch (n - 1) (k - 1) := by omega
  have e1 : rank n k l / ch (n - 1) (k - 1) = l.Target.toNat := by
    unfold rank; rw [Nat.add_comm, Nat.add_mul_div_right _ _ hc, Nat.div_eq_of_lt h1]; omega
  have e2 : rank n k l % ch (n - 1) (k - 1) = rkB (othF l.Target.toNat 0 l.Full) := by
    unfold rank; rw [Nat.add_comm, Nat.add_mul_mod_self_right, Nat.mod_eq_of_lt h1]
  unfold Go.Taq.unrank
  rw [e1, e2]
  have := unF_othF l.Target.toNat l.Full 0 (fun _ => by simpa using h.get)
  rw [h.len, h.oth.2] at this
  rw [this]
  have h0 := h.t0
  cases l; simp only [ApiLayout.mk.injEq, true_and] at h0 ⊢; omega
theorem unrank_ok {i : Nat} (h1 : 1 ≤ k) (h2 : k ≤ n) (hi : i < n * ch (n - 1) (k - 1)) : LOk n k (unrank n k i) ∧ rank n k (unrank n k i) = i := by
  have hc : 0 < ch (n - 1) (k - 1) := ch_pos (by omega)
  have hT : i / ch (n - 1) (k - 1) < n := (Nat.div_lt_iff_lt_mul hc).2 hi
  have hr := Nat.mod_lt i hc
  have ho : othF (i / ch (n - 1) (k - 1)) 0 (unF (i / ch (n - 1) (k - 1)) 0 n (k - 1) (i % ch (n - 1) (k - 1))) = unB (n - 1) (k - 1) (i % ch (n - 1) (k - 1)) := by
    rw [othF_unF _ _ _ _ _ (fun _ => by omega), oth, if_pos (Nat.zero_le _)]
  obtain ⟨hb1, hb2⟩ := unB_ok (n - 1) (k - 1) _ hr
  have hg := unF_get (i / ch (n - 1) (k - 1)) n 0 (k - 1) (i % ch (n - 1) (k - 1)) (Nat.zero_le _) (by omega)
  rw [Nat.sub_zero] at hg
  refine ⟨⟨unF_len _ _ _ _ _, ?_, Int.natCast_nonneg _, by show (unF _ _ _ _ _)[Int.toNat ((i / ch (n - 1) (k - 1) : Nat) : Int)]? = _; rw [Int.toNat_natCast]; exact hg⟩, ?_⟩
  · have := othF_count (i / ch (n - 1) (k - 1)) (unF (i / ch (n - 1) (k - 1)) 0 n (k - 1) (i % ch (n - 1) (k - 1))) 0 (fun _ => by simpa using hg)
    rw [ho, hb1, if_pos (Nat.zero_le _)] at this
    have hp : 0 < (unF (i / ch (n - 1) (k - 1)) 0 n (k - 1) (i % ch (n - 1) (k - 1))).count true := List.count_pos_iff.2 (List.mem_of_getElem? hg)
    show List.count true (unF _ _ _ _ _) = k
    omega
  · unfold rank unrank
    simp only [Int.toNat_natCast]
    rw [ho, hb2, Nat.mul_comm]; exact Nat.div_add_mod i _
end
end Go.Taq
