/- The mathematics of layouts, part A: binomials and ranks. -/
import Derived.Test.YtenplejkcfhplaaMR0
set_option linter.unusedVariables false
set_option linter.unusedSimpArgs false
namespace Go.Taq
open Go
/-- the binomials -/
def ch : Nat → Nat → Nat
  | _, 0 => 1
  | 0, _ + 1 => 0
  | n + 1, k + 1 => ch n k + ch n (k + 1)
/-- how many have a shelf at once -/
def chm (n : Nat) : Nat → Nat
  | 0 => 0
  | k + 1 => ch n k
theorem ch_zero (n : Nat) : ch n 0 = 1 := by cases n <;> rfl
theorem ch_succ (n k : Nat) : ch (n + 1) k = chm n k + ch n k := by
  cases k with
  | zero => simp [ch_zero, chm]
  | succ k => rfl
theorem ch_lt : ∀ {n k : Nat}, n < k → ch n k = 0
  | 0, k + 1, _ => rfl
  | n + 1, k + 1, h => by
    have h1 := ch_lt (n := n) (k := k) (by omega)
    have h2 := ch_lt (n := n) (k := k + 1) (by omega)
    show ch n k + ch n (k + 1) = 0
    omega
theorem ch_pos : ∀ {n k : Nat}, k ≤ n → 0 < ch n k
  | n, 0, _ => by rw [ch_zero]; omega
  | n + 1, k + 1, h => by
    have h1 := ch_pos (n := n) (k := k) (by omega)
    show 0 < ch n k + ch n (k + 1)
    omega
theorem ch_pow : ∀ (n k : Nat), ch n k ≤ 2 ^ n
  | n, 0 => by rw [ch_zero]; exact Nat.one_le_two_pow
  | 0, k + 1 => by simp [ch]
  | n + 1, k + 1 => by
    have h1 := ch_pow n k
    have h2 := ch_pow n (k + 1)
    show ch n k + ch n (k + 1) ≤ _
    rw [Nat.pow_succ]; omega
/-- the rank of a row of cells -/
def rkB : List Bool → Nat
  | [] => 0
  | b :: t => (if b = true then 0 else chm t.length (t.count true)) + rkB t
def unB : Nat → Nat → Nat → List Bool
  | 0, _, _ => []
  | n + 1, k, i => if i < chm n k then true :: unB n (k - 1) i else false :: unB n k (i - chm n k)
theorem unB_len : ∀ (n k i : Nat), (unB n k i).length = n
  | 0, _, _ => rfl
  | n + 1, k, i => by
    unfold unB; split <;> simp [unB_len n]
theorem rkB_lt : ∀ b : List Bool, rkB b < ch b.length (b.count true)
  | [] => by simp [rkB, ch]
  | b :: t => by
    have ih := rkB_lt t
    cases b with
    | true => simp only [rkB, if_true, List.length_cons, List.count_cons, beq_self_eq_true, if_pos]; rw [ch_succ]; simp only [chm]; omega
    | false => simp only [rkB, List.length_cons, List.count_cons]; rw [ch_succ]; simp; omega
theorem unB_ok : ∀ (n k i : Nat), i < ch n k → (unB n k i).count true = k ∧ rkB (unB n k i) = i
  | 0, 0, i, h => by simp [ch] at h; subst h; simp [unB, rkB]
  | 0, k + 1, i, h => by simp [ch] at h
  | n + 1, k, i, h => by
    rw [ch_succ] at h
    unfold unB
    split
    · rename_i h1
      cases k with
      | zero => simp [chm] at h1
      | succ k =>
        obtain ⟨h2, h3⟩ := unB_ok n k i h1
        simp [h2, h3, rkB]
    · obtain ⟨h2, h3⟩ := unB_ok n k (i - chm n k) (by omega)
      simp only [List.count_cons, h2, rkB, h3, unB_len]
      simp; omega
/-- the other cells than the target's -/
def othF (T : Nat) : Nat → List Bool → List Bool
  | _, [] => []
  | i, b :: t => if i = T then othF T (i + 1) t else b :: othF T (i + 1) t
/-- so many other cells -/
def oth (T i m : Nat) : Nat := if i ≤ T then m - 1 else m
def unF (T : Nat) : Nat → Nat → Nat → Nat → List Bool
  | _, 0, _, _ => []
  | i, m + 1, k, r => if i = T then true :: unF T (i + 1) m k r else if r < chm (oth T (i + 1) m) k then true :: unF T (i + 1) m (k - 1) r else false :: unF T (i + 1) m k (r - chm (oth T (i + 1) m) k)
theorem unF_len (T : Nat) : ∀ (m i k r : Nat), (unF T i m k r).length = m
  | 0, _, _, _ => rfl
  | m + 1, i, k, r => by
    unfold unF; split
    · simp [unF_len T m]
    · split <;> simp [unF_len T m]
theorem unF_get (T : Nat) : ∀ (m i k r : Nat), i ≤ T → T < i + m → (unF T i m k r)[T - i]? = some true
  | 0, _, _, _, h1, h2 => by omega
  | m + 1, i, k, r, h1, h2 => by
    unfold unF
    by_cases e : i = T
    · subst e; rw [if_pos rfl]; simp
    · rw [if_neg e]
      have e2 : T - i = (T - (i + 1)) + 1 := by omega
      split
      · rw [e2, List.getElem?_cons_succ]; exact unF_get T m (i + 1) _ _ (by omega) (by omega)
      · rw [e2, List.getElem?_cons_succ]; exact unF_get T m (i + 1) _ _ (by omega) (by omega)
theorem othF_len (T : Nat) : ∀ (full : List Bool) (i : Nat), (i ≤ T → T < i + full.length) → (othF T i full).length = oth T i full.length
  | [], i, h => by
    have : ¬ i ≤ T := fun h' => by have := h h'; simp at this; omega
    simp [othF, oth, this]
  | b :: t, i, h => by
    unfold othF
    simp only [List.length_cons] at h ⊢
    by_cases e : i = T
    · subst e
      rw [if_pos rfl, othF_len i t (i + 1) (fun h' => by omega)]
      rw [oth, oth, if_neg (by omega), if_pos (Nat.le_refl _)]; rfl
    · rw [if_neg e, List.length_cons, othF_len T t (i + 1) (fun h' => by have := h (by omega); omega)]
      unfold oth
      by_cases h1 : i ≤ T
      · have := h h1
        rw [if_pos h1, if_pos (by omega)]; omega
      · rw [if_neg h1, if_neg (by omega)]
theorem othF_count (T : Nat) : ∀ (full : List Bool) (i : Nat), (i ≤ T → full[T - i]? = some true) → (othF T i full).count true = full.count true - (if i ≤ T then 1 else 0)
  | [], i, h => by simp [othF]
  | b :: t, i, h => by
    unfold othF
    by_cases e : i = T
    · subst e
      have hb := h (Nat.le_refl _)
      simp at hb; subst hb
      rw [if_pos rfl, othF_count i t (i + 1) (fun h' => by omega), if_neg (by omega), if_pos (Nat.le_refl _)]
      simp
    · have hh : i + 1 ≤ T → t[T - (i + 1)]? = some true := fun h' => by
        have := h (by omega)
        have e2 : T - i = (T - (i + 1)) + 1 := by omega
        rw [e2, List.getElem?_cons_succ] at this; exact this
      have ih := othF_count T t (i + 1) hh
      rw [if_neg e, List.count_cons, ih, List.count_cons]
      by_cases h1 : i ≤ T
      · have h3 : i + 1 ≤ T := by omega
        rw [if_pos h1, if_pos h3]
        have : 0 < t.count true := List.count_pos_iff.2 (List.mem_of_getElem? (hh h3))
        omega
      · rw [if_neg h1, if_neg (by omega)]; simp
theorem othF_unF (T : Nat) : ∀ (m i k r : Nat), (i ≤ T → T < i + m) → othF T i (unF T i m k r) = unB (oth T i m) k r
  | 0, i, k, r, h => by
    have : ¬ i ≤ T := fun h' => by have := h h'; omega
    simp [unF, othF, oth, this, unB]
  | m + 1, i, k, r, h => by
    unfold unF
    by_cases e : i = T
    · subst e
      rw [if_pos rfl]
      simp only [othF, if_true]
      rw [othF_unF i m (i + 1) k r (fun h' => by omega)]
      rw [oth, oth, if_neg (by omega), if_pos (Nat.le_refl _)]; rfl
    · have e1 : oth T i (m + 1) = oth T (i + 1) m + 1 := by
        unfold oth
        by_cases h1 : i ≤ T
        · have := h h1
          rw [if_pos h1, if_pos (by omega)]; omega
        · rw [if_neg h1, if_neg (by omega)]
      have hh : i + 1 ≤ T → T < i + 1 + m := fun h' => by have := h (by omega); omega
      rw [if_neg e, e1]
      simp only [unB]
      split
      · simp only [othF, if_neg e]; rw [othF_unF T m (i + 1) _ _ hh]
      · simp only [othF, if_neg e]; rw [othF_unF T m (i + 1) _ _ hh]
theorem unF_othF (T : Nat) : ∀ (full : List Bool) (i : Nat), (i ≤ T → full[T - i]? = some true) → unF T i full.length ((othF T i full).count true) (rkB (othF T i full)) = full
  | [], i, h => rfl
  | b :: t, i, h => by
    by_cases e : i = T
    · subst e
      have hb := h (Nat.le_refl _)
      simp at hb; subst hb
      simp only [List.length_cons, unF, if_true, othF]
      rw [unF_othF i t (i + 1) (fun h' => by omega)]
    · have hh : i + 1 ≤ T → t[T - (i + 1)]? = some true := fun h' => by
        have := h (by omega)
        have e2 : T - i = (T - (i + 1)) + 1 := by omega
        rw [e2, List.getElem?_cons_succ] at this; exact this
      have ih := unF_othF T t (i + 1) hh
      have hl : (othF T (i + 1) t).length = oth T (i + 1) t.length := othF_len T t (i + 1) (fun h' => by
        have := (List.getElem?_eq_some_iff.1 (hh h')).1; omega)
      have hr := rkB_lt (othF T (i + 1) t)
      simp only [List.length_cons, unF, othF, if_neg e]
      rw [hl] at hr
      cases b with
      | true =>
        simp only [List.count_cons, rkB, if_true, beq_self_eq_true, Nat.zero_add]
        rw [if_pos (by simp only [chm]; exact hr)]
        simp only [Nat.add_sub_cancel]; rw [ih]
      | false =>
        have e : List.count true (false :: othF T (i + 1) t) = (othF T (i + 1) t).count true := by simp
        rw [e]
        simp only [rkB, hl]
        rw [if_neg (by simp)]
        simp only [Bool.false_eq_true, if_false, Nat.add_sub_cancel_left]
        rw [ih]

end Go.Taq
