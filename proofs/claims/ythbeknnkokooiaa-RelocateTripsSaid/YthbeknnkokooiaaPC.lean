/- The mathematics, several parts in one text. -/
import Derived.Test.YthbeknnkokooiaaMA
import Derived.Test.YthbeknnkokooiaaVc
/- The mathematics, part R0: more about loops and joins, and lists. -/
set_option linter.unusedVariables false
namespace Go.Taq
open Go

/-- a loop with a counter -/
theorem Loop.inv {σ : Type} {body : σ → (σ → Prop) → Prop} {s0 : σ} (n : Nat) (I : Nat → σ → Prop) (h0 : I 0 s0) (hs : ∀ i s, i < n → I i s → body s (I (i + 1))) (he : ∀ s, I n s → body s (fun _ => False)) : Loop body s0 := by
  intro X hX
  have key : ∀ k i, i + k = n → ∀ s, I i s → X s := by
    intro k
    induction k with
    | zero => intro i hi s h; have : i = n := by omega
              subst this; exact hX _ _ (he s h) (fun _ h => h.elim)
    | succ k ih => intro i hi s h; exact hX _ _ (hs i s (by omega) h) (fun s' e => ih (i + 1) (by omega) s' e)
  exact key n 0 (by omega) s0 h0

theorem w64_nat {i n : Nat} (h : i < n) (hn : n ≤ maxLen) : w64 ((i : Int) + 1) = ((i + 1 : Nat) : Int) := by
  rw [w64_eq (by omega) (by simp [maxLen] at hn; omega)]; simp
theorem Ite.lt {i n : Int} {A B : Prop} (h : i < n) (k : A) : Ite (decide (i < n)) A B := Ite.t (by simpa using h) k
theorem Ite.nlt {i n : Int} {A B : Prop} (h : ¬ i < n) (k : B) : Ite (decide (i < n)) A B := Ite.f (by simpa using h) k
section
variable {α : Type} {xs : List α} (hm : xs.length ≤ maxLen)
include hm
end
end Go.Taq

/- The mathematics of layouts, part A: binomials and ranks. -/
set_option linter.unusedVariables false
set_option linter.unusedSimpArgs false
namespace Go.Taq
open Go
/-- the binomials -/
def ch : Nat → Nat → Nat
  | _, 0 => 1
  | 0, _ + 1 => 0
  | n + 1, k + 1 => ch n k + ch n (k + 1)
/-- how many have a shelf at once -/
def chm (n : Nat) : Nat → Nat
  | 0 => 0
  | k + 1 => ch n k
theorem ch_zero (n : Nat) : ch n 0 = 1 := by cases n <;> rfl
theorem ch_succ (n k : Nat) : ch (n + 1) k = chm n k + ch n k := by
  cases k with
  | zero => simp [ch_zero, chm]
  | succ k => rfl
theorem ch_lt : ∀ {n k : Nat}, n < k → ch n k = 0
  | 0, k + 1, _ => rfl
  | n + 1, k + 1, h => by
    have h1 := ch_lt (n := n) (k := k) (by omega)
    have h2 := ch_lt (n := n) (k := k + 1) (by omega)
    show ch n k + ch n (k + 1) = 0
    omega
theorem ch_pos : ∀ {n k : Nat}, k ≤ n → 0 < ch n k
  | n, 0, _ => by rw [ch_zero]; omega
  | n + 1, k + 1, h => by
    have h1 := ch_pos (n := n) (k := k) (by omega)
    show 0 < ch n k + ch n (k + 1)
    omega
theorem ch_pow : ∀ (n k : Nat), ch n k ≤ 2 ^ n
  | n, 0 => by rw [ch_zero]; exact Nat.one_le_two_pow
  | 0, k + 1 => by simp [ch]
  | n + 1, k + 1 => by
    have h1 := ch_pow n k
    have h2 := ch_pow n (k + 1)
    show ch n k + ch n (k + 1) ≤ _
    rw [Nat.pow_succ]; omega
/-- the rank of a row of cells -/
def rkB : List Bool → Nat
  | [] => 0
  | b :: t => (if b = true then 0 else chm t.length (t.count true)) + rkB t
def unB : Nat → Nat → Nat → List Bool
  | 0, _, _ => []
  | n + 1, k, i => if i < chm n k then true :: unB n (k - 1) i else false :: unB n k (i - chm n k)
theorem unB_len : ∀ (n k i : Nat), (unB n k i).length = n
  | 0, _, _ => rfl
  | n + 1, k, i => by
    unfold unB; split <;> simp [unB_len n]
theorem rkB_lt : ∀ b : List Bool, rkB b < ch b.length (b.count true)
  | [] => by simp [rkB, ch]
  | b :: t => by
    have ih := rkB_lt t
    cases b with
    | true => simp only [rkB, if_true, List.length_cons, List.count_cons, beq_self_eq_true, if_pos]; rw [ch_succ]; simp only [chm]; omega
    | false => simp only [rkB, List.length_cons, List.count_cons]; rw [ch_succ]; simp; omega
theorem unB_ok : ∀ (n k i : Nat), i < ch n k → (unB n k i).count true = k ∧ rkB (unB n k i) = i
  | 0, 0, i, h => by simp [ch] at h; subst h; simp [unB, rkB]
  | 0, k + 1, i, h => by simp [ch] at h
  | n + 1, k, i, h => by
    rw [ch_succ] at h
    unfold unB
    split
    · rename_i h1
      cases k with
      | zero => simp [chm] at h1
      | succ k =>
        obtain ⟨h2, h3⟩ := unB_ok n k i h1
        simp [h2, h3, rkB]
    · obtain ⟨h2, h3⟩ := unB_ok n k (i - chm n k) (by omega)
      simp only [List.count_cons, h2, rkB, h3, unB_len]
      simp; omega
/-- the other cells than the target's -/
def othF (T : Nat) : Nat → List Bool → List Bool
  | _, [] => []
  | i, b :: t => if i = T then othF T (i + 1) t else b :: othF T (i + 1) t
/-- so many other cells -/
def oth (T i m : Nat) : Nat := if i ≤ T then m - 1 else m
def unF (T : Nat) : Nat → Nat → Nat → Nat → List Bool
  | _, 0, _, _ => []
  | i, m + 1, k, r => if i = T then true :: unF T (i + 1) m k r else if r < chm (oth T (i + 1) m) k then true :: unF T (i + 1) m (k - 1) r else false :: unF T (i + 1) m k (r - chm (oth T (i + 1) m) k)
theorem unF_len (T : Nat) : ∀ (m i k r : Nat), (unF T i m k r).length = m
  | 0, _, _, _ => rfl
  | m + 1, i, k, r => by
    unfold unF; split
    · simp [unF_len T m]
    · split <;> simp [unF_len T m]
theorem unF_get (T : Nat) : ∀ (m i k r : Nat), i ≤ T → T < i + m → (unF T i m k r)[T - i]? = some true
  | 0, _, _, _, h1, h2 => by omega
  | m + 1, i, k, r, h1, h2 => by
    unfold unF
    by_cases e : i = T
    · subst e; rw [if_pos rfl]; simp
    · rw [if_neg e]
      have e2 : T - i = (T - (i + 1)) + 1 := by omega
      split
      · rw [e2, List.getElem?_cons_succ]; exact unF_get T m (i + 1) _ _ (by omega) (by omega)
      · rw [e2, List.getElem?_cons_succ]; exact unF_get T m (i + 1) _ _ (by omega) (by omega)
theorem othF_len (T : Nat) : ∀ (full : List Bool) (i : Nat), (i ≤ T → T < i + full.length) → (othF T i full).length = oth T i full.length
  | [], i, h => by
    have : ¬ i ≤ T := fun h' => by have := h h'; simp at this; omega
    simp [othF, oth, this]
  | b :: t, i, h => by
    unfold othF
    simp only [List.length_cons] at h ⊢
    by_cases e : i = T
    · subst e
      rw [if_pos rfl, othF_len i t (i + 1) (fun h' => by omega)]
      rw [oth, oth, if_neg (by omega), if_pos (Nat.le_refl _)]; rfl
    · rw [if_neg e, List.length_cons, othF_len T t (i + 1) (fun h' => by have := h (by omega); omega)]
      unfold oth
      by_cases h1 : i ≤ T
      · have := h h1
        rw [if_pos h1, if_pos (by omega)]; omega
      · rw [if_neg h1, if_neg (by omega)]
theorem othF_count (T : Nat) : ∀ (full : List Bool) (i : Nat), (i ≤ T → full[T - i]? = some true) → (othF T i full).count true = full.count true - (if i ≤ T then 1 else 0)
  | [], i, h => by simp [othF]
  | b :: t, i, h => by
    unfold othF
    by_cases e : i = T
    · subst e
      have hb := h (Nat.le_refl _)
      simp at hb; subst hb
      rw [if_pos rfl, othF_count i t (i + 1) (fun h' => by omega), if_neg (by omega), if_pos (Nat.le_refl _)]
      simp
    · have hh : i + 1 ≤ T → t[T - (i + 1)]? = some true := fun h' => by
        have := h (by omega)
        have e2 : T - i = (T - (i + 1)) + 1 := by omega
        rw [e2, List.getElem?_cons_succ] at this; exact this
      have ih := othF_count T t (i + 1) hh
      rw [if_neg e, List.count_cons, ih, List.count_cons]
      by_cases h1 : i ≤ T
      · have h3 : i + 1 ≤ T := by omega
        rw [if_pos h1, if_pos h3]
        have : 0 < t.count true := List.count_pos_iff.2 (List.mem_of_getElem? (hh h3))
        omega
      · rw [if_neg h1, if_neg (by omega)]; simp
theorem othF_unF (T : Nat) : ∀ (m i k r : Nat), (i ≤ T → T < i + m) → othF T i (unF T i m k r) = unB (oth T i m) k r
  | 0, i, k, r, h => by
    have : ¬ i ≤ T := fun h' => by have := h h'; omega
    simp [unF, othF, oth, this, unB]
  | m + 1, i, k, r, h => by
    unfold unF
    by_cases e : i = T
    · subst e
      rw [if_pos rfl]
      simp only [othF, if_true]
      rw [othF_unF i m (i + 1) k r (fun h' => by omega)]
      rw [oth, oth, if_neg (by omega), if_pos (Nat.le_refl _)]; rfl
    · have e1 : oth T i (m + 1) = oth T (i + 1) m + 1 := by
        unfold oth
        by_cases h1 : i ≤ T
        · have := h h1
          rw [if_pos h1, if_pos (by omega)]; omega
        · rw [if_neg h1, if_neg (by omega)]
      have hh : i + 1 ≤ T → T < i + 1 + m := fun h' => by have := h (by omega); omega
      rw [if_neg e, e1]
      simp only [unB]
      split
      · simp only [othF, if_neg e]; rw [othF_unF T m (i + 1) _ _ hh]
      · simp only [othF, if_neg e]; rw [othF_unF T m (i + 1) _ _ hh]
theorem unF_othF (T : Nat) : ∀ (full : List Bool) (i : Nat), (i ≤ T → full[T - i]? = some true) → unF T i full.length ((othF T i full).count true) (rkB (othF T i full)) = full
  | [], i, h => rfl
  | b :: t, i, h => by
    by_cases e : i = T
    · subst e
      have hb := h (Nat.le_refl _)
      simp at hb; subst hb
      simp only [List.length_cons, unF, if_true, othF]
      rw [unF_othF i t (i + 1) (fun h' => by omega)]
    · have hh : i + 1 ≤ T → t[T - (i + 1)]? = some true := fun h' => by
        have := h (by omega)
        have e2 : T - i = (T - (i + 1)) + 1 := by omega
        rw [e2, List.getElem?_cons_succ] at this; exact this
      have ih := unF_othF T t (i + 1) hh
      have hl : (othF T (i + 1) t).length = oth T (i + 1) t.length := othF_len T t (i + 1) (fun h' => by
        have := (List.getElem?_eq_some_iff.1 (hh h')).1; omega)
      have hr := rkB_lt (othF T (i + 1) t)
      simp only [List.length_cons, unF, othF, if_neg e]
      rw [hl] at hr
      cases b with
      | true =>
        simp only [List.count_cons, rkB, if_true, beq_self_eq_true, Nat.zero_add]
        rw [if_pos (by simp only [chm]; exact hr)]
        simp only [Nat.add_sub_cancel]; rw [ih]
      | false =>
        have e : List.count true (false :: othF T (i + 1) t) = (othF T (i + 1) t).count true := by simp
        rw [e]
        simp only [rkB, hl]
        rw [if_neg (by simp)]
        simp only [Bool.false_eq_true, if_false, Nat.add_sub_cancel_left]
        rw [ih]

end Go.Taq

/- The mathematics of layouts, part B: ranks of layouts. -/
set_option linter.unusedVariables false
set_option linter.unusedSimpArgs false
namespace Go.Taq
open Go
/-- a layout of so many cells and shelves -/
structure LOk (n k : Nat) (l : ApiLayout) : Prop where
  len : l.Full.length = n
  cnt : l.Full.count true = k
  t0 : 0 ≤ l.Target
  get : l.Full[l.Target.toNat]? = some true
def rank (n k : Nat) (l : ApiLayout) : Nat := l.Target.toNat * ch (n - 1) (k - 1) + rkB (othF l.Target.toNat 0 l.Full)
def unrank (n k i : Nat) : ApiLayout := { Full := unF (i / ch (n - 1) (k - 1)) 0 n (k - 1) (i % ch (n - 1) (k - 1)), Target := (i / ch (n - 1) (k - 1) : Nat) }
section
variable {n k : Nat} {l : ApiLayout}
theorem LOk.tlt (h : LOk n k l) : l.Target.toNat < n := by rw [← h.len]; exact (List.getElem?_eq_some_iff.1 h.get).1
theorem LOk.kpos (h : LOk n k l) : 1 ≤ k := by rw [← h.cnt]; exact List.count_pos_iff.2 (List.mem_of_getElem? h.get)
theorem LOk.kle (h : LOk n k l) : k ≤ n := by rw [← h.cnt, ← h.len]; exact List.count_le_length
theorem LOk.oth (h : LOk n k l) : (othF l.Target.toNat 0 l.Full).length = n - 1 ∧ (othF l.Target.toNat 0 l.Full).count true = k - 1 := by
  refine ⟨?_, ?_⟩
  · rw [othF_len _ _ _ (fun _ => by have := h.tlt; rw [h.len]; omega), Go.Taq.oth, if_pos (Nat.zero_le _), h.len]
  · rw [othF_count _ _ _ (fun _ => by simpa using h.get), if_pos (Nat.zero_le _), h.cnt]
theorem LOk.rkB_lt (h : LOk n k l) : rkB (othF l.Target.toNat 0 l.Full) < ch (n - 1) (k - 1) := by
  have := Go.Taq.rkB_lt (othF l.Target.toNat 0 l.Full)
  rwa [h.oth.1, h.oth.2] at this
theorem LOk.rank_lt (h : LOk n k l) : rank n k l < n * ch (n - 1) (k - 1) := by
  have h1 := h.rkB_lt
  have h2 := h.tlt
  have h3 := Nat.mul_le_mul_right (ch (n - 1) (k - 1)) (show l.Target.toNat + 1 ≤ n from h2)
  rw [Nat.add_mul, Nat.one_mul] at h3
  unfold rank; omega
theorem LOk.unrank (h : LOk n k l) : Go.Taq.unrank n k (rank n k l) = l := by
  have h1 := h.rkB_lt
  have hc : 0 < ch (n - 1) (k - 1) := by omega
  have e1 : rank n k l / ch (n - 1) (k - 1) = l.Target.toNat := by
    unfold rank; rw [Nat.add_comm, Nat.add_mul_div_right _ _ hc, Nat.div_eq_of_lt h1]; omega
  have e2 : rank n k l % ch (n - 1) (k - 1) = rkB (othF l.Target.toNat 0 l.Full) := by
    unfold rank; rw [Nat.add_comm, Nat.add_mul_mod_self_right, Nat.mod_eq_of_lt h1]
  unfold Go.Taq.unrank
  rw [e1, e2]
  have := unF_othF l.Target.toNat l.Full 0 (fun _ => by simpa using h.get)
  rw [h.len, h.oth.2] at this
  rw [this]
  have h0 := h.t0
  cases l; simp only [ApiLayout.mk.injEq, true_and] at h0 ⊢; omega
theorem unrank_ok {i : Nat} (h1 : 1 ≤ k) (h2 : k ≤ n) (hi : i < n * ch (n - 1) (k - 1)) : LOk n k (unrank n k i) ∧ rank n k (unrank n k i) = i := by
  have hc : 0 < ch (n - 1) (k - 1) := ch_pos (by omega)
  have hT : i / ch (n - 1) (k - 1) < n := (Nat.div_lt_iff_lt_mul hc).2 hi
  have hr := Nat.mod_lt i hc
  have ho : othF (i / ch (n - 1) (k - 1)) 0 (unF (i / ch (n - 1) (k - 1)) 0 n (k - 1) (i % ch (n - 1) (k - 1))) = unB (n - 1) (k - 1) (i % ch (n - 1) (k - 1)) := by
    rw [othF_unF _ _ _ _ _ (fun _ => by omega), oth, if_pos (Nat.zero_le _)]
  obtain ⟨hb1, hb2⟩ := unB_ok (n - 1) (k - 1) _ hr
  have hg := unF_get (i / ch (n - 1) (k - 1)) n 0 (k - 1) (i % ch (n - 1) (k - 1)) (Nat.zero_le _) (by omega)
  rw [Nat.sub_zero] at hg
  refine ⟨⟨unF_len _ _ _ _ _, ?_, Int.natCast_nonneg _, by show (unF _ _ _ _ _)[Int.toNat ((i / ch (n - 1) (k - 1) : Nat) : Int)]? = _; rw [Int.toNat_natCast]; exact hg⟩, ?_⟩
  · have := othF_count (i / ch (n - 1) (k - 1)) (unF (i / ch (n - 1) (k - 1)) 0 n (k - 1) (i % ch (n - 1) (k - 1))) 0 (fun _ => by simpa using hg)
    rw [ho, hb1, if_pos (Nat.zero_le _)] at this
    have hp : 0 < (unF (i / ch (n - 1) (k - 1)) 0 n (k - 1) (i % ch (n - 1) (k - 1))).count true := List.count_pos_iff.2 (List.mem_of_getElem? hg)
    show List.count true (unF _ _ _ _ _) = k
    omega
  · unfold rank unrank
    simp only [Int.toNat_natCast]
    rw [ho, hb2, Nat.mul_comm]; exact Nat.div_add_mod i _
end
end Go.Taq

/- The mathematics of layouts, part C: what the layer's functions compute. -/
set_option linter.unusedVariables false
set_option linter.unusedSimpArgs false
namespace Go.Taq
open Go
def ChT (c : List Int) : Prop := ∀ n k : Nat, n < 25 → k < 25 → c[n * 25 + k]? = some (ch n k : Int)
def ChI (i : Nat) (c : List Int) : Prop := c.length = 625 ∧ ∀ n k : Nat, n < 25 → k < 25 → c[n * 25 + k]? = some (if n < i then (ch n k : Int) else 0)
def ChJ (i j : Nat) (c : List Int) : Prop := c.length = 625 ∧ ∀ n k : Nat, n < 25 → k < 25 → c[n * 25 + k]? = some (if n < i ∨ n = i ∧ k ≤ j then (ch n k : Int) else 0)
theorem ch_small {n k : Nat} (h : n < 25) : ch n k ≤ 16777216 := by
  have h1 := ch_pow n k
  have h2 : 2 ^ n ≤ 2 ^ 24 := Nat.pow_le_pow_right (by omega) (by omega)
  omega
theorem ix25 (i j : Nat) : (0 + Int.toNat (i : Int) * 25) + Int.toNat (j : Int) * 1 = i * 25 + j := by simp
theorem S_choose {post : List Int → Prop} (hp : ∀ c, ChT c → post c) : V_layout_choose post := by
  unfold V_layout_choose
  refine Jn.mk (fun c => ChT c) (Loop.inv 25 (fun i (s : List Int × Int) => s.2 = (i : Int) ∧ ChI i s.1) ⟨rfl, List.length_replicate, fun n k hn hk => ?_⟩ (fun i s hi hI => ?_) (fun s hI => ?_)) hp
  · rw [if_neg (by omega), List.getElem?_replicate, if_pos (by omega)]
  · obtain ⟨c, q⟩ := s
    obtain ⟨rfl, hl, hc⟩ := hI
    replace hl : c.length = 625 := hl
    refine Ite.lt (by show (i : Int) < 25; omega) (Jn.mk (fun c => ChI (i + 1) c) ⟨⟨by omega, by show (i : Int) < 25; omega⟩, ⟨by omega, by omega⟩, ?_⟩ (fun c h => ⟨by show w64 ((i : Int) + 1) = _; rw [w64_eq (by omega) (by omega)]; simp, h⟩))
    have h00 := hc i 0 hi (by omega)
    refine ⟨_, (by show c[(0 + Int.toNat (i : Int) * 25) + Int.toNat ((0 : Nat) : Int) * 1]? = _; rw [ix25]; exact h00), ?_⟩
    refine Jn.mk (fun c => ChI (i + 1) c) (Loop.inv i (fun j (s : List Int × Int) => s.2 = (j : Int) ∧ ChJ i j s.1) ⟨rfl, ?_⟩ (fun j s hj hI => ?_) (fun s hI => ?_)) (fun c h => h)
    · show ChJ i 0 (c.set ((0 + Int.toNat (i : Int) * 25) + Int.toNat ((0 : Nat) : Int) * 1) 1)
      rw [ix25]
      refine ⟨by simpa using hl, fun n k hn hk => ?_⟩
      rw [List.getElem?_set]
      by_cases e : i * 25 + 0 = n * 25 + k
      · obtain ⟨rfl, rfl⟩ : i = n ∧ k = 0 := by omega
        rw [if_pos e, if_pos (by omega), if_pos (by omega), ch_zero]; rfl
      · rw [if_neg e, hc n k hn hk]
        by_cases h : n < i
        · rw [if_pos h, if_pos (by omega)]
        · rw [if_neg h, if_neg (by omega)]
    · obtain ⟨d, q⟩ := s
      obtain ⟨rfl, hl, hd⟩ := hI
      replace hl : d.length = 625 := hl
      have w1 : w64 ((i : Int) - 1) = ((i - 1 : Nat) : Int) := by rw [w64_eq (by omega) (by omega)]; omega
      have w2 : w64 ((j : Int) + 1) = ((j + 1 : Nat) : Int) := by rw [w64_eq (by omega) (by omega)]; omega
      have a1 := hd (i - 1) j (by omega) (by omega)
      have a2 := hd (i - 1) (j + 1) (by omega) (by omega)
      have a3 := hd i (j + 1) (by omega) (by omega)
      rw [if_pos (by omega)] at a1 a2
      rw [if_neg (by omega)] at a3
      have hs1 : ch (i - 1) j ≤ 16777216 := ch_small (by omega)
      have hs2 : ch (i - 1) (j + 1) ≤ 16777216 := ch_small (by omega)
      refine Ite.lt (by show (j : Int) < i; omega) ?_
      simp only [w1, w2, ix25]
      refine ⟨⟨by omega, by omega⟩, ⟨by omega, by omega⟩, _, a1, ⟨by omega, by omega⟩, ⟨by omega, by omega⟩, _, a2, ⟨by omega, by omega⟩, ⟨by omega, by omega⟩, _, a3, trivial, by simpa using hl, fun n k hn hk => ?_⟩
      rw [w64_eq (by omega) (by omega), List.getElem?_set]
      by_cases e : i * 25 + (j + 1) = n * 25 + k
      · obtain ⟨rfl, rfl⟩ : i = n ∧ k = j + 1 := by omega
        rw [if_pos e, if_pos (by omega), if_pos (by omega)]
        obtain ⟨m, rfl⟩ : ∃ m, i = m + 1 := ⟨i - 1, by omega⟩
        simp only [Nat.add_sub_cancel, ch]; simp
      · rw [if_neg e, hd n k hn hk]
        by_cases h : n < i ∨ n = i ∧ k ≤ j
        · rw [if_pos h, if_pos (by omega)]
        · rw [if_neg h, if_neg (by omega)]
    · obtain ⟨d, q⟩ := s
      obtain ⟨rfl, hl, hd⟩ := hI
      replace hl : d.length = 625 := hl
      refine Ite.nlt (by show ¬ (i : Int) < i; omega) ⟨hl, fun n k hn hk => ?_⟩
      rw [hd n k hn hk]
      by_cases h : n < i ∨ n = i ∧ k ≤ i
      · rw [if_pos h, if_pos (by omega)]
      · rw [if_neg h]
        by_cases h2 : n < i + 1
        · rw [if_pos h2, ch_lt (by omega)]; rfl
        · rw [if_neg h2]
  · obtain ⟨c, q⟩ := s
    obtain ⟨rfl, hl, hc⟩ := hI
    refine Ite.nlt (by show ¬ ((25 : Nat) : Int) < 25; omega) (fun n k hn hk => ?_)
    rw [hc n k hn hk, if_pos hn]

/-- the number of shelves -/
theorem count_take {l : List Bool} {i : Nat} {b : Bool} (h : l[i]? = some b) : (l.take (i + 1)).count true = (l.take i).count true + (if b = true then 1 else 0) := by
  rw [List.take_add_one, h, Option.toList, List.count_append, List.count_singleton]; cases b <;> simp
theorem S_Shelves {l : ApiLayout} (hl : l.Full.length ≤ maxLen) {post : Int → Prop} (hp : post (l.Full.count true : Nat)) : V_layout_Shelves l post := by
  unfold V_layout_Shelves
  have hml : l.Full.length ≤ 9223372036854775807 := by simp [maxLen] at hl; omega
  refine Jn.mk (fun x => x = ((l.Full.count true : Nat) : Int)) (Loop.inv l.Full.length (fun i (s : Int × Int) => s.2 = (i : Int) ∧ s.1 = ((l.Full.take i).count true : Nat)) ⟨rfl, rfl⟩ (fun i s hi hI => ?_) (fun s hI => ?_)) (fun x e => e ▸ hp)
  · obtain ⟨c, q⟩ := s
    obtain ⟨rfl, rfl⟩ := hI
    have hx : l.Full[i]? = some (l.Full[i]'hi) := List.getElem?_eq_getElem hi
    generalize l.Full[i]'hi = b at hx
    have hc := count_take hx
    have hcl : (l.Full.take i).count true ≤ i := Nat.le_trans List.count_le_length (by simp; omega)
    refine Ite.lt (by show (i : Int) < _; omega) ⟨b, idx_of rfl hx, Jn.mk (fun x => x = (((l.Full.take (i + 1)).count true : Nat) : Int)) (Ite.mk (fun h => ?_) (fun h => ?_)) (fun x e => ⟨w64_nat hi hl, e⟩)⟩
    · rw [hc, if_pos h, w64_eq (by omega) (by omega)]; simp
    · rw [hc, if_neg (by simp [h])]; simp
  · obtain ⟨c, q⟩ := s
    obtain ⟨rfl, rfl⟩ := hI
    refine Ite.nlt (by show ¬ (l.Full.length : Int) < _; omega) ?_
    show ((List.count true (l.Full.take l.Full.length) : Nat) : Int) = _
    rw [List.take_length]

section
variable {n k : Nat} (h1 : 1 ≤ k) (h2 : k ≤ n) (h3 : n ≤ 24)
include h1 h2 h3
omit h1 h2 h3 in
theorem ch_le_924 {a b : Nat} (h : a ≤ 24) : ch a b ≤ 16777216 := by
  have h1 := ch_pow a b
  have h2 : 2 ^ a ≤ 2 ^ 24 := Nat.pow_le_pow_right (by omega) h
  omega
omit h1 h2 in
theorem count_le : n * ch (n - 1) (k - 1) ≤ 402653184 := by
  have := ch_le_924 (a := n - 1) (b := k - 1) (by omega)
  have := Nat.mul_le_mul h3 this
  omega
theorem S_Count {post : Int → Prop} (hp : post ((n * ch (n - 1) (k - 1) : Nat) : Int)) : V_layout_Count (n : Int) (k : Int) post := by
  unfold V_layout_Count
  have hc := count_le (k := k) h3
  refine Jn.mk (fun b => b = false) (Ite.f (by simp; omega) (Ite.f (by simp; omega) (Ite.f (by simp; omega) (by simp; omega)))) (fun b e => Ite.f e (S_choose fun c hc => ?_))
  have w1 : w64 ((n : Int) - 1) = ((n - 1 : Nat) : Int) := by rw [w64_eq (by omega) (by omega)]; omega
  have w2 : w64 ((k : Int) - 1) = ((k - 1 : Nat) : Int) := by rw [w64_eq (by omega) (by omega)]; omega
  simp only [w1, w2, ix25]
  refine ⟨⟨by omega, by omega⟩, ⟨by omega, by omega⟩, _, hc (n - 1) (k - 1) (by omega) (by omega), ?_⟩
  rw [w64_eq (by rw [← Int.natCast_mul]; omega) (by rw [← Int.natCast_mul]; omega), ← Int.natCast_mul]; exact hp

theorem S_Rank {l : ApiLayout} (h : LOk n k l) {post : Int → Prop} (hp : post (rank n k l : Nat)) : V_layout_Rank l post := by
  unfold V_layout_Rank
  have hlm : l.Full.length ≤ maxLen := by rw [h.len]; simp [maxLen]; omega
  have hT := h.tlt
  have hTe : l.Target = ((l.Target.toNat : Nat) : Int) := by have := h.t0; omega
  have hrk : ∀ m, m ≤ n * ch (n - 1) (k - 1) → m ≤ 402653184 := fun m hm => Nat.le_trans hm (count_le h3)
  have hrl := h.rank_lt
  refine S_choose fun c hc => S_Shelves hlm ?_
  rw [h.cnt]
  have w1 : w64 ((l.Full.length : Int) - 1) = ((n - 1 : Nat) : Int) := by rw [h.len, w64_eq (by omega) (by omega)]; omega
  have w2 : w64 ((k : Int) - 1) = ((k - 1 : Nat) : Int) := by rw [w64_eq (by omega) (by omega)]; omega
  simp only [w1, w2, ix25]
  refine ⟨⟨by omega, by omega⟩, ⟨by omega, by omega⟩, _, hc (n - 1) (k - 1) (by omega) (by omega), ?_⟩
  generalize hTd : l.Target.toNat = T at *
  have hoth : ∀ i, oth T i (n - i) ≤ n := fun i => by unfold oth; split <;> omega
  have hol : ∀ i, i ≤ n → (othF T i (l.Full.drop i)).length = oth T i (n - i) := fun i hi => by
    rw [othF_len T _ i (fun _ => by rw [List.length_drop, h.len]; omega), List.length_drop, h.len]
  refine Jn.mk (fun x => x = ((rank n k l : Nat) : Int)) (Loop.inv n (fun i (s : Int × Int × Int × Int) => s.2.2.2 = (i : Int) ∧ s.2.1 = (oth T i (n - i) : Nat) ∧ s.2.2.1 = ((othF T i (l.Full.drop i)).count true : Nat) ∧ ∃ m : Nat, s.1 = (m : Int) ∧ m + rkB (othF T i (l.Full.drop i)) = rank n k l) ⟨rfl, ?_, ?_, l.Target.toNat * ch (n - 1) (k - 1), ?_, ?_⟩ (fun i s hi hI => ?_) (fun s hI => ?_)) (fun x e => e ▸ hp)
  · simp [oth]
  · have := h.oth.2; rw [hTd] at this; simp [this]
  · rw [w64_eq, hTe, ← Int.natCast_mul]; simp [hTd]
    all_goals (rw [hTe, ← Int.natCast_mul]; have := hrk _ (Nat.mul_le_mul_right (ch (n - 1) (k - 1)) (Nat.le_of_lt hT)); omega)
  · rw [hTd]; simp [rank, hTd]
  · obtain ⟨rk, lf, nd, q⟩ := s
    obtain ⟨rfl, rfl, rfl, m, rfl, hm⟩ := hI
    have hil : i < l.Full.length := by rw [h.len]; exact hi
    have hx : l.Full[i]? = some (l.Full[i]'hil) := List.getElem?_eq_getElem hil
    have hdr : l.Full.drop i = l.Full[i]'hil :: l.Full.drop (i + 1) := List.drop_eq_getElem_cons hil
    generalize l.Full[i]'hil = b at hx hdr
    have hol1 := hol (i + 1) (by omega)
    have hcl : (othF T (i + 1) (l.Full.drop (i + 1))).count true ≤ oth T (i + 1) (n - (i + 1)) := by rw [← hol1]; exact List.count_le_length
    have hoh := hoth (i + 1)
    refine Ite.lt (by show (i : Int) < _; rw [h.len]; omega) (Jn.mk (fun (s : Int × Int × Int) => s.2.1 = (oth T (i + 1) (n - (i + 1)) : Nat) ∧ s.2.2 = ((othF T (i + 1) (l.Full.drop (i + 1))).count true : Nat) ∧ ∃ m : Nat, s.1 = (m : Int) ∧ m + rkB (othF T (i + 1) (l.Full.drop (i + 1))) = rank n k l) ⟨b, idx_of rfl hx, ?_⟩ (fun s ⟨e1, e2, e3⟩ => ⟨by show w64 ((i : Int) + 1) = _; rw [w64_eq (by omega) (by omega)]; simp, e1, e2, e3⟩))
    rw [hdr] at hm ⊢
    refine Ite.mk (fun e => ?_) (fun e => ?_)
    · have e' : i = T := by have := of_decide_eq_true e; simp at e; omega
      have hof : othF T i (b :: l.Full.drop (i + 1)) = othF T (i + 1) (l.Full.drop (i + 1)) := by simp [othF, e']
      rw [hof] at hm
      refine ⟨?_, ?_, m, rfl, hm⟩
      · show ((oth T i (n - i) : Nat) : Int) = _
        unfold oth; rw [if_pos (by omega), if_neg (by omega)]; congr 1
      · show ((List.count true (othF T i (b :: l.Full.drop (i + 1))) : Nat) : Int) = _
        rw [hof]
    · have e' : i ≠ T := by rintro rfl; simp at e; omega
      have hof : othF T i (b :: l.Full.drop (i + 1)) = b :: othF T (i + 1) (l.Full.drop (i + 1)) := by simp [othF, e']
      have hoi : oth T i (n - i) = oth T (i + 1) (n - (i + 1)) + 1 := by unfold oth; split <;> split <;> omega
      rw [hof] at hm ⊢
      simp only [rkB, hol1] at hm
      have w3 : w64 (((oth T i (n - i) : Nat) : Int) - 1) = (oth T (i + 1) (n - (i + 1)) : Nat) := by rw [hoi, w64_eq (by omega) (by omega)]; omega
      generalize othF T (i + 1) (l.Full.drop (i + 1)) = rest at *
      refine Jn.mk (fun (s : Int × Int) => s.2 = (rest.count true : Nat) ∧ ∃ m : Nat, s.1 = (m : Int) ∧ m + rkB rest = rank n k l) (Ite.mk (fun hb => ?_) (fun hb => ?_)) (fun s ⟨e1, e2⟩ => ⟨w3, e1, e2⟩)
      · have hb' : b = true := hb
        subst hb'
        refine ⟨?_, m, rfl, by simpa using hm⟩
        show w64 (((List.count true (true :: rest) : Nat) : Int) - 1) = _
        rw [List.count_cons_self, w64_eq (by omega) (by omega)]; omega
      · have hb' : b = false := hb
        subst hb'
        have hcf : List.count true (false :: rest) = rest.count true := by simp
        refine Jn.mk (fun (s : Int) => ∃ m : Nat, s = (m : Int) ∧ m + rkB rest = rank n k l) (Ite.mk (fun hz => ?_) (fun hz => ?_)) (fun s e => ⟨by show ((List.count true (false :: rest) : Nat) : Int) = _; rw [hcf], e⟩)
        · have hz' : 0 < rest.count true := by
            have h0 : (0 : Int) < ((List.count true (false :: rest) : Nat) : Int) := of_decide_eq_true hz
            rw [hcf] at h0; omega
          have w4 : w64 (((List.count true (false :: rest) : Nat) : Int) - 1) = ((rest.count true - 1 : Nat) : Int) := by rw [hcf, w64_eq (by omega) (by omega)]; omega
          have hcm : chm (oth T (i + 1) (n - (i + 1))) (rest.count true) = ch (oth T (i + 1) (n - (i + 1))) (rest.count true - 1) := by
            obtain ⟨q, hq⟩ : ∃ q, rest.count true = q + 1 := ⟨_, (Nat.succ_pred_eq_of_pos hz').symm⟩
            rw [hq]; rfl
          simp only [w3, w4, ix25]
          refine ⟨⟨by omega, by omega⟩, ⟨by omega, by omega⟩, _, hc _ _ (by omega) (by omega), m + ch (oth T (i + 1) (n - (i + 1))) (rest.count true - 1), ?_, ?_⟩
          · have := hrk (m + ch (oth T (i + 1) (n - (i + 1))) (rest.count true - 1)) (by simp at hm; omega)
            rw [w64_eq (by omega) (by omega)]; simp
          · simp at hm; omega
        · have hz' : rest.count true = 0 := by
            have h0 : ¬ (0 : Int) < ((List.count true (false :: rest) : Nat) : Int) := of_decide_eq_false hz
            rw [hcf] at h0; omega
          rw [hz'] at hm
          exact ⟨m, rfl, by simpa [chm] using hm⟩
  · obtain ⟨rk, lf, nd, q⟩ := s
    obtain ⟨rfl, rfl, rfl, m, rfl, hm⟩ := hI
    refine Ite.nlt (by show ¬ (n : Int) < _; rw [h.len]; omega) ?_
    rw [List.drop_of_length_le (by rw [h.len]; omega)] at hm
    show (m : Int) = _
    simp [othF, rkB] at hm; omega
end
end Go.Taq
