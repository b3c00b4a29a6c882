/- The mathematics, several parts in one text. -/
import Derived.Test.YtghgknhkclpdhaaLibX
/- The mathematics, part A: loops, joins and tests over plain data. -/
set_option linter.unusedVariables false
namespace Go.Taq
open Go

theorem w64_eq {x : Int} (h1 : -9223372036854775808 ≤ x) (h2 : x ≤ 9223372036854775807) : w64 x = x := by
  simp only [w64, IntKind.wrap, IntKind.signed, IntKind.bits]
  simp
  omega
theorem idx_nat {α : Type} {xs : List α} {n : Nat} : idx xs (n : Int) = xs[n]? := by simp [idx]
theorem idx_get {α : Type} {xs : List α} {i : Int} (h0 : 0 ≤ i) (h1 : i < xs.length) : idx xs i = some (xs[i.toNat]'(by omega)) := by
  simp only [idx, h0, if_true]
  exact List.getElem?_eq_getElem (by omega)
theorem idx_of {α : Type} {xs : List α} {i : Int} {n : Nat} {x : α} (h : i = (n : Int)) (hx : xs[n]? = some x) : idx xs i = some x := by rw [h, idx_nat]; exact hx
theorem Jn.eq {σ : Type} {A : (σ → Prop) → Prop} {k : σ → Prop} (v : σ) (h : A (fun x => x = v)) (hk : k v) : Jn A k := ⟨fun x => x = v, fun _ e => e ▸ hk, h⟩
theorem Ite.t {b : Bool} {A B : Prop} (h : b = true) (k : A) : Ite b A B := by subst h; simpa using k
theorem Ite.f {b : Bool} {A B : Prop} (h : b = false) (k : B) : Ite b A B := by subst h; simpa using k

theorem Jor2 {a1 a2 : Bool} {k : Bool → Prop} (h : k (a1 || a2)) : Jn (fun J => Ite a1 (J true) (J a2)) k := ⟨k, fun _ h => h, by cases a1 <;> simpa using h⟩
theorem Jor3 {a1 a2 a3 : Bool} {k : Bool → Prop} (h : k (a1 || a2 || a3)) : Jn (fun J => Ite a1 (J true) (Ite a2 (J true) (J a3))) k := ⟨k, fun _ h => h, by cases a1 <;> cases a2 <;> simpa using h⟩
theorem Jor4 {a1 a2 a3 a4 : Bool} {k : Bool → Prop} (h : k (a1 || a2 || a3 || a4)) : Jn (fun J => Ite a1 (J true) (Ite a2 (J true) (Ite a3 (J true) (J a4)))) k := ⟨k, fun _ h => h, by cases a1 <;> cases a2 <;> cases a3 <;> simpa using h⟩
theorem Jn.or {a : Bool} {A : (Bool → Prop) → Prop} {k : Bool → Prop} (b : Bool) (hA : a = false → A (fun x => x = b)) (hk : k (a || b)) : Jn (fun J => Ite a (J true) (A J)) k :=
  Jn.eq (a || b) (Ite.mk (fun h => by simp [h]) (fun h => by simpa [h] using hA h)) hk
theorem Jn.and {a : Bool} {A : (Bool → Prop) → Prop} {k : Bool → Prop} (b : Bool) (hA : a = true → A (fun x => x = b)) (hk : k (a && b)) : Jn (fun J => Ite a (A J) (J false)) k :=
  Jn.eq (a && b) (Ite.mk (fun h => by simpa [h] using hA h) (fun h => by simp [h])) hk

/-- a loop whose states are known -/
theorem Loop.up {σ : Type} {body : σ → (σ → Prop) → Prop} (n : Nat) (st : Nat → σ) {s0 : σ} (h0 : s0 = st 0) (hs : ∀ i, i < n → body (st i) (fun s => s = st (i + 1))) (he : body (st n) (fun _ => False)) : Loop body s0 := by
  subst h0
  intro X hX
  have key : ∀ k i, i + k = n → X (st i) := by
    intro k
    induction k with
    | zero => intro i hi; have : i = n := by omega
              subst this; exact hX _ _ he (fun _ h => h.elim)
    | succ k ih => intro i hi; exact hX _ _ (hs i (by omega)) (fun s' e => e ▸ ih (i + 1) (by omega))
  exact key n 0 (by omega)

/-- a search -/
theorem Loop.find {α : Type} (xs : List α) (p : α → Bool) {body : Int → (Int → Prop) → Prop} (hs : ∀ (i : Nat) x, i < xs.length → xs[i]? = some x → p x = false → body (i : Int) (fun s => s = ((i + 1 : Nat) : Int)))
    (hh : ∀ (i : Nat) x, i < xs.length → xs[i]? = some x → p x = true → xs.findIdx? p = some i → body (i : Int) (fun _ => False)) (he : (∀ x, x ∈ xs → p x = false) → xs.findIdx? p = none → body (xs.length : Int) (fun _ => False)) : Loop body 0 := by
  cases hf : xs.findIdx? p with
  | none =>
    have hn : ∀ x, x ∈ xs → p x = false := by simpa [List.findIdx?_eq_none_iff] using hf
    refine Loop.up xs.length (fun i => (i : Int)) rfl (fun i hi => ?_) (he hn hf)
    exact hs i _ hi (List.getElem?_eq_getElem hi) (hn _ (List.getElem_mem hi))
  | some m =>
    obtain ⟨hm, hp, hlt⟩ := List.findIdx?_eq_some_iff_getElem.1 hf
    refine Loop.up m (fun i => (i : Int)) rfl (fun i hi => ?_) ?_
    · have := hlt i hi
      exact hs i _ (by omega) (List.getElem?_eq_getElem (by omega)) (by simpa using this)
    · exact hh m _ hm (List.getElem?_eq_getElem hm) hp hf

section
variable {κ α : Type} [DecidableEq κ]
theorem lk_upd : ∀ (xs : List (κ × α)) (k : κ) (y : α) (j : κ), lk (upd xs k y) j = if k = j then some y else lk xs j
  | [], k, y, j => by simp only [upd, lk]
  | p :: r, k, y, j => by
    unfold upd
    by_cases h : p.1 = k
    · rw [if_pos h]
      simp only [lk]
      by_cases h2 : k = j
      · simp [h2]
      · rw [if_neg h2, if_neg h2, if_neg (by rw [h]; exact h2)]
    · rw [if_neg h]
      simp only [lk, lk_upd r k y j]
      by_cases h2 : p.1 = j
      · rw [if_pos h2, if_pos h2, if_neg (fun e => h (h2.trans e.symm))]
      · rw [if_neg h2, if_neg h2]
end

section
variable {κ α : Type} [DecidableEq κ]
/-- how many entries of a map have not been seen -/
def left (xs : List (κ × α)) (seen : List κ) : Nat := (xs.filter fun p => decide (p.1 ∉ seen)).length
end
end Go.Taq

/- The mathematics, part R0: more about loops and joins, and lists. -/
set_option linter.unusedVariables false
namespace Go.Taq
open Go

/-- a loop with a counter -/
theorem Loop.inv {σ : Type} {body : σ → (σ → Prop) → Prop} {s0 : σ} (n : Nat) (I : Nat → σ → Prop) (h0 : I 0 s0) (hs : ∀ i s, i < n → I i s → body s (I (i + 1))) (he : ∀ s, I n s → body s (fun _ => False)) : Loop body s0 := by
  intro X hX
  have key : ∀ k i, i + k = n → ∀ s, I i s → X s := by
    intro k
    induction k with
    | zero => intro i hi s h; have : i = n := by omega
              subst this; exact hX _ _ (he s h) (fun _ h => h.elim)
    | succ k ih => intro i hi s h; exact hX _ _ (hs i s (by omega) h) (fun s' e => ih (i + 1) (by omega) s' e)
  exact key n 0 (by omega) s0 h0

theorem w64_nat {i n : Nat} (h : i < n) (hn : n ≤ maxLen) : w64 ((i : Int) + 1) = ((i + 1 : Nat) : Int) := by
  rw [w64_eq (by omega) (by simp [maxLen] at hn; omega)]; simp
theorem Ite.lt {i n : Int} {A B : Prop} (h : i < n) (k : A) : Ite (decide (i < n)) A B := Ite.t (by simpa using h) k
theorem Ite.nlt {i n : Int} {A B : Prop} (h : ¬ i < n) (k : B) : Ite (decide (i < n)) A B := Ite.f (by simpa using h) k
section
variable {α : Type} {xs : List α} (hm : xs.length ≤ maxLen)
include hm
end
end Go.Taq

/- The mathematics of layouts, part A: binomials and ranks. -/
set_option linter.unusedVariables false
set_option linter.unusedSimpArgs false
namespace Go.Taq
open Go
/-- the binomials -/
def ch : Nat → Nat → Nat
  | _, 0 => 1
  | 0, _ + 1 => 0
  | n + 1, k + 1 => ch n k + ch n (k + 1)
/-- how many have a shelf at once -/
def chm (n : Nat) : Nat → Nat
  | 0 => 0
  | k + 1 => ch n k
theorem ch_zero (n : Nat) : ch n 0 = 1 := by cases n <;> rfl
theorem ch_succ (n k : Nat) : ch (n + 1) k = chm n k + ch n k := by
  cases k with
  | zero => simp [ch_zero, chm]
  | succ k => rfl
theorem ch_lt : ∀ {n k : Nat}, n < k → ch n k = 0
  | 0, k + 1, _ => rfl
  | n + 1, k + 1, h => by
    have h1 := ch_lt (n := n) (k := k) (by omega)
    have h2 := ch_lt (n := n) (k := k + 1) (by omega)
    show ch n k + ch n (k + 1) = 0
    omega
theorem ch_pos : ∀ {n k : Nat}, k ≤ n → 0 < ch n k
  | n, 0, _ => by rw [ch_zero]; omega
  | n + 1, k + 1, h => by
    have h1 := ch_pos (n := n) (k := k) (by omega)
    show 0 < ch n k + ch n (k + 1)
    omega
theorem ch_pow : ∀ (n k : Nat), ch n k ≤ 2 ^ n
  | n, 0 => by rw [ch_zero]; exact Nat.one_le_two_pow
  | 0, k + 1 => by simp [ch]
  | n + 1, k + 1 => by
    have h1 := ch_pow n k
    have h2 := ch_pow n (k + 1)
    show ch n k + ch n (k + 1) ≤ _
    rw [Nat.pow_succ]; omega
theorem ch_mul : ∀ (n i : Nat), ch n (i + 1) * (i + 1) = ch n i * (n - i)
  | 0, 0 => rfl
  | 0, i + 1 => by simp [ch]
  | n + 1, i => by
    by_cases h : i ≤ n
    · have h1 := ch_mul n i
      have e : ch (n + 1) (i + 1) * (i + 1) = ch n i * (n + 1) := by
        show (ch n i + ch n (i + 1)) * (i + 1) = _
        rw [Nat.add_mul, h1, ← Nat.mul_add]; congr 1; omega
      rw [e]
      cases i with
      | zero => simp [ch_zero]
      | succ j =>
        have h2 := ch_mul n j
        show _ = (ch n j + ch n (j + 1)) * _
        have e2 : n + 1 - (j + 1) = n - j := by omega
        rw [e2, Nat.add_mul, ← h2, ← Nat.mul_add]; congr 1; omega
    · have h1 : ch (n + 1) (i + 1) = 0 := ch_lt (by omega)
      have h2 : n + 1 - i = 0 := by omega
      rw [h1, h2]; simp

/-- the rank of a row of cells -/
def rkB : List Bool → Nat
  | [] => 0
  | b :: t => (if b = true then 0 else chm t.length (t.count true)) + rkB t
def unB : Nat → Nat → Nat → List Bool
  | 0, _, _ => []
  | n + 1, k, i => if i < chm n k then true :: unB n (k - 1) i else false :: unB n k (i - chm n k)
theorem unB_len : ∀ (n k i : Nat), (unB n k i).length = n
  | 0, _, _ => rfl
  | n + 1, k, i => by
    unfold unB; split <;> simp [unB_len n]
theorem rkB_lt : ∀ b : List Bool, rkB b < ch b.length (b.count true)
  | [] => by simp [rkB, ch]
  | b :: t => by
    have ih := rkB_lt t
    cases b with
    | true => simp only [rkB, if_true, List.length_cons, List.count_cons, beq_self_eq_true, if_pos]; rw [ch_succ]; simp only [chm]; omega
    | false => simp only [rkB, List.length_cons, List.count_cons]; rw [ch_succ]; simp; omega
theorem unB_ok : ∀ (n k i : Nat), i < ch n k → (unB n k i).count true = k ∧ rkB (unB n k i) = i
  | 0, 0, i, h => by simp [ch] at h; subst h; simp [unB, rkB]
  | 0, k + 1, i, h => by simp [ch] at h
  | n + 1, k, i, h => by
    rw [ch_succ] at h
    unfold unB
    split
    · rename_i h1
      cases k with
      | zero => simp [chm] at h1
      | succ k =>
        obtain ⟨h2, h3⟩ := unB_ok n k i h1
        simp [h2, h3, rkB]
    · obtain ⟨h2, h3⟩ := unB_ok n k (i - chm n k) (by omega)
      simp only [List.count_cons, h2, rkB, h3, unB_len]
      simp; omega
/-- the other cells than the target's -/
def othF (T : Nat) : Nat → List Bool → List Bool
  | _, [] => []
  | i, b :: t => if i = T then othF T (i + 1) t else b :: othF T (i + 1) t
/-- so many other cells -/
def oth (T i m : Nat) : Nat := if i ≤ T then m - 1 else m
def unF (T : Nat) : Nat → Nat → Nat → Nat → List Bool
  | _, 0, _, _ => []
  | i, m + 1, k, r => if i = T then true :: unF T (i + 1) m k r else if r < chm (oth T (i + 1) m) k then true :: unF T (i + 1) m (k - 1) r else false :: unF T (i + 1) m k (r - chm (oth T (i + 1) m) k)
theorem unF_len (T : Nat) : ∀ (m i k r : Nat), (unF T i m k r).length = m
  | 0, _, _, _ => rfl
  | m + 1, i, k, r => by
    unfold unF; split
    · simp [unF_len T m]
    · split <;> simp [unF_len T m]
theorem unF_get (T : Nat) : ∀ (m i k r : Nat), i ≤ T → T < i + m → (unF T i m k r)[T - i]? = some true
  | 0, _, _, _, h1, h2 => by omega
  | m + 1, i, k, r, h1, h2 => by
    unfold unF
    by_cases e : i = T
    · subst e; rw [if_pos rfl]; simp
    · rw [if_neg e]
      have e2 : T - i = (T - (i + 1)) + 1 := by omega
      split
      · rw [e2, List.getElem?_cons_succ]; exact unF_get T m (i + 1) _ _ (by omega) (by omega)
      · rw [e2, List.getElem?_cons_succ]; exact unF_get T m (i + 1) _ _ (by omega) (by omega)
theorem othF_len (T : Nat) : ∀ (full : List Bool) (i : Nat), (i ≤ T → T < i + full.length) → (othF T i full).length = oth T i full.length
  | [], i, h => by
    have : ¬ i ≤ T := fun h' => by have := h h'; simp at this; omega
    simp [othF, oth, this]
  | b :: t, i, h => by
    unfold othF
    simp only [List.length_cons] at h ⊢
    by_cases e : i = T
    · subst e
      rw [if_pos rfl, othF_len i t (i + 1) (fun h' => by omega)]
      rw [oth, oth, if_neg (by omega), if_pos (Nat.le_refl _)]; rfl
    · rw [if_neg e, List.length_cons, othF_len T t (i + 1) (fun h' => by have := h (by omega); omega)]
      unfold oth
      by_cases h1 : i ≤ T
      · have := h h1
        rw [if_pos h1, if_pos (by omega)]; omega
      · rw [if_neg h1, if_neg (by omega)]
theorem othF_count (T : Nat) : ∀ (full : List Bool) (i : Nat), (i ≤ T → full[T - i]? = some true) → (othF T i full).count true = full.count true - (if i ≤ T then 1 else 0)
  | [], i, h => by simp [othF]
  | b :: t, i, h => by
    unfold othF
    by_cases e : i = T
    · subst e
      have hb := h (Nat.le_refl _)
      simp at hb; subst hb
      rw [if_pos rfl, othF_count i t (i + 1) (fun h' => by omega), if_neg (by omega), if_pos (Nat.le_refl _)]
      simp
    · have hh : i + 1 ≤ T → t[T - (i + 1)]? = some true := fun h' => by
        have := h (by omega)
        have e2 : T - i = (T - (i + 1)) + 1 := by omega
        rw [e2, List.getElem?_cons_succ] at this; exact this
      have ih := othF_count T t (i + 1) hh
      rw [if_neg e, List.count_cons, ih, List.count_cons]
      by_cases h1 : i ≤ T
      · have h3 : i + 1 ≤ T := by omega
        rw [if_pos h1, if_pos h3]
        have : 0 < t.count true := List.count_pos_iff.2 (List.mem_of_getElem? (hh h3))
        omega
      · rw [if_neg h1, if_neg (by omega)]; simp
theorem othF_unF (T : Nat) : ∀ (m i k r : Nat), (i ≤ T → T < i + m) → othF T i (unF T i m k r) = unB (oth T i m) k r
  | 0, i, k, r, h => by
    have : ¬ i ≤ T := fun h' => by have := h h'; omega
    simp [unF, othF, oth, this, unB]
  | m + 1, i, k, r, h => by
    unfold unF
    by_cases e : i = T
    · subst e
      rw [if_pos rfl]
      simp only [othF, if_true]
      rw [othF_unF i m (i + 1) k r (fun h' => by omega)]
      rw [oth, oth, if_neg (by omega), if_pos (Nat.le_refl _)]; rfl
    · have e1 : oth T i (m + 1) = oth T (i + 1) m + 1 := by
        unfold oth
        by_cases h1 : i ≤ T
        · have := h h1
          rw [if_pos h1, if_pos (by omega)]; omega
        · rw [if_neg h1, if_neg (by omega)]
      have hh : i + 1 ≤ T → T < i + 1 + m := fun h' => by have := h (by omega); omega
      rw [if_neg e, e1]
      simp only [unB]
      split
      · simp only [othF, if_neg e]; rw [othF_unF T m (i + 1) _ _ hh]
      · simp only [othF, if_neg e]; rw [othF_unF T m (i + 1) _ _ hh]
theorem unF_othF (T : Nat) : ∀ (full : List Bool) (i : Nat), (i ≤ T → full[T - i]? = some true) → unF T i full.length ((othF T i full).count true) (rkB (othF T i full)) = full
  | [], i, h => rfl
  | b :: t, i, h => by
    by_cases e : i = T
    · subst e
      have hb := h (Nat.le_refl _)
      simp at hb; subst hb
      simp only [List.length_cons, unF, if_true, othF]
      rw [unF_othF i t (i + 1) (fun h' => by omega)]
    · have hh : i + 1 ≤ T → t[T - (i + 1)]? = some true := fun h' => by
        have := h (by omega)
        have e2 : T - i = (T - (i + 1)) + 1 := by omega
        rw [e2, List.getElem?_cons_succ] at this; exact this
      have ih := unF_othF T t (i + 1) hh
      have hl : (othF T (i + 1) t).length = oth T (i + 1) t.length := othF_len T t (i + 1) (fun h' => by
        have := (List.getElem?_eq_some_iff.1 (hh h')).1; omega)
      have hr := rkB_lt (othF T (i + 1) t)
      simp only [List.length_cons, unF, othF, if_neg e]
      rw [hl] at hr
      cases b with
      | true =>
        simp only [List.count_cons, rkB, if_true, beq_self_eq_true, Nat.zero_add]
        rw [if_pos (by simp only [chm]; exact hr)]
        simp only [Nat.add_sub_cancel]; rw [ih]
      | false =>
        have e : List.count true (false :: othF T (i + 1) t) = (othF T (i + 1) t).count true := by simp
        rw [e]
        simp only [rkB, hl]
        rw [if_neg (by simp)]
        simp only [Bool.false_eq_true, if_false, Nat.add_sub_cancel_left]
        rw [ih]

end Go.Taq
