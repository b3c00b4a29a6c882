/- The mathematics, part A: loops, joins and tests over plain data. -/
import Derived.Test.YtghoacejnmgldaaLibX
set_option linter.unusedVariables false
namespace Go.Taq
open Go

theorem w64_eq {x : Int} (h1 : -9223372036854775808 ≤ x) (h2 : x ≤ 9223372036854775807) : w64 x = x := by
  simp only [w64, IntKind.wrap, IntKind.signed, IntKind.bits]
  simp
  omega
theorem idx_nat {α : Type} {xs : List α} {n : Nat} : idx xs (n : Int) = xs[n]? := by simp [idx]
theorem idx_get {α : Type} {xs : List α} {i : Int} (h0 : 0 ≤ i) (h1 : i < xs.length) : idx xs i = some (xs[i.toNat]'(by omega)) := by
  simp only [idx, h0, if_true]
  exact List.getElem?_eq_getElem (by omega)
theorem idx_of {α : Type} {xs : List α} {i : Int} {n : Nat} {x : α} (h : i = (n : Int)) (hx : xs[n]? = some x) : idx xs i = some x := by rw [h, idx_nat]; exact hx
theorem Jn.eq {σ : Type} {A : (σ → Prop) → Prop} {k : σ → Prop} (v : σ) (h : A (fun x => x = v)) (hk : k v) : Jn A k := ⟨fun x => x = v, fun _ e => e ▸ hk, h⟩
theorem Ite.t {b : Bool} {A B : Prop} (h : b = true) (k : A) : Ite b A B := by subst h; simpa using k
theorem Ite.f {b : Bool} {A B : Prop} (h : b = false) (k : B) : Ite b A B := by subst h; simpa using k

theorem Jor2 {a1 a2 : Bool} {k : Bool → Prop} (h : k (a1 || a2)) : Jn (fun J => Ite a1 (J true) (J a2)) k := ⟨k, fun _ h => h, by cases a1 <;> simpa using h⟩
theorem Jand2 {a1 a2 : Bool} {k : Bool → Prop} (h : k (a1 && a2)) : Jn (fun J => Ite a1 (J a2) (J false)) k := ⟨k, fun _ h => h, by cases a1 <;> simpa using h⟩
theorem Jn.or {a : Bool} {A : (Bool → Prop) → Prop} {k : Bool → Prop} (b : Bool) (hA : a = false → A (fun x => x = b)) (hk : k (a || b)) : Jn (fun J => Ite a (J true) (A J)) k :=
  Jn.eq (a || b) (Ite.mk (fun h => by simp [h]) (fun h => by simpa [h] using hA h)) hk
theorem Jn.and {a : Bool} {A : (Bool → Prop) → Prop} {k : Bool → Prop} (b : Bool) (hA : a = true → A (fun x => x = b)) (hk : k (a && b)) : Jn (fun J => Ite a (A J) (J false)) k :=
  Jn.eq (a && b) (Ite.mk (fun h => by simpa [h] using hA h) (fun h => by simp [h])) hk

/-- a loop whose states are known -/
theorem Loop.up {σ : Type} {body : σ → (σ → Prop) → Prop} (n : Nat) (st : Nat → σ) {s0 : σ} (h0 : s0 = st 0) (hs : ∀ i, i < n → body (st i) (fun s => s = st (i + 1))) (he : body (st n) (fun _ => False)) : Loop body s0 := by
  subst h0
  intro X hX
  have key : ∀ k i, i + k = n → X (st i) := by
    intro k
    induction k with
    | zero => intro i hi; have : i = n := by omega
              subst this; exact hX _ _ he (fun _ h => h.elim)
    | succ k ih => intro i hi; exact hX _ _ (hs i (by omega)) (fun s' e => e ▸ ih (i + 1) (by omega))
  exact key n 0 (by omega)

/-- a search -/
theorem Loop.find {α : Type} (xs : List α) (p : α → Bool) {body : Int → (Int → Prop) → Prop} (hs : ∀ (i : Nat) x, i < xs.length → xs[i]? = some x → p x = false → body (i : Int) (fun s => s = ((i + 1 : Nat) : Int)))
    (hh : ∀ (i : Nat) x, i < xs.length → xs[i]? = some x → p x = true → xs.findIdx? p = some i → body (i : Int) (fun _ => False)) (he : (∀ x, x ∈ xs → p x = false) → xs.findIdx? p = none → body (xs.length : Int) (fun _ => False)) : Loop body 0 := by
  cases hf : xs.findIdx? p with
  | none =>
    have hn : ∀ x, x ∈ xs → p x = false := by simpa [List.findIdx?_eq_none_iff] using hf
    refine Loop.up xs.length (fun i => (i : Int)) rfl (fun i hi => ?_) (he hn hf)
    exact hs i _ hi (List.getElem?_eq_getElem hi) (hn _ (List.getElem_mem hi))
  | some m =>
    obtain ⟨hm, hp, hlt⟩ := List.findIdx?_eq_some_iff_getElem.1 hf
    refine Loop.up m (fun i => (i : Int)) rfl (fun i hi => ?_) ?_
    · have := hlt i hi
      exact hs i _ (by omega) (List.getElem?_eq_getElem (by omega)) (by simpa using this)
    · exact hh m _ hm (List.getElem?_eq_getElem hm) hp hf

/-- the place of the first one, or -1 -/
def fidx {α : Type} (p : α → Bool) (xs : List α) : Int := match xs.findIdx? p with | some i => i | none => -1
theorem fidx_any {α : Type} {p : α → Bool} {xs : List α} : decide (fidx p xs ≥ 0) = xs.any p := by
  unfold fidx
  cases hf : xs.findIdx? p with
  | none =>
    have hn : ∀ x, x ∈ xs → p x = false := by simpa [List.findIdx?_eq_none_iff] using hf
    have : xs.any p = false := by rw [List.any_eq_false]; intro x hx; simp [hn x hx]
    simp [this]
  | some m =>
    obtain ⟨hm, hp, _⟩ := List.findIdx?_eq_some_iff_getElem.1 hf
    have : xs.any p = true := List.any_eq_true.2 ⟨_, List.getElem_mem hm, hp⟩
    simp [this]
section
variable {κ α : Type} [DecidableEq κ]
theorem lk_upd : ∀ (xs : List (κ × α)) (k : κ) (y : α) (j : κ), lk (upd xs k y) j = if k = j then some y else lk xs j
  | [], k, y, j => by simp only [upd, lk]
  | p :: r, k, y, j => by
    unfold upd
    by_cases h : p.1 = k
    · rw [if_pos h]
      simp only [lk]
      by_cases h2 : k = j
      · simp [h2]
      · rw [if_neg h2, if_neg h2, if_neg (by rw [h]; exact h2)]
    · rw [if_neg h]
      simp only [lk, lk_upd r k y j]
      by_cases h2 : p.1 = j
      · rw [if_pos h2, if_pos h2, if_neg (fun e => h (h2.trans e.symm))]
      · rw [if_neg h2, if_neg h2]
end

section
variable {κ α : Type} [DecidableEq κ]
/-- how many entries of a map have not been seen -/
def left (xs : List (κ × α)) (seen : List κ) : Nat := (xs.filter fun p => decide (p.1 ∉ seen)).length
end
theorem set_idx {α : Type} {xs : List α} {i : Int} {x : α} (h : idx xs i = some x) : xs.set i.toNat x = xs := by
  unfold idx at h
  split at h
  · apply List.ext_getElem?
    intro j
    rw [List.getElem?_set]
    split
    · rename_i e; subst e
      split
      · exact h.symm
      · rename_i h3; rw [List.getElem?_eq_none (by omega)]
    · rfl
  · cases h
theorem set_app {α : Type} {xs : List α} {x : α} : (xs ++ [x]).set xs.length x = xs ++ [x] := by
  rw [List.set_append_right _ _ (Nat.le_refl _), Nat.sub_self]; rfl
end Go.Taq
