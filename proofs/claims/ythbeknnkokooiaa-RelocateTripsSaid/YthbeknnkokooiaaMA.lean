/- The mathematics, several parts in one text. -/
import Derived.Test.YthbeknnkokooiaaLibX
/- The mathematics, part A: loops, joins and tests over plain data. -/
set_option linter.unusedVariables false
namespace Go.Taq
open Go

theorem w64_eq {x : Int} (h1 : -9223372036854775808 ≤ x) (h2 : x ≤ 9223372036854775807) : w64 x = x := by
  simp only [w64, IntKind.wrap, IntKind.signed, IntKind.bits]
  simp
  omega
theorem idx_nat {α : Type} {xs : List α} {n : Nat} : idx xs (n : Int) = xs[n]? := by simp [idx]
theorem idx_get {α : Type} {xs : List α} {i : Int} (h0 : 0 ≤ i) (h1 : i < xs.length) : idx xs i = some (xs[i.toNat]'(by omega)) := by
  simp only [idx, h0, if_true]
  exact List.getElem?_eq_getElem (by omega)
theorem idx_of {α : Type} {xs : List α} {i : Int} {n : Nat} {x : α} (h : i = (n : Int)) (hx : xs[n]? = some x) : idx xs i = some x := by rw [h, idx_nat]; exact hx
theorem Jn.eq {σ : Type} {A : (σ → Prop) → Prop} {k : σ → Prop} (v : σ) (h : A (fun x => x = v)) (hk : k v) : Jn A k := ⟨fun x => x = v, fun _ e => e ▸ hk, h⟩
theorem Ite.t {b : Bool} {A B : Prop} (h : b = true) (k : A) : Ite b A B := by subst h; simpa using k
theorem Ite.f {b : Bool} {A B : Prop} (h : b = false) (k : B) : Ite b A B := by subst h; simpa using k

theorem Jor2 {a1 a2 : Bool} {k : Bool → Prop} (h : k (a1 || a2)) : Jn (fun J => Ite a1 (J true) (J a2)) k := ⟨k, fun _ h => h, by cases a1 <;> simpa using h⟩
theorem Jor4 {a1 a2 a3 a4 : Bool} {k : Bool → Prop} (h : k (a1 || a2 || a3 || a4)) : Jn (fun J => Ite a1 (J true) (Ite a2 (J true) (Ite a3 (J true) (J a4)))) k := ⟨k, fun _ h => h, by cases a1 <;> cases a2 <;> cases a3 <;> simpa using h⟩
theorem Jn.or {a : Bool} {A : (Bool → Prop) → Prop} {k : Bool → Prop} (b : Bool) (hA : a = false → A (fun x => x = b)) (hk : k (a || b)) : Jn (fun J => Ite a (J true) (A J)) k :=
  Jn.eq (a || b) (Ite.mk (fun h => by simp [h]) (fun h => by simpa [h] using hA h)) hk
theorem Jn.and {a : Bool} {A : (Bool → Prop) → Prop} {k : Bool → Prop} (b : Bool) (hA : a = true → A (fun x => x = b)) (hk : k (a && b)) : Jn (fun J => Ite a (A J) (J false)) k :=
  Jn.eq (a && b) (Ite.mk (fun h => by simpa [h] using hA h) (fun h => by simp [h])) hk

/-- a loop whose states are known -/
theorem Loop.up {σ : Type} {body : σ → (σ → Prop) → Prop} (n : Nat) (st : Nat → σ) {s0 : σ} (h0 : s0 = st 0) (hs : ∀ i, i < n → body (st i) (fun s => s = st (i + 1))) (he : body (st n) (fun _ => False)) : Loop body s0 := by
  subst h0
  intro X hX
  have key : ∀ k i, i + k = n → X (st i) := by
    intro k
    induction k with
    | zero => intro i hi; have : i = n := by omega
              subst this; exact hX _ _ he (fun _ h => h.elim)
    | succ k ih => intro i hi; exact hX _ _ (hs i (by omega)) (fun s' e => e ▸ ih (i + 1) (by omega))
  exact key n 0 (by omega)

/-- a search -/
theorem Loop.find {α : Type} (xs : List α) (p : α → Bool) {body : Int → (Int → Prop) → Prop} (hs : ∀ (i : Nat) x, i < xs.length → xs[i]? = some x → p x = false → body (i : Int) (fun s => s = ((i + 1 : Nat) : Int)))
    (hh : ∀ (i : Nat) x, i < xs.length → xs[i]? = some x → p x = true → xs.findIdx? p = some i → body (i : Int) (fun _ => False)) (he : (∀ x, x ∈ xs → p x = false) → xs.findIdx? p = none → body (xs.length : Int) (fun _ => False)) : Loop body 0 := by
  cases hf : xs.findIdx? p with
  | none =>
    have hn : ∀ x, x ∈ xs → p x = false := by simpa [List.findIdx?_eq_none_iff] using hf
    refine Loop.up xs.length (fun i => (i : Int)) rfl (fun i hi => ?_) (he hn hf)
    exact hs i _ hi (List.getElem?_eq_getElem hi) (hn _ (List.getElem_mem hi))
  | some m =>
    obtain ⟨hm, hp, hlt⟩ := List.findIdx?_eq_some_iff_getElem.1 hf
    refine Loop.up m (fun i => (i : Int)) rfl (fun i hi => ?_) ?_
    · have := hlt i hi
      exact hs i _ (by omega) (List.getElem?_eq_getElem (by omega)) (by simpa using this)
    · exact hh m _ hm (List.getElem?_eq_getElem hm) hp hf

section
variable {κ α : Type} [DecidableEq κ]
end

section
variable {κ α : Type} [DecidableEq κ]
/-- how many entries of a map have not been seen -/
def left (xs : List (κ × α)) (seen : List κ) : Nat := (xs.filter fun p => decide (p.1 ∉ seen)).length
end
end Go.Taq
