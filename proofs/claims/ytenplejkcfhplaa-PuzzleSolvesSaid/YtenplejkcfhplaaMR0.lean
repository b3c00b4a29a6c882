/- The mathematics, part R0: more about loops and joins, and lists. -/
import Derived.Test.YtenplejkcfhplaaMA
set_option linter.unusedVariables false
namespace Go.Taq
open Go

/-- a loop with a counter -/
theorem Loop.inv {σ : Type} {body : σ → (σ → Prop) → Prop} {s0 : σ} (n : Nat) (I : Nat → σ → Prop) (h0 : I 0 s0) (hs : ∀ i s, i < n → I i s → body s (I (i + 1))) (he : ∀ s, I n s → body s (fun _ => False)) : Loop body s0 := by
  intro X hX
  have key : ∀ k i, i + k = n → ∀ s, I i s → X s := by
    intro k
    induction k with
    | zero => intro i hi s h; have : i = n := by omega
              subst this; exact hX _ _ (he s h) (fun _ h => h.elim)
    | succ k ih => intro i hi s h; exact hX _ _ (hs i s (by omega) h) (fun s' e => ih (i + 1) (by omega) s' e)
  exact key n 0 (by omega) s0 h0

theorem Jn.ex {σ α : Type} {P : α → Prop} {A : α → (σ → Prop) → Prop} {k : σ → Prop} (x : α) (hx : P x) (h : Jn (A x) k) : Jn (fun J => ∃ x, P x ∧ A x J) k := by
  obtain ⟨J, h1, h2⟩ := h
  exact ⟨J, h1, x, hx, h2⟩
theorem w64_nat {i n : Nat} (h : i < n) (hn : n ≤ maxLen) : w64 ((i : Int) + 1) = ((i + 1 : Nat) : Int) := by
  rw [w64_eq (by omega) (by simp [maxLen] at hn; omega)]; simp
theorem Ite.lt {i n : Int} {A B : Prop} (h : i < n) (k : A) : Ite (decide (i < n)) A B := Ite.t (by simpa using h) k
theorem Ite.nlt {i n : Int} {A B : Prop} (h : ¬ i < n) (k : B) : Ite (decide (i < n)) A B := Ite.f (by simpa using h) k
section
variable {α : Type} {xs : List α} (hm : xs.length ≤ maxLen)
include hm
end
end Go.Taq
