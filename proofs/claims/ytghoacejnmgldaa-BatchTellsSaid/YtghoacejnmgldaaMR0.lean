/- The mathematics, part R0: more about loops and joins, and lists. -/
import Derived.Test.YtghoacejnmgldaaMA
set_option linter.unusedVariables false
namespace Go.Taq
open Go

/-- a loop with a counter -/
theorem Loop.inv {σ : Type} {body : σ → (σ → Prop) → Prop} {s0 : σ} (n : Nat) (I : Nat → σ → Prop) (h0 : I 0 s0) (hs : ∀ i s, i < n → I i s → body s (I (i + 1))) (he : ∀ s, I n s → body s (fun _ => False)) : Loop body s0 := by
  intro X hX
  have key : ∀ k i, i + k = n → ∀ s, I i s → X s := by
    intro k
    induction k with
    | zero => intro i hi s h; have : i = n := by omega
              subst this; exact hX _ _ (he s h) (fun _ h => h.elim)
    | succ k ih => intro i hi s h; exact hX _ _ (hs i s (by omega) h) (fun s' e => ih (i + 1) (by omega) s' e)
  exact key n 0 (by omega) s0 h0

theorem w64_nat {i n : Nat} (h : i < n) (hn : n ≤ maxLen) : w64 ((i : Int) + 1) = ((i + 1 : Nat) : Int) := by
  rw [w64_eq (by omega) (by simp [maxLen] at hn; omega)]; simp
theorem Ite.lt {i n : Int} {A B : Prop} (h : i < n) (k : A) : Ite (decide (i < n)) A B := Ite.t (by simpa using h) k
theorem Ite.nlt {i n : Int} {A B : Prop} (h : ¬ i < n) (k : B) : Ite (decide (i < n)) A B := Ite.f (by simpa using h) k
/-- searches -/
theorem V_findc {α : Type} {xs : List α} (hm : xs.length ≤ maxLen) (p : α → Bool) {T : α → (Bool → Prop) → Prop} (hT : ∀ x, x ∈ xs → ∀ {post : Bool → Prop}, post (p x) → T x post) {A : Int → α → Prop} {B : Prop}
    (hA : ∀ (i : Nat) x, xs[i]? = some x → p x = true → xs.findIdx? p = some i → A (i : Int) x) (hB : (∀ x, x ∈ xs → p x = false) → xs.findIdx? p = none → B) :
    Jn (fun (J : Unit → Prop) => Loop (fun (s : Int) Y => Ite (decide (s < (xs.length : Int))) (∃ x, idx xs s = some x ∧ T x (fun b => Ite b (A s x) (Y (w64 (s + 1))))) (J ())) 0) (fun _ => B) := by
  refine Jn.mk (fun _ => B) (Loop.find xs p (fun i x hi hx hp => ?_) (fun i x hi hx hp hf => ?_) (fun hn hf => ?_)) (fun _ h => h)
  · exact Ite.lt (by omega) ⟨x, idx_of rfl hx, hT x (List.mem_of_getElem? hx) (Ite.f hp (w64_nat hi hm))⟩
  · exact Ite.lt (by omega) ⟨x, idx_of rfl hx, hT x (List.mem_of_getElem? hx) (Ite.t hp (hA i x hx hp hf))⟩
  · exact Ite.nlt (by omega) (hB hn hf)
section
variable {α : Type} {xs : List α} (hm : xs.length ≤ maxLen)
include hm
theorem V_fidxc (p : α → Bool) {T : α → (Bool → Prop) → Prop} (hT : ∀ x, x ∈ xs → ∀ {post : Bool → Prop}, post (p x) → T x post) {post : Int → Prop} (hp : post (fidx p xs)) :
    Jn (fun (J : Unit → Prop) => Loop (fun (s : Int) Y => Ite (decide (s < (xs.length : Int))) (∃ x, idx xs s = some x ∧ T x (fun b => Ite b (post s) (Y (w64 (s + 1))))) (J ())) 0) (fun _ => post (-1)) :=
  V_findc hm p hT (A := fun s _ => post s) (fun i x _ _ hf => by rw [fidx, hf] at hp; exact hp) (fun hn hf => by rw [fidx, hf] at hp; exact hp)
end
theorem sub0 {α : Type} {xs : List α} {i : Nat} : sub xs 0 (i : Int) = xs.take i := by simp [sub]
end Go.Taq
