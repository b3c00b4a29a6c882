/- The library of the generated walks, part U: new rows whose cells are of the frame's own; nil elements. -/
import Derived.Test.YtghoacejnmgldaaLibT
set_option linter.unusedVariables false
set_option linter.unusedSimpArgs false
namespace Go.Taq
open Go

/-- nil, seen as an empty slice or map -/
inductive Nl : AVal → AVal → Prop where
  | refl (A : AVal) : Nl A A
  | sl {α : Type} (n : Nat) (enc : α → List AVal) : Nl (.v (.slice none 0 0)) (.sl n enc [])
  | os {α : Type} (n : Nat) (enc : α → List AVal) : Nl (.v (.slice none 0 0)) (.os n enc [])
  | rm {κ α : Type} (ke : κ → Value) (ve : α → AVal) : Nl (.v (.map none)) (.rm ke ve [])
inductive NlL : List AVal → List AVal → Prop where
  | refl (l : List AVal) : NlL l l
  | nil : NlL [] []
  | cons {A A' : AVal} {r r' : List AVal} (h : Nl A A') (hr : NlL r r') : NlL (A :: r) (A' :: r')
inductive NlR {α γ : Type} (enc : α → List AVal) (enc' : γ → List AVal) : List α → List γ → Prop where
  | nil : NlR enc enc' [] []
  | cons {x : α} {y : γ} {r : List α} {r' : List γ} (h : NlL (enc x) (enc' y)) (hr : NlR enc enc' r r') : NlR enc enc' (x :: r) (y :: r')
theorem NlL.get : ∀ {c c' : List AVal}, NlL c c' → c.length = c'.length ∧ ∀ (j : Nat) (A' : AVal), c'[j]? = some A' → ∃ A, c[j]? = some A ∧ Nl A A'
  | _, _, .refl l => ⟨rfl, fun j A h => ⟨A, h, .refl A⟩⟩
  | _, _, .nil => ⟨rfl, by simp⟩
  | _, _, .cons h hr => by
    obtain ⟨e1, e2⟩ := hr.get
    refine ⟨by simp [e1], fun j C hC => ?_⟩
    cases j with
    | zero => simp at hC; subst hC; exact ⟨_, rfl, h⟩
    | succ j => obtain ⟨S', h3, h4⟩ := e2 j C (by simpa using hC); exact ⟨S', by simpa using h3, h4⟩
theorem NlR.get {α γ : Type} {enc : α → List AVal} {enc' : γ → List AVal} : ∀ {xs : List α} {ys : List γ}, NlR enc enc' xs ys → xs.length = ys.length ∧ ∀ (i : Nat) (y : γ), ys[i]? = some y → ∃ x, xs[i]? = some x ∧ NlL (enc x) (enc' y)
  | _, _, .nil => ⟨rfl, by simp⟩
  | _, _, .cons h hr => by
    obtain ⟨e1, e2⟩ := hr.get
    refine ⟨by simp [e1], fun i y hy => ?_⟩
    cases i with
    | zero => simp at hy; subst hy; exact ⟨_, rfl, h⟩
    | succ i => obtain ⟨x, h3, h4⟩ := e2 i y (by simpa using hy); exact ⟨x, by simpa using h3, h4⟩
theorem Nl.on {w0 w : World} {ok : Nat → Prop} {A A' : AVal} {x : Value} {F : Nat → Prop} (h : Nl A A') (hon : On w0 ok w A x F) : On w0 ok w A' x F := by
  cases h with
  | refl => exact hon
  | sl n enc => have := hon.ro_of rfl; cases this; exact .ro _ (.slNil n enc none)
  | os n enc => have := hon.ro_of rfl; cases this; exact .osNil n enc _ none
  | rm ke ve => have := hon.ro_of rfl; cases this; exact .ro _ (.rmNil ke ve)
theorem NlR.on {α γ : Type} {n : Nat} {enc : α → List AVal} {enc' : γ → List AVal} {xs : List α} {ys : List γ} (h : NlR enc enc' xs ys) {w0 w : World} {ok : Nat → Prop} {x : Value} {F : Nat → Prop} (hon : On w0 ok w (.os n enc xs) x F) : On w0 ok w (.os n enc' ys) x F := by
  obtain ⟨hl, hg⟩ := h.get
  by_cases hx : xs = []
  · subst hx
    have : ys = [] := List.eq_nil_of_length_eq_zero hl.symm
    subst this
    generalize hA : AVal.os n enc [] = A at hon
    cases hon with
    | ro F h => subst hA; cases h
    | arr => cases hA
    | om => cases hA
    | osNil n2 enc2 F p => cases hA; exact .osNil _ _ _ p
    | os n2 enc2 xs2 b off cap c T F G hb hw hlen hcap hn hG hd hr => cases hA; exact .os n enc' [] b off cap c T F (fun _ _ _ => False) hb hw (by simp) hcap (by simp) (fun _ _ _ h => h.elim) (fun _ _ _ _ _ h => h.elim) (by simp)
  · obtain ⟨b, off, cap, c, T, G, rfl, hb, hw, hlen, hcap, hn, hG, hd, hr⟩ := hon.os_inv hx
    rw [hl] at hlen ⊢
    refine .os n enc' ys b off cap c T F G hb hw hlen hcap (fun i y hy => ?_) hG hd (fun i j y A hy hA => ?_)
    · obtain ⟨x, h1, h2⟩ := hg i y hy
      rw [← h2.get.1]; exact hn i x h1
    · obtain ⟨x, h1, h2⟩ := hg i y hy
      obtain ⟨A', h3, h4⟩ := h2.get.2 j A hA
      exact h4.on (hr i j x A' h1 h3)

section
variable {P : Program} {B : Base} {tb : Tab} {Γ : Env} {H : Heap} {nl : Nat} {o : Oper} {X : Act → World → Prop}

end
end Go.Taq
