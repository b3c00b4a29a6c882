/- The mathematics, several parts in one text. -/
import Derived.Test.YtbekicmmgohfbaaGreatMT
import Derived.Test.YtbekicmmgohfbaaGreatLibZR
import Derived.Test.YtbekicmmgohfbaaGreatMD
/- The mathematics, part U: a good walk and Check; the best walk. -/
set_option linter.unusedVariables false
namespace Go.Taq
open Go
section

end
end Go.Taq

/- The mathematics, part QA: loops whose state has a counter and more; ranges over lists; lists of places. -/
set_option linter.unusedVariables false
set_option linter.unusedSimpArgs false
namespace Go.Taq
open Go

/-- a loop over a list's places: ix is where the state keeps the place -/
theorem V_loopc {α τ : Type} {xs : List α} (hm : xs.length ≤ maxLen) (ix : τ → Int) (I : Nat → τ → Prop) {t0 : τ} (hi0 : ix t0 = 0) (h0 : I 0 t0) {R : α → τ → (τ → Prop) → Prop} {E : τ → Prop}
    (hs : ∀ (i : Nat) x t, xs[i]? = some x → ix t = (i : Int) → I i t → R x t (fun t' => ix t' = w64 ((i : Int) + 1) ∧ I (i + 1) t'))
    (he : ∀ t, I xs.length t → E t) :
    Loop (fun t Y => Ite (decide (ix t < (xs.length : Int))) (∃ x, idx xs (ix t) = some x ∧ R x t Y) (E t)) t0 := by
  refine Loop.inv xs.length (fun i t => ix t = (i : Int) ∧ I i t) ⟨by simpa using hi0, h0⟩ (fun i t hi h => ?_) (fun t h => ?_)
  · have hx : xs[i]? = some (xs[i]'hi) := List.getElem?_eq_getElem hi
    refine Ite.lt (by omega) ⟨_, by rw [h.1]; exact idx_of rfl hx, ?_⟩
    have := hs i _ t hx h.1 h.2
    rw [w64_nat hi hm] at this; exact this
  · exact Ite.nlt (by omega) (he t h.2)
/-- ... where a round is a way that meets others first -/
theorem V_loopj {α τ : Type} {xs : List α} (hm : xs.length ≤ maxLen) (ix : τ → Int) (I : Nat → τ → Prop) {t0 : τ} (hi0 : ix t0 = 0) (h0 : I 0 t0) {R : τ → (τ → Prop) → Prop} {E : τ → Prop}
    (hs : ∀ (i : Nat) x t, xs[i]? = some x → ix t = (i : Int) → I i t → R t (fun t' => ix t' = w64 ((i : Int) + 1) ∧ I (i + 1) t'))
    (he : ∀ t, I xs.length t → E t) :
    Loop (fun t Y => Ite (decide (ix t < (xs.length : Int))) (R t Y) (E t)) t0 := by
  refine Loop.inv xs.length (fun i t => ix t = (i : Int) ∧ I i t) ⟨by simpa using hi0, h0⟩ (fun i t hi h => ?_) (fun t h => ?_)
  · have hx : xs[i]? = some (xs[i]'hi) := List.getElem?_eq_getElem hi
    refine Ite.lt (by omega) ?_
    have := hs i _ t hx h.1 h.2
    rw [w64_nat hi hm] at this; exact this
  · exact Ite.nlt (by omega) (he t h.2)
/-- a range over a list -/
theorem Each.inv {α σ : Type} {body : α → σ → (σ → Prop) → Prop} {k : σ → Prop} : ∀ (ys : List α) (I : Nat → σ → Prop) {s0 : σ}, I 0 s0 → (∀ (i : Nat) x s, ys[i]? = some x → I i s → ∀ Y : σ → Prop, (∀ s', I (i + 1) s' → Y s') → body x s Y) → (∀ s, I ys.length s → k s) → Each body k ys s0
  | [], I, s0, h0, _, he => he _ h0
  | y :: ys, I, s0, h0, hs, he => hs 0 y s0 rfl h0 _ fun s' h' => Each.inv ys (fun i => I (i + 1)) h' (fun i x s hx hI Y hY => hs (i + 1) x s (by simpa using hx) hI Y hY) (fun s h => he s h)
/-- a range over numbers -/
theorem V_upto {τ : Type} (n : Nat) (ix : τ → Int) (I : Nat → τ → Prop) {t0 : τ} (hn : n ≤ maxLen) (hi0 : ix t0 = 0) (h0 : I 0 t0) {R : τ → (τ → Prop) → Prop} {E : τ → Prop}
    (hs : ∀ (i : Nat) t, i < n → ix t = (i : Int) → I i t → R t (fun t' => ix t' = w64 ((i : Int) + 1) ∧ I (i + 1) t'))
    (he : ∀ t, I n t → E t) :
    Loop (fun t Y => Ite (decide (ix t < (n : Int))) (R t Y) (E t)) t0 := by
  refine Loop.inv n (fun i t => ix t = (i : Int) ∧ I i t) ⟨by simpa using hi0, h0⟩ (fun i t hi h => ?_) (fun t h => ?_)
  · refine Ite.lt (by omega) ?_
    have := hs i t hi h.1 h.2
    rw [w64_nat hi hn] at this; exact this
  · exact Ite.nlt (by omega) (he t h.2)
/-- the first place from which something holds, as a number -/
def fnat (p : Nat → Bool) (n : Nat) : Int := match (List.range n).find? p with | some i => i | none => -1
theorem fnat_some {p : Nat → Bool} {n i : Nat} (hi : i < n) (hp : p i = true) (hb : ∀ j, j < i → p j = false) : fnat p n = i := by
  unfold fnat
  have : (List.range n).find? p = some i := by
    rw [List.find?_eq_some_iff_getElem]
    refine ⟨hp, i, by simpa using hi, by simp, fun j hj => ?_⟩
    simp [hb j hj]
  rw [this]
theorem fnat_none {p : Nat → Bool} {n : Nat} (h : ∀ i, i < n → p i = false) : fnat p n = -1 := by
  unfold fnat
  have : (List.range n).find? p = none := by
    rw [List.find?_eq_none]
    intro x hx; simp at hx; simp [h x hx]
  rw [this]
theorem fnat_cases (p : Nat → Bool) (n : Nat) : (∃ i : Nat, i < n ∧ fnat p n = i ∧ p i = true ∧ ∀ j, j < i → p j = false) ∨ (fnat p n = -1 ∧ ∀ i, i < n → p i = false) := by
  cases h : (List.range n).find? p with
  | none =>
    refine .inr ?_
    have h' : ∀ i, i < n → p i = false := fun i hi => by
      have := List.find?_eq_none.1 h i (by simpa using hi); simpa using this
    exact ⟨fnat_none h', h'⟩
  | some i =>
    refine .inl ⟨i, ?_⟩
    have hp : p i = true := List.find?_some h
    have hlt : i < n := by have := List.mem_of_find?_eq_some h; simpa using this
    have hb' : ∀ j, j < i → p j = false := by
      rw [List.find?_eq_some_iff_getElem] at h
      obtain ⟨_, k, hk, hki, hall⟩ := h
      simp at hki; subst hki
      intro j hj; have := hall j hj; simpa using this
    exact ⟨hlt, fnat_some hlt hp hb', hp, hb'⟩
theorem take_succ {α : Type} {xs : List α} {i : Nat} {x : α} (h : xs[i]? = some x) : xs.take (i + 1) = xs.take i ++ [x] := by
  rw [List.take_add_one, h]; rfl
end Go.Taq

/- The mathematics, part NA: right floors and right sites, as the program sees them (floor.Right, survey.Right). -/
set_option linter.unusedVariables false
namespace Go.Taq
open Go

end Go.Taq

/- The mathematics, part NB: survey.Right. -/
set_option linter.unusedVariables false
namespace Go.Taq
open Go

section

abbrev T17 (α : Type) := Int × Int × Int × List Int × List Int × List ApiZone × List ApiApart × List ApiShelf × List ApiStart × List (Int × Int) × List (Int × Bool) × List (Int × Bool) × List (ByteArray × Int) × List (Int × Bool) × List Int × List Int × α
def lst {α : Type} (t : T17 α) : α := t.2.2.2.2.2.2.2.2.2.2.2.2.2.2.2.2
end
end Go.Taq
