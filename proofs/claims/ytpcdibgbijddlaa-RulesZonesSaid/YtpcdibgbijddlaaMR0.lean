/- The mathematics, part R0: more about loops and joins, and lists. -/
import Derived.Test.YtpcdibgbijddlaaMA
set_option linter.unusedVariables false
namespace Go.Taq
open Go

/-- a loop with a counter -/
theorem Loop.inv {σ : Type} {body : σ → (σ → Prop) → Prop} {s0 : σ} (n : Nat) (I : Nat → σ → Prop) (h0 : I 0 s0) (hs : ∀ i s, i < n → I i s → body s (I (i + 1))) (he : ∀ s, I n s → body s (fun _ => False)) : Loop body s0 := by
  intro X hX
  have key : ∀ k i, i + k = n → ∀ s, I i s → X s := by
    intro k
    induction k with
    | zero => intro i hi s h; have : i = n := by omega
              subst this; exact hX _ _ (he s h) (fun _ h => h.elim)
    | succ k ih => intro i hi s h; exact hX _ _ (hs i s (by omega) h) (fun s' e => ih (i + 1) (by omega) s' e)
  exact key n 0 (by omega) s0 h0

theorem Jn.ex {σ α : Type} {P : α → Prop} {A : α → (σ → Prop) → Prop} {k : σ → Prop} (x : α) (hx : P x) (h : Jn (A x) k) : Jn (fun J => ∃ x, P x ∧ A x J) k := by
  obtain ⟨J, h1, h2⟩ := h
  exact ⟨J, h1, x, hx, h2⟩
theorem w64_nat {i n : Nat} (h : i < n) (hn : n ≤ maxLen) : w64 ((i : Int) + 1) = ((i + 1 : Nat) : Int) := by
  rw [w64_eq (by omega) (by simp [maxLen] at hn; omega)]; simp
theorem Ite.lt {i n : Int} {A B : Prop} (h : i < n) (k : A) : Ite (decide (i < n)) A B := Ite.t (by simpa using h) k
theorem Ite.nlt {i n : Int} {A B : Prop} (h : ¬ i < n) (k : B) : Ite (decide (i < n)) A B := Ite.f (by simpa using h) k
/-- searches -/
theorem V_findc {α : Type} {xs : List α} (hm : xs.length ≤ maxLen) (p : α → Bool) {T : α → (Bool → Prop) → Prop} (hT : ∀ x, x ∈ xs → ∀ {post : Bool → Prop}, post (p x) → T x post) {A : Int → α → Prop} {B : Prop}
    (hA : ∀ (i : Nat) x, xs[i]? = some x → p x = true → xs.findIdx? p = some i → A (i : Int) x) (hB : (∀ x, x ∈ xs → p x = false) → xs.findIdx? p = none → B) :
    Jn (fun (J : Unit → Prop) => Loop (fun (s : Int) Y => Ite (decide (s < (xs.length : Int))) (∃ x, idx xs s = some x ∧ T x (fun b => Ite b (A s x) (Y (w64 (s + 1))))) (J ())) 0) (fun _ => B) := by
  refine Jn.mk (fun _ => B) (Loop.find xs p (fun i x hi hx hp => ?_) (fun i x hi hx hp hf => ?_) (fun hn hf => ?_)) (fun _ h => h)
  · exact Ite.lt (by omega) ⟨x, idx_of rfl hx, hT x (List.mem_of_getElem? hx) (Ite.f hp (w64_nat hi hm))⟩
  · exact Ite.lt (by omega) ⟨x, idx_of rfl hx, hT x (List.mem_of_getElem? hx) (Ite.t hp (hA i x hx hp hf))⟩
  · exact Ite.nlt (by omega) (hB hn hf)
theorem any_find {α : Type} {p : α → Bool} {xs : List α} {i : Nat} (h : xs.findIdx? p = some i) : xs.any p = true := by
  obtain ⟨hm, hp, _⟩ := List.findIdx?_eq_some_iff_getElem.1 h
  exact List.any_eq_true.2 ⟨_, List.getElem_mem hm, hp⟩
theorem any_none {α : Type} {p : α → Bool} {xs : List α} (h : ∀ x, x ∈ xs → p x = false) : xs.any p = false := by
  rw [List.any_eq_false]; intro x hx; simp [h x hx]
section
variable {α : Type} {xs : List α} (hm : xs.length ≤ maxLen)
include hm
theorem V_anyc (p : α → Bool) {T : α → (Bool → Prop) → Prop} (hT : ∀ x, x ∈ xs → ∀ {post : Bool → Prop}, post (p x) → T x post) {post : Bool → Prop} (hp : post (xs.any p)) :
    Jn (fun (J : Unit → Prop) => Loop (fun (s : Int) Y => Ite (decide (s < (xs.length : Int))) (∃ x, idx xs s = some x ∧ T x (fun b => Ite b (post true) (Y (w64 (s + 1))))) (J ())) 0) (fun _ => post false) :=
  V_findc hm p hT (A := fun _ _ => post true) (fun i x _ _ hf => by rw [← any_find hf]; exact hp) (fun hn _ => by rw [← any_none hn]; exact hp)
theorem V_fidxc (p : α → Bool) {T : α → (Bool → Prop) → Prop} (hT : ∀ x, x ∈ xs → ∀ {post : Bool → Prop}, post (p x) → T x post) {post : Int → Prop} (hp : post (fidx p xs)) :
    Jn (fun (J : Unit → Prop) => Loop (fun (s : Int) Y => Ite (decide (s < (xs.length : Int))) (∃ x, idx xs s = some x ∧ T x (fun b => Ite b (post s) (Y (w64 (s + 1))))) (J ())) 0) (fun _ => post (-1)) :=
  V_findc hm p hT (A := fun s _ => post s) (fun i x _ _ hf => by rw [fidx, hf] at hp; exact hp) (fun hn hf => by rw [fidx, hf] at hp; exact hp)
theorem V_any {p : α → Bool} {post : Bool → Prop} (hp : post (xs.any p)) :
    Jn (fun (J : Unit → Prop) => Loop (fun (s : Int) Y => Ite (decide (s < (xs.length : Int))) (∃ x, idx xs s = some x ∧ Ite (p x) (post true) (Y (w64 (s + 1)))) (J ())) 0) (fun _ => post false) :=
  V_anyc hm p (T := fun x post => post (p x)) (fun _ _ _ h => h) hp
theorem V_fidx {p : α → Bool} {post : Int → Prop} (hp : post (fidx p xs)) :
    Jn (fun (J : Unit → Prop) => Loop (fun (s : Int) Y => Ite (decide (s < (xs.length : Int))) (∃ x, idx xs s = some x ∧ Ite (p x) (post s) (Y (w64 (s + 1)))) (J ())) 0) (fun _ => post (-1)) :=
  V_fidxc hm p (T := fun x post => post (p x)) (fun _ _ _ h => h) hp
end
theorem any_beq {xs : List Int} {v : Int} : xs.any (fun x => x == v) = xs.contains v := by
  rw [List.contains_eq_any_beq]; congr 1; funext x; exact Bool.eq_iff_iff.2 ⟨fun h => by simp at h ⊢; exact h.symm, fun h => by simp at h ⊢; exact h.symm⟩

/-- a loop over at most so many places of a list -/
theorem V_few {α : Type} (xs : List α) (hl : xs.length ≤ maxLen) {most : Int} {T : Int → (Bool → Prop) → Prop} (P : α → Prop) {E : Prop} {post : Bool → Prop} (hT : ∀ (i : Nat) x, idx xs (i : Int) = some x → ∀ {q : Bool → Prop}, q true → (P x → q false) → T (i : Int) q) (hF : post false) (hE : (xs.length ≤ most → ∀ x, x ∈ xs → P x) → E) :
    Jn (fun (J2 : Unit → Prop) => Loop (fun (s3 : Int) Y4 => Jn (fun (J6 : Bool → Prop) => Ite (decide (s3 < (xs.length : Int))) (J6 (decide (s3 ≤ most))) (J6 false)) (fun (x5 : Bool) => Ite x5 (T s3 (fun b => Ite b (post false) (Y4 (w64 (s3 + 1))))) (J2 ()))) 0) (fun _ => E) := by
  refine Jn.mk (fun _ => xs.length ≤ most → ∀ x, x ∈ xs → P x) (Loop.inv xs.length (fun i (t : Int) => t = (i : Int) ∧ ∀ (j : Nat) x, j < i → xs[j]? = some x → P x) ⟨rfl, fun j x h => by omega⟩ (fun i t hi h => ?_) (fun t h => ?_)) (fun _ h => hE h)
  · obtain ⟨rfl, h⟩ := h
    refine Jand2 (Ite.mk (fun h1 => ?_) (fun h1 h2 => ?_))
    · have hx : xs[i]? = some (xs[i]'hi) := List.getElem?_eq_getElem hi
      refine hT i _ (idx_of rfl hx) (Ite.t rfl hF) (fun hP => Ite.f rfl ⟨w64_nat hi hl, fun j x hj hxj => ?_⟩)
      by_cases e : j = i
      · subst e; rw [hx] at hxj; cases hxj; exact hP
      · exact h j x (by omega) hxj
    · simp at h1; omega
  · obtain ⟨rfl, h⟩ := h
    refine Jand2 (Ite.f (by simp) (fun _ x hx => ?_))
    obtain ⟨j, hj⟩ := List.getElem?_of_mem hx
    exact h j x (List.getElem?_eq_some_iff.1 hj).1 hj

theorem sub0 {α : Type} {xs : List α} {i : Nat} : sub xs 0 (i : Int) = xs.take i := by simp [sub]
theorem seq_eq {x y : ByteArray} : seq x y = true ↔ x = y := by
  unfold seq
  rw [beq_iff_eq]
  constructor
  · intro h
    have : x.data.toList = y.data.toList := by simpa [ByteArray.toList_eq] using h
    cases x; cases y; simp_all
  · rintro rfl; rfl
end Go.Taq
